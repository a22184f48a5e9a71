/- A law's proof, a part: what the code answers. -/
import Derived.Test.YtdofdhlpheaonaaDoorKTA
namespace Go.Proofs.YtdofdhlpheaonaaDoorKT
open Go Go.Proofs.YtdofdhlpheaonaaDoorVM
set_option linter.unusedVariables false
set_option linter.unusedSimpArgs false
set_option maxRecDepth 100000

theorem wE_pr {d : Nat} {e p : T} (h : p ∈ prsE e) : wE d (val p) ≤ wE (d + 1) e := by
  rw [wE]
  have := sum_mem (f := fun p => wE d (val p)) h
  omega
theorem wE_kid {d : Nat} {e k : T} (h : k ∈ kidsE e) : wE d k ≤ wE (d + 1) e := by
  rw [wE]
  have := sum_mem (f := wE d) h
  omega
theorem in15_does {g : T → List UInt8} {k : T} (need : Int) (hg : (g k).length ≤ 100000000) (h1 : 1 ≤ opE k) (h2 : opE k ≤ 15) (h : Dz i_show_text none [A.t k] (1, [A.t (T.str (sb (g k)))])) :
    Dz i_show_in none [A.t k, A.t (T.int need)] (1, [A.t (T.str (sb (if lev (opE k) < need then [40] ++ g k ++ [41] else g k)))]) := by
  obtain ⟨n1, g1⟩ := (level_does k h1 h2).both h
  obtain ⟨n2, g2⟩ := glue_does [[40], g k, [41]] (by simp) (by simp; omega)
  refine Does.of (n1 + n2) fun m hm => ?_
  obtain ⟨q1, q2⟩ := g1 m (by omega)
  have q3 : den Tryd.prog G0 ents m i_show_glue_o none [A.t (T.node [T.str ⟨List.toArray [40]⟩, T.str (sb (g k)), T.str ⟨List.toArray [41]⟩])] = _ := g2 m (by omega)
  rw [q_show_in]
  simp only [S0, S9, S1, S2, if_true, if_false, q1, q2, q3]
  by_cases c : lev (opE k) < need
  · rw [if_pos c, if_pos c]; simp
  · rw [if_neg c, if_neg c]
theorem kids_does {g : T → List UInt8} {e : T} (ho1 : 11 ≤ opE e) (ho2 : opE e ≤ 15) (hl : (kidsE e).length ≤ 200) (hj : (Lib.join (kidL g (opE e) (kidsE e)) (signL (opE e))).length ≤ 100000000)
    (hk : ∀ k ∈ kidsE e, (g k).length ≤ 100000000 ∧ 1 ≤ opE k ∧ opE k ≤ 15 ∧ Dz i_show_text none [A.t k] (1, [A.t (T.str (sb (g k)))])) :
    Dz i_show_kids none [A.t e] (1, [A.t (T.str (sb (Lib.join (kidL g (opE e) (kidsE e)) (signL (opE e)))))]) := by
  have hll := kidL_len g (opE e) (kidsE e)
  have hlv : 1 ≤ lev (opE e) ∧ lev (opE e) ≤ 5 := by unfold lev; repeat' split
                                                     all_goals omega
  have hloop := Dz.go (i := i_show_kids) (p := some p_show_kids_c1) (R := (2, [A.t e, A.t (T.node (ss (kidL g (opE e) (kidsE e))))])) (kidsE e).length
      (fun j => [A.t (T.node (kidsE e)), A.t (T.int ((kidsE e).length : Nat)), A.t (T.int j), A.t e, A.t (T.node (ss ((kidL g (opE e) (kidsE e)).take j)))]) (by
        refine Does.now fun m => ?_
        rw [q_show_kids_c1, List.take_of_length_le (by omega)]
        simp only [S0, S9, S1, S2, if_true, if_false]
        rw [if_neg (by omega)]) (fun j hj R hR => by
        have hw : IntKind.i64.wrap ((j : Int) + 1) = ((j + 1 : Nat) : Int) := i64succ (by omega)
        have hget := kidL_get g (opE e) hj
        have ht : ss ((kidL g (opE e) (kidsE e)).take (j + 1)) = ss ((kidL g (opE e) (kidsE e)).take j) ++ [T.str (sb (kidX g (opE e) (decide (j = 0)) (kidsE e)[j]))] := by
          rw [List.take_add_one, hget]
          unfold ss
          rw [List.map_append]; rfl
        have hkj := hk _ (List.getElem_mem hj)
        have hin := fun need => in15_does (g := g) (k := (kidsE e)[j]) need hkj.1 hkj.2.1 hkj.2.2.1 hkj.2.2.2
        have hw1 : IntKind.wrap IntKind.i64 (lev (opE e) + 1) = lev (opE e) + 1 := w64 (by omega) (by omega)
        have hw2 : IntKind.wrap IntKind.i64 (lev (opE e) + 1 - 1) = lev (opE e) := by rw [w64 (by omega) (by omega)]; omega
        obtain ⟨n0, h0⟩ := hR
        obtain ⟨n1, h1⟩ := (hin (lev (opE e))).both (hin (lev (opE e) + 1))
        obtain ⟨n2, h2⟩ := level_does e (by omega) (by omega)
        refine Does.of (n0 + n1 + n2) fun m hm => ?_
        have q := h0 m (by omega)
        obtain ⟨q1, q2⟩ := h1 m (by omega)
        rw [ht] at q
        rw [q_show_kids_c1]
        simp only [S0, S9, S1, S2, if_true, if_false, SY, at_get hj, hw, hw1, hw2, h2 m (by omega), q1, q2, ss_len, List.length_take, hll]
        rw [if_pos (by omega), if_pos (by omega)]
        have hmn : (min j (kidsE e).length).succ < 1073741824 := by show _ + 1 < _; omega
        simp only [hmn, if_true]
        unfold kidX brk at q
        simp only [decide_eq_true_eq] at q
        by_cases c0 : j = 0
        · rw [if_pos (by omega)]
          by_cases c1 : opE e = 12
          · rw [if_neg (fun h => h c1)]
            rw [if_neg (show ¬ (j = 0 ∧ ¬opE e = 12 ∧ ¬opE e = 11) from fun h => h.2.1 c1)] at q
            exact q
          · rw [if_pos c1]
            by_cases c2 : opE e = 11
            · rw [if_neg (fun h => h c2)]
              rw [if_neg (show ¬ (j = 0 ∧ ¬opE e = 12 ∧ ¬opE e = 11) from fun h => h.2.2 c2)] at q
              exact q
            · rw [if_pos c2]
              rw [if_pos (show (j = 0 ∧ ¬opE e = 12 ∧ ¬opE e = 11) from ⟨c0, c1, c2⟩)] at q
              exact q
        · rw [if_neg (by omega)]
          rw [if_neg (show ¬ (j = 0 ∧ ¬opE e = 12 ∧ ¬opE e = 11) from fun h => c0 h.1)] at q
          exact q)
  obtain ⟨n0, h0⟩ := hloop.both (joinO_does (kidL g (opE e) (kidsE e)) (signL (opE e)) (by omega) (by omega))
  refine Does.of n0 fun m hm => ?_
  obtain ⟨q, q2⟩ := h0 m hm
  have q1 : den Tryd.prog G0 ents m i_show_kids (some p_show_kids_c1) [A.t (T.node (kidsE e)), A.t (T.int ((kidsE e).length : Nat)), A.t (T.int 0), A.t e, A.t (T.node [])] = _ := q
  have hsg : ((T.node [T.str (bs []),T.str (bs []),T.str (bs []),T.str (bs []),T.str (bs []),T.str (bs []),T.str (bs []),T.str (bs []),T.str (bs []),T.str (bs []),T.str (bs []),T.str (bs [32,38,32]),T.str (bs [32,124,32]),T.str (bs [32,43,32]),T.str (bs [32,45,32]),T.str (bs [32,42,32])]).get (Int.toNat (opE e))).txt = sb (signL (opE e)) := by
    have : opE e = 11 ∨ opE e = 12 ∨ opE e = 13 ∨ opE e = 14 ∨ opE e = 15 := by omega
    rcases this with h | h | h | h | h <;> rw [h] <;> rfl
  simp only [S9] at hsg
  rw [q_show_kids]
  simp only [S0, S9, S1, S2, if_true, if_false, SY, q1, hsg, q2]
  rw [if_pos (by omega)]
theorem fields_does10 {g : T → List UInt8} {e : T} (hl : (prsE e).length ≤ 200) (hj : (Lib.join (prL g e) [32]).length ≤ 100000000)
    (hk : ∀ p ∈ prsE e, (nm p).size ≤ 1000 ∧ (g (val p)).length ≤ 100000000 ∧ Dz i_show_text none [A.t (val p)] (1, [A.t (T.str (sb (g (val p))))])) :
    Dz i_show_fields none [A.t e] (1, [A.t (T.str (sb ([123] ++ Lib.join (prL g e) [32] ++ [125])))]) := by
  have hloop := Dz.go (i := i_show_fields) (p := some p_show_fields_c1) (R := (2, [A.t e, A.t (T.node (ss ((prsE e).map (prX g))))])) (prsE e).length
      (fun j => [A.t (T.node (prsE e)), A.t (T.int ((prsE e).length : Nat)), A.t (T.int j), A.t e, A.t (T.node (ss (((prsE e).take j).map (prX g))))]) (by
        refine Does.now fun m => ?_
        rw [q_show_fields_c1, List.take_of_length_le (by omega)]
        simp only [S0, S9, S1, S2, if_true, if_false]
        rw [if_neg (by omega)]) (fun j hj R hR => by
        have hw : IntKind.i64.wrap ((j : Int) + 1) = ((j + 1 : Nat) : Int) := i64succ (by omega)
        have ht : ss (((prsE e).take (j + 1)).map (prX g)) = ss (((prsE e).take j).map (prX g)) ++ [T.str (sb (prX g (prsE e)[j]))] := by
          rw [List.take_add_one, List.getElem?_eq_getElem hj, List.map_append]
          unfold ss
          rw [List.map_append]; rfl
        obtain ⟨hk1, hk2, hk3⟩ := hk _ (List.getElem_mem hj)
        have hgl := glue_does [byt (nm (prsE e)[j]), [58, 32], g (val (prsE e)[j]), [59]] (by simp) (by simp [byt_len]; omega)
        have e1 : sb (byt (nm (prsE e)[j])) = nm (prsE e)[j] := sb_toList _
        have e2 : [byt (nm (prsE e)[j]), [58, 32], g (val (prsE e)[j]), [59]].flatten = prX g (prsE e)[j] := by unfold prX; simp
        rw [e2] at hgl
        obtain ⟨n0, h0⟩ := hR
        obtain ⟨n1, h1⟩ := hk3.both hgl
        refine Does.of (n0 + n1) fun m hm => ?_
        have q := h0 m (by omega)
        obtain ⟨q1, q2⟩ := h1 m (by omega)
        rw [ht] at q
        unfold ss at q2
        simp only [List.map_cons, List.map_nil, e1] at q2
        have q3 : den Tryd.prog G0 ents m i_show_glue_o none [A.t (T.node [T.str (nm (prsE e)[j]), T.str ⟨List.toArray [58, 32]⟩, T.str (sb (g (val (prsE e)[j]))), T.str ⟨List.toArray [59]⟩])] = _ := q2
        rw [q_show_fields_c1]
        simp only [S0, S9, S1, S2, if_true, if_false, at_get hj, nm_eq, val_eq, hw, q1, q3, ss_len, List.length_map, List.length_take, q]
        rw [if_pos (by omega), if_pos (by omega), if_pos (by omega)])
  have e2 : ∀ x : List UInt8, [[123], x, [125]].flatten = [123] ++ x ++ [125] := fun x => by simp
  have hlen : (prL g e).length ≤ 201 := by
    unfold prL
    rw [List.length_append, List.length_map]
    split
    · simp; omega
    · simp; omega
  have hgl := glue_does [[123], Lib.join (prL g e) [32], [125]] (by simp) (by simp; omega)
  rw [e2] at hgl
  obtain ⟨n0, h0⟩ := hloop.both (joinO_does (prL g e) [32] (by omega) (by omega))
  obtain ⟨n1, h1⟩ := hgl
  refine Does.of (n0 + n1) fun m hm => ?_
  obtain ⟨q, q2⟩ := h0 m (by omega)
  have q1 : den Tryd.prog G0 ents m i_show_fields (some p_show_fields_c1) [A.t (T.node (prsE e)), A.t (T.int ((prsE e).length : Nat)), A.t (T.int 0), A.t e, A.t (T.node [])] = _ := q
  have q3 : den Tryd.prog G0 ents m i_show_glue_o none [A.t (T.node [T.str ⟨List.toArray [123]⟩, T.str (sb (Lib.join (prL g e) [32])), T.str ⟨List.toArray [125]⟩])] = _ := h1 m (by omega)
  have q4 : den Tryd.prog G0 ents m i_strings_Join_o none [A.t (T.str ⟨List.toArray [32]⟩), A.t (T.node (ss (prL g e)))] = _ := q2
  rw [q_show_fields]
  cases ho : openE e with
  | true =>
    have e3 : ss (prL g e) = ss ((prsE e).map (prX g)) ++ [T.str ⟨List.toArray [46, 46, 46]⟩] := by
      unfold prL ss
      rw [if_pos ho, List.map_append]; rfl
    rw [e3] at q4
    simp only [S0, S9, S1, S2, if_true, if_false, SY, q1, ho, ss_len, List.length_map, q4, q3]
    rw [if_pos (by omega)]
  | false =>
    have e3 : ss (prL g e) = ss ((prsE e).map (prX g)) := by
      unfold prL
      rw [if_neg (by rw [ho]; decide), List.append_nil]
    rw [e3] at q4
    simp only [S0, S9, S1, S2, if_true, if_false, SY, q1, ho, ss_len, List.length_map, q4, q3]
theorem etext_does : ∀ (d : Nat) (e : T), Ed d e → rgt d e = true → wE d e ≤ 200 → Dz i_show_text none [A.t e] (1, [A.t (T.str (sb (txE d e)))])
  | 0, e, h, hr, hw => h.elim
  | d + 1, e, h, hr, hw => by
    have hop := rgt_op hr
    have hlen := txE_len (d + 1) e h
    have hl := h.1
    rw [txE] at hlen ⊢
    by_cases o1 : opE e = 1
    · have := rgt_num hr (Or.inl o1)
      obtain ⟨n0, h0⟩ := text_does (numE e) this.1 this.2
      refine Does.of n0 fun m hm => ?_
      rw [q_show_text, if_pos o1]
      simp only [S0, S9, S1, S2, if_true, if_false, SY, h0 m hm, o1]
    by_cases o2 : opE e = 2
    · obtain ⟨n0, h0⟩ := quote_does (txtE e) (by omega)
      refine Does.of n0 fun m hm => ?_
      rw [q_show_text, if_neg o1, if_pos o2]
      simp only [S0, S9, S1, S2, if_true, if_false, SY, h0 m hm]
      rw [if_neg o1, if_pos o2]
    by_cases o3 : opE e = 3
    · refine Does.now fun m => ?_
      rw [q_show_text, if_neg o1, if_neg o2, if_pos o3]
      simp only [S0, S9, S1, S2, if_true, if_false, SY]
      rw [if_neg o1, if_neg o2, if_pos o3]
      split <;> rfl
    by_cases o4 : opE e = 4
    · refine Does.now fun m => ?_
      have hk := rgt_kind hr o4
      rw [q_show_text, if_neg o1, if_neg o2, if_neg o3, if_pos o4]
      have h1 : T.n (T.g e 0) = opE e := rfl
      have h2 : T.n (T.g e 1) = numE e := rfl
      simp only [h1, h2, o4]
      rcases hk with hk | hk | hk | hk <;> rw [hk] <;> rfl
    by_cases o5 : opE e = 5
    · refine Does.now fun m => ?_
      rw [q_show_text, if_neg o1, if_neg o2, if_neg o3, if_neg o4, if_pos o5]
      simp only [S0, S9, S1, S2, if_true, if_false, SY]
      rw [if_neg o1, if_neg o2, if_neg o3, if_neg o4, if_pos o5]
      rfl
    by_cases o6 : opE e = 6
    · refine Does.now fun m => ?_
      rw [q_show_text, if_neg o1, if_neg o2, if_neg o3, if_neg o4, if_neg o5, if_pos o6]
      simp only [S0, S9, S1, S2, if_true, if_false, SY]
      rw [if_neg o1, if_neg o2, if_neg o3, if_neg o4, if_neg o5, if_pos o6]
      rfl
    have hn21 := numTxt_len (numE e)
    by_cases o7 : opE e = 7
    · have := rgt_num hr (Or.inr (Or.inl o7))
      have hgl := glue_does [[62, 61], numTxt (numE e)] (by simp) (by simp; omega)
      have e2 : [[62, 61], numTxt (numE e)].flatten = [62, 61] ++ numTxt (numE e) := by simp
      rw [e2] at hgl
      obtain ⟨n0, h0⟩ := (text_does (numE e) this.1 this.2).both hgl
      refine Does.of n0 fun m hm => ?_
      obtain ⟨a1, a2⟩ := h0 m hm
      have a3 : den Tryd.prog G0 ents m i_show_glue_o none [A.t (T.node [T.str ⟨List.toArray [62, 61]⟩, T.str (sb (numTxt (numE e)))])] = _ := a2
      rw [q_show_text, if_neg o1, if_neg o2, if_neg o3, if_neg o4, if_neg o5, if_neg o6, if_pos o7]
      simp only [S0, S9, S1, S2, if_true, if_false, SY, a1, a3]
      rw [if_neg o1, if_neg o2, if_neg o3, if_neg o4, if_neg o5, if_neg o6, if_pos o7]
    by_cases o8 : opE e = 8
    · have := rgt_num hr (Or.inr (Or.inr o8))
      have hgl := glue_does [[60, 61], numTxt (numE e)] (by simp) (by simp; omega)
      have e2 : [[60, 61], numTxt (numE e)].flatten = [60, 61] ++ numTxt (numE e) := by simp
      rw [e2] at hgl
      obtain ⟨n0, h0⟩ := (text_does (numE e) this.1 this.2).both hgl
      refine Does.of n0 fun m hm => ?_
      obtain ⟨a1, a2⟩ := h0 m hm
      have a3 : den Tryd.prog G0 ents m i_show_glue_o none [A.t (T.node [T.str ⟨List.toArray [60, 61]⟩, T.str (sb (numTxt (numE e)))])] = _ := a2
      rw [q_show_text, if_neg o1, if_neg o2, if_neg o3, if_neg o4, if_neg o5, if_neg o6, if_neg o7, if_pos o8]
      simp only [S0, S9, S1, S2, if_true, if_false, SY, a1, a3]
      rw [if_neg o1, if_neg o2, if_neg o3, if_neg o4, if_neg o5, if_neg o6, if_neg o7, if_pos o8]
    rw [if_neg o1, if_neg o2, if_neg o3, if_neg o4, if_neg o5, if_neg o6, if_neg o7, if_neg o8] at hlen
    by_cases o9 : opE e = 9
    · rw [if_pos o9] at hlen
      obtain ⟨n0, h0⟩ := nameText_does (pathE e) (by omega) (rgt_path hr o9) (by omega)
      refine Does.of n0 fun m hm => ?_
      rw [q_show_text, if_neg o1, if_neg o2, if_neg o3, if_neg o4, if_neg o5, if_neg o6, if_neg o7, if_neg o8, if_pos o9]
      simp only [S0, S9, S1, S2, if_true, if_false, SY, h0 m hm]
      rw [if_neg o1, if_neg o2, if_neg o3, if_neg o4, if_neg o5, if_neg o6, if_neg o7, if_neg o8, if_pos o9]
    rw [if_neg o9] at hlen
    have hrp := rgt_parts hr
    unfold partsE at hrp
    by_cases o10 : opE e = 10
    · rw [if_pos o10] at hlen hrp
      rw [List.length_append, List.length_append] at hlen
      obtain ⟨n0, h0⟩ := fields_does10 (g := txE d) (e := e) (by omega) (by omega) (fun p hp => by
        have h1 := h.2.2.1 p hp
        have h2 := wE_pr (d := d) hp
        have h3 := txE_len d (val p) h1.2
        exact ⟨by omega, by omega, etext_does d (val p) h1.2 (hrp _ (List.mem_map_of_mem hp)) (by omega)⟩)
      refine Does.of n0 fun m hm => ?_
      rw [q_show_text, if_neg o1, if_neg o2, if_neg o3, if_neg o4, if_neg o5, if_neg o6, if_neg o7, if_neg o8, if_neg o9, if_pos o10]
      simp only [S0, S9, S1, S2, if_true, if_false, SY, h0 m hm]
      rw [if_neg o1, if_neg o2, if_neg o3, if_neg o4, if_neg o5, if_neg o6, if_neg o7, if_neg o8, if_neg o9, if_pos o10]
    rw [if_neg o10] at hlen hrp
    obtain ⟨n0, h0⟩ := kids_does (g := txE d) (e := e) (by omega) (by omega) (by omega) (by omega) (fun k hk => by
      have h1 := h.2.2.2 k hk
      have h2 := wE_kid (d := d) hk
      have h3 := txE_len d k h1
      have h4 := hrp k hk
      exact ⟨by omega, (rgt_op h4).1, (rgt_op h4).2, etext_does d k h1 h4 (by omega)⟩)
    refine Does.of n0 fun m hm => ?_
    rw [q_show_text, if_neg o1, if_neg o2, if_neg o3, if_neg o4, if_neg o5, if_neg o6, if_neg o7, if_neg o8, if_neg o9, if_neg o10]
    simp only [S0, S9, S1, S2, if_true, if_false, SY, h0 m hm]
    rw [if_neg o1, if_neg o2, if_neg o3, if_neg o4, if_neg o5, if_neg o6, if_neg o7, if_neg o8, if_neg o9, if_neg o10]
end Go.Proofs.YtdofdhlpheaonaaDoorKT
namespace Go.Proofs.YtdofdhlpheaonaaDoorKT
open Go Go.Proofs.YtdofdhlpheaonaaDoorVM
set_option linter.unusedVariables false
set_option linter.unusedSimpArgs false
set_option maxRecDepth 100000

theorem sbE1 : (⟨List.toArray []⟩ : ByteArray) = sb [] := rfl
theorem sb_byt (s : ByteArray) : sb (byt s) = s := sb_toList s
theorem rof_prs {g : T → List UInt8} {e : T} (hl : (prsE e).length ≤ 200) (hj : (Lib.join ((prsE e).map (prX g)) [32]).length ≤ 100000000)
    (hk : ∀ p ∈ prsE e, (nm p).size ≤ 1000 ∧ (g (val p)).length ≤ 100000000 ∧ Dz i_R15_Of none [A.t (val p)] (1, [A.t (T.str (sb (g (val p))))])) :
    Dz i_R15_Of (some p_R15_Of_c1) [A.t (T.str (sb [])), A.t (T.int 0), A.t e] (3, [A.t (T.str (sb (Lib.join ((prsE e).map (prX g)) [32]))), A.t e]) := by
  refine Dz.go (i := i_R15_Of) (p := some p_R15_Of_c1) (R := (3, [A.t (T.str (sb (Lib.join ((prsE e).map (prX g)) [32]))), A.t e])) (prsE e).length
      (fun j => [A.t (T.str (sb (Lib.join (((prsE e).map (prX g)).take j) [32]))), A.t (T.int j), A.t e]) (by
        refine Does.now fun m => ?_
        rw [q_R15_Of_c1, List.take_of_length_le (by rw [List.length_map]; omega)]
        simp only [S0, S9, S1, S2, if_true, if_false, SY]
        rw [if_neg (by omega)]) (fun j hj' R hR => by
        have hw : IntKind.i64.wrap ((j : Int) + 1) = ((j + 1 : Nat) : Int) := i64succ (by omega)
        have hget : ((prsE e).map (prX g))[j]? = some (prX g (prsE e)[j]) := by rw [List.getElem?_map, List.getElem?_eq_getElem hj']; rfl
        have ht := join_succ (sep := [32]) hget
        have hle := join_take_le ((prsE e).map (prX g)) [32] (j + 1)
        have hle0 := join_take_le ((prsE e).map (prX g)) [32] j
        obtain ⟨hk1, hk2, hk3⟩ := hk _ (List.getElem_mem hj')
        obtain ⟨n0, h0⟩ := hR
        obtain ⟨n1, h1⟩ := hk3
        refine Does.of (n0 + n1) fun m hm => ?_
        have q := h0 m (by omega)
        have q1 := h1 m (by omega)
        rw [ht] at q
        have z1 : (⟨List.toArray [32]⟩ : ByteArray).size = 1 := rfl
        have z2 : (⟨List.toArray [58, 32]⟩ : ByteArray).size = 2 := rfl
        have z3 : (⟨List.toArray [59]⟩ : ByteArray).size = 1 := rfl
        rw [q_R15_Of_c1]
        simp only [S0, S9, S1, S2, if_true, if_false, SY, at_get hj', nm_eq, val_eq, hw, q1, ByteArray.size_append, sb_size, z1, z2, z3]
        have g1 : ∀ x : Nat, x < 1000000000 → x.succ < 9223372036854775808 := fun x h => by show x + 1 < _; omega
        have g2 : ∀ x : Nat, x < 1000000000 → x.succ.succ < 9223372036854775808 := fun x h => by show x + 1 + 1 < _; omega
        by_cases c : j = 0
        · rw [if_pos c] at q
          rw [if_pos (by omega), if_neg (by omega), if_pos (by omega), if_pos (by omega), if_pos (g2 _ (by omega)), if_pos (by omega), if_pos (by omega), if_pos (g1 _ (by omega))]
          have e1 : sb (prX g (prsE e)[j]) = sb (Lib.join (((prsE e).map (prX g)).take j) [32]) ++ nm (prsE e)[j] ++ ⟨List.toArray [58, 32]⟩ ++ sb (g (val (prsE e)[j])) ++ ⟨List.toArray [59]⟩ := by
            subst c
            rw [List.take_zero, Lib.join_nil, ← sb_byt (nm (prsE e)[0]), show (⟨List.toArray [58, 32]⟩ : ByteArray) = sb [58, 32] from rfl, show (⟨List.toArray [59]⟩ : ByteArray) = sb [59] from rfl, sb_app, sb_app, sb_app, sb_app]
            congr 1
          rw [e1] at q
          exact q
        · rw [if_neg c] at q
          rw [if_pos (by omega), if_pos (by omega), if_pos (g1 _ (by omega)), if_pos (by omega), if_pos (by omega), if_pos (g2 _ (by omega)), if_pos (by omega), if_pos (by omega), if_pos (g1 _ (by omega))]
          have e1 : sb (Lib.join (((prsE e).map (prX g)).take j) [32] ++ [32] ++ prX g (prsE e)[j]) = sb (Lib.join (((prsE e).map (prX g)).take j) [32]) ++ ⟨List.toArray [32]⟩ ++ nm (prsE e)[j] ++ ⟨List.toArray [58, 32]⟩ ++ sb (g (val (prsE e)[j])) ++ ⟨List.toArray [59]⟩ := by
            rw [← sb_byt (nm (prsE e)[j]), show (⟨List.toArray [32]⟩ : ByteArray) = sb [32] from rfl, show (⟨List.toArray [58, 32]⟩ : ByteArray) = sb [58, 32] from rfl, show (⟨List.toArray [59]⟩ : ByteArray) = sb [59] from rfl, sb_app, sb_app, sb_app, sb_app, sb_app]
            unfold prX
            simp only [List.append_assoc]
          rw [e1] at q
          exact q)
theorem rof_kids {g : T → List UInt8} {e : T} (ho1 : 11 ≤ opE e) (ho2 : opE e ≤ 15) (hl : (kidsE e).length ≤ 200) (hj : (Lib.join (kidL g (opE e) (kidsE e)) (signL (opE e))).length ≤ 100000000)
    (hk : ∀ k ∈ kidsE e, (g k).length ≤ 100000000 ∧ 1 ≤ opE k ∧ opE k ≤ 15 ∧ Dz i_R15_Of none [A.t k] (1, [A.t (T.str (sb (g k)))])) :
    Dz i_R15_Of (some p_R15_Of_c2) [A.t (T.str (sb [])), A.t (T.int 0), A.t e] (5, [A.t (T.str (sb (Lib.join (kidL g (opE e) (kidsE e)) (signL (opE e)))))]) := by
  have hll := kidL_len g (opE e) (kidsE e)
  refine Dz.go (i := i_R15_Of) (p := some p_R15_Of_c2) (R := (5, [A.t (T.str (sb (Lib.join (kidL g (opE e) (kidsE e)) (signL (opE e)))))])) (kidsE e).length
      (fun j => [A.t (T.str (sb (Lib.join ((kidL g (opE e) (kidsE e)).take j) (signL (opE e))))), A.t (T.int j), A.t e]) (by
        refine Does.now fun m => ?_
        rw [q_R15_Of_c2, List.take_of_length_le (by omega)]
        simp only [S0, S9, S1, S2, if_true, if_false, SY]
        rw [if_neg (by omega)]) (fun j hj' R hR => by
        have hw : IntKind.i64.wrap ((j : Int) + 1) = ((j + 1 : Nat) : Int) := i64succ (by omega)
        have ht := join_succ (sep := signL (opE e)) (kidL_get g (opE e) hj')
        have hle := join_take_le (kidL g (opE e) (kidsE e)) (signL (opE e)) (j + 1)
        have hle0 := join_take_le (kidL g (opE e) (kidsE e)) (signL (opE e)) j
        have hsl := signL_len (opE e)
        obtain ⟨hk1, hk2, hk3, hk4⟩ := hk _ (List.getElem_mem hj')
        obtain ⟨n0, h0⟩ := hR
        obtain ⟨n1, h1⟩ := hk4.both (sign_does (opE e))
        obtain ⟨n2, h2⟩ := bracketed_does (opE e) (opE (kidsE e)[j]) j ho1 ho2 hk2 hk3
        refine Does.of (n0 + n1 + n2) fun m hm => ?_
        have q := h0 m (by omega)
        obtain ⟨q1, q2⟩ := h1 m (by omega)
        have q3 := h2 m (by omega)
        rw [ht] at q
        have z1 : (⟨List.toArray [40]⟩ : ByteArray).size = 1 := rfl
        have z2 : (⟨List.toArray [41]⟩ : ByteArray).size = 1 := rfl
        have g1 : ∀ x : Nat, x < 1000000000 → x.succ < 9223372036854775808 := fun x h => by show x + 1 < _; omega
        rw [q_R15_Of_c2]
        simp only [S0, S9, S1, S2, if_true, if_false, SY, at_get hj', hw, q1, q2, q3, ByteArray.size_append, sb_size, z1, z2]
        unfold kidX at q
        by_cases c : j = 0
        · rw [if_pos c] at q
          rw [if_pos (by omega), if_neg (by omega), if_pos (by omega)]
          have e0 : Lib.join ((kidL g (opE e) (kidsE e)).take j) (signL (opE e)) = [] := by rw [c, List.take_zero, Lib.join_nil]
          cases hb : brk (opE e) (decide (j = 0)) (opE (kidsE e)[j]) with
          | true =>
            rw [hb, if_pos rfl] at q
            simp only [if_true]
            rw [if_pos (g1 _ (by omega)), if_pos (by omega), if_pos (by omega), if_pos (g1 _ (by omega)), e0]
            have e1 : sb ([40] ++ g (kidsE e)[j] ++ [41]) = sb [] ++ ⟨List.toArray [40]⟩ ++ sb (g (kidsE e)[j]) ++ ⟨List.toArray [41]⟩ := by
              rw [show (⟨List.toArray [40]⟩ : ByteArray) = sb [40] from rfl, show (⟨List.toArray [41]⟩ : ByteArray) = sb [41] from rfl, sb_app, sb_app, sb_app]; rfl
            rw [e1] at q
            exact q
          | false =>
            rw [hb, if_neg (by decide)] at q
            simp only [Bool.false_eq_true, if_false]
            rw [if_pos (by omega), if_pos (by omega), e0, sb_app, List.nil_append]
            exact q
        · rw [if_neg c] at q
          rw [if_pos (by omega), if_pos (by omega), if_pos (by omega), if_pos (by omega)]
          cases hb : brk (opE e) (decide (j = 0)) (opE (kidsE e)[j]) with
          | true =>
            rw [hb, if_pos rfl] at q
            simp only [if_true]
            rw [if_pos (g1 _ (by omega)), if_pos (by omega), if_pos (by omega), if_pos (g1 _ (by omega))]
            have e1 : sb (Lib.join ((kidL g (opE e) (kidsE e)).take j) (signL (opE e)) ++ signL (opE e) ++ ([40] ++ g (kidsE e)[j] ++ [41])) = sb (Lib.join ((kidL g (opE e) (kidsE e)).take j) (signL (opE e))) ++ sb (signL (opE e)) ++ ⟨List.toArray [40]⟩ ++ sb (g (kidsE e)[j]) ++ ⟨List.toArray [41]⟩ := by
              rw [show (⟨List.toArray [40]⟩ : ByteArray) = sb [40] from rfl, show (⟨List.toArray [41]⟩ : ByteArray) = sb [41] from rfl, sb_app, sb_app, sb_app, sb_app]
              simp only [List.append_assoc]
            rw [e1] at q
            exact q
          | false =>
            rw [hb, if_neg (by decide)] at q
            simp only [Bool.false_eq_true, if_false]
            rw [if_pos (by omega), if_pos (by omega), sb_app, sb_app]
            exact q)
theorem rof15_does : ∀ (d : Nat) (e : T), Ed d e → rgt d e = true → wE d e ≤ 200 → Dz i_R15_Of none [A.t e] (1, [A.t (T.str (sb (txE d e)))])
  | 0, e, h, hr, hw => h.elim
  | d + 1, e, h, hr, hw => by
    have hop := rgt_op hr
    have hlen := txE_len (d + 1) e h
    have hl := h.1
    rw [txE] at hlen ⊢
    by_cases o1 : opE e = 1
    · have := rgt_num hr (Or.inl o1)
      obtain ⟨n0, h0⟩ := rtext_does (numE e) this.1 this.2
      refine Does.of n0 fun m hm => ?_
      rw [q_R15_Of, if_pos o1]
      simp only [S0, S9, S1, S2, if_true, if_false, SY, h0 m hm, o1]
    by_cases o2 : opE e = 2
    · obtain ⟨n0, h0⟩ := rquote_does (txtE e) (by omega)
      refine Does.of n0 fun m hm => ?_
      rw [q_R15_Of, if_neg o1, if_pos o2]
      simp only [S0, S9, S1, S2, if_true, if_false, SY, h0 m hm]
      rw [if_neg o1, if_pos o2]
    by_cases o3 : opE e = 3
    · refine Does.now fun m => ?_
      rw [q_R15_Of, if_neg o1, if_neg o2, if_pos o3]
      simp only [S0, S9, S1, S2, if_true, if_false, SY]
      rw [if_neg o1, if_neg o2, if_pos o3]
      split <;> rfl
    by_cases o4 : opE e = 4
    · obtain ⟨n0, h0⟩ := rkind_does (numE e)
      refine Does.of n0 fun m hm => ?_
      rw [q_R15_Of, if_neg o1, if_neg o2, if_neg o3, if_pos o4]
      simp only [S0, S9, S1, S2, if_true, if_false, SY, h0 m hm]
      rw [if_neg o1, if_neg o2, if_neg o3, if_pos o4]
    by_cases o5 : opE e = 5
    · refine Does.now fun m => ?_
      rw [q_R15_Of, if_neg o1, if_neg o2, if_neg o3, if_neg o4, if_pos o5]
      simp only [S0, S9, S1, S2, if_true, if_false, SY]
      rw [if_neg o1, if_neg o2, if_neg o3, if_neg o4, if_pos o5]
      rfl
    by_cases o6 : opE e = 6
    · refine Does.now fun m => ?_
      rw [q_R15_Of, if_neg o1, if_neg o2, if_neg o3, if_neg o4, if_neg o5, if_pos o6]
      simp only [S0, S9, S1, S2, if_true, if_false, SY]
      rw [if_neg o1, if_neg o2, if_neg o3, if_neg o4, if_neg o5, if_pos o6]
      rfl
    have hn21 := numTxt_len (numE e)
    by_cases o7 : opE e = 7
    · have := rgt_num hr (Or.inr (Or.inl o7))
      obtain ⟨n0, h0⟩ := rtext_does (numE e) this.1 this.2
      refine Does.of n0 fun m hm => ?_
      rw [q_R15_Of, if_neg o1, if_neg o2, if_neg o3, if_neg o4, if_neg o5, if_neg o6, if_pos o7]
      simp only [S0, S9, S1, S2, if_true, if_false, SY, h0 m hm, sb_size]
      rw [if_neg o1, if_neg o2, if_neg o3, if_neg o4, if_neg o5, if_neg o6, if_pos o7, if_pos (by omega), show (⟨List.toArray [62, 61]⟩ : ByteArray) = sb [62, 61] from rfl, sb_app]
    by_cases o8 : opE e = 8
    · have := rgt_num hr (Or.inr (Or.inr o8))
      obtain ⟨n0, h0⟩ := rtext_does (numE e) this.1 this.2
      refine Does.of n0 fun m hm => ?_
      rw [q_R15_Of, if_neg o1, if_neg o2, if_neg o3, if_neg o4, if_neg o5, if_neg o6, if_neg o7, if_pos o8]
      simp only [S0, S9, S1, S2, if_true, if_false, SY, h0 m hm, sb_size]
      rw [if_neg o1, if_neg o2, if_neg o3, if_neg o4, if_neg o5, if_neg o6, if_neg o7, if_pos o8, if_pos (by omega), show (⟨List.toArray [60, 61]⟩ : ByteArray) = sb [60, 61] from rfl, sb_app]
    rw [if_neg o1, if_neg o2, if_neg o3, if_neg o4, if_neg o5, if_neg o6, if_neg o7, if_neg o8] at hlen
    by_cases o9 : opE e = 9
    · rw [if_pos o9] at hlen
      obtain ⟨n0, h0⟩ := rnameText_does (pathE e) (by omega) (rgt_path hr o9) (by omega)
      refine Does.of n0 fun m hm => ?_
      rw [q_R15_Of, if_neg o1, if_neg o2, if_neg o3, if_neg o4, if_neg o5, if_neg o6, if_neg o7, if_neg o8, if_pos o9]
      simp only [S0, S9, S1, S2, if_true, if_false, SY, h0 m hm]
      rw [if_neg o1, if_neg o2, if_neg o3, if_neg o4, if_neg o5, if_neg o6, if_neg o7, if_neg o8, if_pos o9]
    rw [if_neg o9] at hlen
    have hrp := rgt_parts hr
    unfold partsE at hrp
    by_cases o10 : opE e = 10
    · rw [if_pos o10] at hlen hrp
      rw [List.length_append, List.length_append] at hlen
      have hpl : prL (txE d) e = (prsE e).map (prX (txE d)) ++ (if openE e = true then [[46, 46, 46]] else []) := rfl
      have hjl : (Lib.join ((prsE e).map (prX (txE d))) [32]).length ≤ (Lib.join (prL (txE d) e) [32]).length := by
        have := join_take_le (prL (txE d) e) [32] (prsE e).length
        rw [hpl, List.take_left' (by rw [List.length_map])] at this
        rw [hpl]
        exact this
      have hlp := rof_prs (g := txE d) (e := e) (by omega) (by omega) (fun p hp => by
        have h1 := h.2.2.1 p hp
        have h2 := wE_pr (d := d) hp
        have h3 := txE_len d (val p) h1.2
        exact ⟨by omega, by omega, rof15_does d (val p) h1.2 (hrp _ (List.mem_map_of_mem hp)) (by omega)⟩)
      obtain ⟨n0, h0⟩ := hlp
      refine Does.of n0 fun m hm => ?_
      have q : den Tryd.prog G0 ents m i_R15_Of (some p_R15_Of_c1) [A.t (T.str ⟨List.toArray []⟩), A.t (T.int 0), A.t e] = _ := h0 m hm
      have z1 : (⟨List.toArray [32]⟩ : ByteArray).size = 1 := rfl
      have z2 : (⟨List.toArray [46, 46, 46]⟩ : ByteArray).size = 3 := rfl
      have z3 : (⟨List.toArray [123]⟩ : ByteArray).size = 1 := rfl
      have g1 : ∀ x : Nat, x < 1000000000 → x.succ < 9223372036854775808 := fun x h => by show x + 1 < _; omega
      have g3 : ∀ x : Nat, x < 1000000000 → x.succ.succ.succ < 9223372036854775808 := fun x h => by show x + 1 + 1 + 1 < _; omega
      have b33 : Nat.beq 3 3 = true := rfl
      have y1 : (⟨List.toArray [32]⟩ : ByteArray) = sb [32] := rfl
      have y2 : (⟨List.toArray [46, 46, 46]⟩ : ByteArray) = sb [46, 46, 46] := rfl
      have y3 : (⟨List.toArray [123]⟩ : ByteArray) = sb [123] := rfl
      have y4 : (⟨List.toArray [125]⟩ : ByteArray) = sb [125] := rfl
      rw [q_R15_Of, if_neg o1, if_neg o2, if_neg o3, if_neg o4, if_neg o5, if_neg o6, if_neg o7, if_neg o8, if_neg o9, if_pos o10]
      simp only [S0, S9, S1, S2, if_true, if_false, SY, q, ByteArray.size_append, sb_size, z1, z2, z3]
      rw [if_neg o1, if_neg o2, if_neg o3, if_neg o4, if_neg o5, if_neg o6, if_neg o7, if_neg o8, if_neg o9, if_pos o10]
      have hB : (Lib.join (prL (txE d) e) [32]).length ≤ 10000000 := by omega
      cases ho : openE e with
      | false =>
        have hpf : prL (txE d) e = (prsE e).map (prX (txE d)) := by rw [hpl, ho, if_neg Bool.false_ne_true, List.append_nil]
        rw [hpf]
        simp only [Bool.false_eq_true, if_false]
        rw [if_pos (by omega), if_pos (g1 _ (by omega)), y3, y4, sb_app, sb_app]
      | true =>
        have hjn := join_snoc ((prsE e).map (prX (txE d))) [32] [46, 46, 46]
        have hpt : prL (txE d) e = (prsE e).map (prX (txE d)) ++ [[46, 46, 46]] := by rw [hpl, ho, if_pos rfl]
        rw [hpt]
        simp only [if_true]
        by_cases c : prsE e = []
        · have hj0 : Lib.join ((prsE e).map (prX (txE d))) [32] = [] := by rw [c]; rfl
          rw [if_neg (by rw [c]; simp), if_pos (g3 _ (by omega)), if_pos (by omega), if_pos (g1 _ (by omega)), hjn, if_pos (by rw [c]; rfl), hj0, y2, y3, y4, sb_app, sb_app, sb_app]
          rfl
        · have hc : ¬ (prsE e).map (prX (txE d)) = [] := fun h => c (List.map_eq_nil_iff.1 h)
          have hcl : 0 < (prsE e).length := List.length_pos_iff.2 c
          rw [if_neg hc] at hjn
          rw [if_pos (by omega), if_pos (g1 _ (by omega)), if_pos (g3 _ (by omega)), if_pos (by omega), if_pos (g1 _ (by omega)), hjn, y1, y2, y3, y4, sb_app, sb_app, sb_app, sb_app]
    rw [if_neg o10] at hlen hrp
    have hlk := rof_kids (g := txE d) (e := e) (by omega) (by omega) (by omega) (by omega) (fun k hk => by
      have h1 := h.2.2.2 k hk
      have h2 := wE_kid (d := d) hk
      have h3 := txE_len d k h1
      have h4 := hrp k hk
      exact ⟨by omega, (rgt_op h4).1, (rgt_op h4).2, rof15_does d k h1 h4 (by omega)⟩)
    obtain ⟨n0, h0⟩ := hlk
    refine Does.of n0 fun m hm => ?_
    have q : den Tryd.prog G0 ents m i_R15_Of (some p_R15_Of_c2) [A.t (T.str ⟨List.toArray []⟩), A.t (T.int 0), A.t e] = _ := h0 m hm
    rw [q_R15_Of, if_neg o1, if_neg o2, if_neg o3, if_neg o4, if_neg o5, if_neg o6, if_neg o7, if_neg o8, if_neg o9, if_neg o10]
    simp only [S0, S9, S1, S2, if_true, if_false, SY, q]
    rw [if_neg o1, if_neg o2, if_neg o3, if_neg o4, if_neg o5, if_neg o6, if_neg o7, if_neg o8, if_neg o9, if_neg o10]
end Go.Proofs.YtdofdhlpheaonaaDoorKT
namespace Go.Proofs.YtdofdhlpheaonaaDoorKT
open Go Go.Proofs.YtdofdhlpheaonaaDoorVM
set_option linter.unusedVariables false
set_option linter.unusedSimpArgs false
set_option maxRecDepth 100000

def exN (x : T) : List T := (x.get 2).kids
theorem exN_eq (x : T) : (T.get x 2).kids = exN x := id rfl
def mayB (x : T) (n : Int) : Bool := (exN x).all (fun e => decide (chkE 24 e = 0)) && (nameB (nm x) && (decide (0 < (exN x).length) && (decide (1 ≤ n) && decide (n ≤ 1048576))))
def Nf (x : T) : Prop := (nm x).size ≤ 100 ∧ (exN x).length ≤ 10 ∧ ∀ e ∈ exN x, Ed 24 e ∧ wE 24 e ≤ 200
theorem fewN_one {x : T} (h : fewN [x] = true) : Nf x := by
  unfold fewN at h
  simp only [List.all_cons, List.all_nil, Bool.and_true, Bool.and_eq_true, decide_eq_true_eq, List.all_eq_true] at h
  refine ⟨h.2.1.1, h.2.1.2, fun e he => ?_⟩
  have h1 := h.2.2 e he
  have h2 := leftE_few 24 e 200 h1
  exact ⟨h2.1, by omega⟩
theorem may_does {x : T} (h : Nf x) (n : Int) : Dz i_key_may none [A.t x, A.t (T.int n)] (1, [A.t (T.bool (mayB x n))]) := by
  have hp : ∀ e ∈ exN x, Dz i_key_may_1 none [A.t e] (1, [A.t (T.bool (!decide (chkE 24 e = 0)))]) := fun e he => by
    obtain ⟨n0, h0⟩ := check_does (by omega) (h.2.2 e he).1
    refine Does.of n0 fun m hm => ?_
    rw [q_key_may_1]
    simp only [S0, S9, S1, S2, if_true, if_false, h0 m hm]
    rfl
  have hl := h.2.1
  obtain ⟨n1, h1⟩ := has0_does q_slices_ContainsFunc_Expr_may1 q_slices_IndexFunc_Expr_may1 q_slices_IndexFunc_Expr_may1_c1 (exN x) (fun e => !decide (chkE 24 e = 0)) (by omega) hp
  obtain ⟨n2, h2⟩ := nameR_does (nm x)
  refine Does.of (n1 + n2) fun m hm => ?_
  have q1 := h1 m (by omega)
  have q2 := h2 m (by omega)
  have ha := any_not (exN x) (fun e => decide (chkE 24 e = 0))
  unfold mayB
  rw [q_key_may]
  simp only [S0, S9, S1, S2, if_true, if_false, exN_eq, nm_eq, q1, q2, ha, iB]
  refine congrArg (fun b => some ((1 : Nat), [A.t (T.bool b)])) ?_
  generalize (exN x).all (fun e => decide (chkE 24 e = 0)) = a
  generalize nameB (nm x) = b
  have e1 : (((exN x).length : Int) > 0) = (0 < (exN x).length) := propext (by omega)
  have e2 : (n ≥ 1) = (1 ≤ n) := rfl
  simp only [e1, e2]
  cases a <;> cases b <;> by_cases c1 : 0 < (exN x).length <;> by_cases c2 : 1 ≤ n <;> simp [c1, c2]
theorem rmay_does {x : T} (h : Nf x) (n : Int) : Dz i_R22_May none [A.t x, A.t (T.int n)] (1, [A.t (T.bool (mayB x n))]) := by
  have hl := h.2.1
  have hloop : ∀ (k j : Nat), j + k = (exN x).length → Dz i_R22_May (some p_R22_May_c1) [A.t (T.int n), A.t (T.int j), A.t x] (if ((exN x).drop j).all (fun e => decide (chkE 24 e = 0)) = true then (2, [A.t (T.int n), A.t x]) else (1, [A.t (T.bool false)])) := by
    intro k
    induction k with
    | zero =>
      intro j hj
      refine Does.now fun m => ?_
      rw [q_R22_May_c1, List.drop_of_length_le (by omega)]
      simp only [S0, S9, S1, S2, if_true, if_false, exN_eq, List.all_nil]
      rw [if_neg (by omega)]
    | succ k ih =>
      intro j hj
      have hlt : j < (exN x).length := by omega
      have hw : IntKind.i64.wrap ((j : Int) + 1) = ((j + 1 : Nat) : Int) := i64succ (by omega)
      obtain ⟨n0, h0⟩ := (rcheck_does (by omega) (h.2.2 _ (List.getElem_mem hlt)).1).both (ih (j + 1) (by omega))
      refine Does.of n0 fun m hm => ?_
      obtain ⟨q1, q2⟩ := h0 m hm
      rw [q_R22_May_c1, List.drop_eq_getElem_cons hlt, List.all_cons]
      simp only [S0, S9, S1, S2, if_true, if_false, exN_eq, at_get hlt, q1, hw, q2]
      rw [if_pos (by omega), if_pos (by omega)]
      by_cases c : chkE 24 (exN x)[j] = 0
      · rw [if_neg (by omega)]; simp only [c, true_and]
      · rw [if_pos c, if_neg (fun h => c h.1)]
  have hlp := hloop (exN x).length 0 (by omega)
  rw [List.drop_zero] at hlp
  obtain ⟨n1, h1⟩ := hlp.both (rname_does (nm x))
  refine Does.of n1 fun m hm => ?_
  obtain ⟨q, q2⟩ := h1 m hm
  have q1 : den Tryd.prog G0 ents m i_R22_May (some p_R22_May_c1) [A.t (T.int n), A.t (T.int 0), A.t x] = _ := q
  unfold mayB
  rw [q_R22_May]
  simp only [S0, S9, S1, S2, if_true, if_false, q1]
  cases (exN x).all (fun e => decide (chkE 24 e = 0)) with
  | false => simp only [Bool.false_eq_true, if_false, S0, Bool.false_and]; rfl
  | true =>
    simp only [if_true, S0, SX, exN_eq, q2, Bool.true_and, iB]
    refine congrArg (fun b => some ((1 : Nat), [A.t (T.bool b)])) ?_
    have e1 : (((exN x).length : Int) > 0) = (0 < (exN x).length) := propext (by omega)
    have e2 : (n ≥ 1) = (1 ≤ n) := rfl
    simp only [e1, e2]
    cases nameB (nm x) <;> by_cases c1 : 0 < (exN x).length <;> by_cases c2 : 1 ≤ n <;> simp [c1, c2]
def keyL (x : T) (n : Int) : List (List UInt8) := [byt (nm x), numTxt n] ++ (exN x).map (txE 24)
def keyX (x : T) (n : Int) : List UInt8 := Lib.join (keyL x n) [10] ++ [10]
theorem join_nl : ∀ (l : List (List UInt8)), l ≠ [] → Lib.join l [10] ++ [10] = (l.map (· ++ [10])).flatten
  | [], h => (h rfl).elim
  | a :: r, h => by
    rw [Lib.join_cons, List.map_cons, List.flatten_cons]
    have : Lib.joinTail [10] r ++ [10] = [10] ++ (r.map (· ++ [10])).flatten := by
      clear h
      induction r with
      | nil => rfl
      | cons y r ih =>
        have e : Lib.joinTail [10] (y :: r) = [10] ++ y ++ Lib.joinTail [10] r := by unfold Lib.joinTail; simp
        rw [e, List.append_assoc, ih, List.map_cons, List.flatten_cons]
        simp
    rw [List.append_assoc, this, List.append_assoc]
theorem flat_take_le (l : List (List UInt8)) (j : Nat) : (l.take j).flatten.length ≤ l.flatten.length := by
  have := List.take_append_drop j l
  have h2 : l.flatten = (l.take j).flatten ++ (l.drop j).flatten := by rw [← List.flatten_append, this]
  rw [h2, List.length_append]
  omega
theorem keyX_len {x : T} {n : Int} (h : Nf x) : (keyX x n).length ≤ 100000000 := by
  unfold keyX
  have h1 := join_len (keyL x n) [10]
  have hsum : sumN ((keyL x n).map fun x => x.length + [10].length) ≤ 70000000 := by
    unfold keyL
    rw [List.cons_append, List.cons_append, List.nil_append, List.map_cons, List.map_cons, sum_cons, sum_cons, List.map_map]
    have hs : sumN ((exN x).map ((fun x : List UInt8 => x.length + [10].length) ∘ txE 24)) ≤ sumN ((exN x).map fun _ => 6000001) := sum_le fun e he => by
      have h2 := h.2.2 e he
      have h3 := txE_len 24 e h2.1
      show (txE 24 e).length + 1 ≤ _
      omega
    have a2 : ∀ l : List T, sumN (l.map fun _ => 6000001) = 6000001 * l.length := fun l => by
      induction l with
      | nil => rfl
      | cons a l ih => rw [List.map_cons, sum_cons, ih, List.length_cons]; omega
    have h4 := h.1
    have h5 := h.2.1
    have h6 := numTxt_len n
    rw [a2] at hs
    rw [byt_len]
    have : [(10 : UInt8)].length = 1 := rfl
    omega
  rw [List.length_append]
  have : [(10 : UInt8)].length = 1 := rfl
  omega
theorem mayB_parts {x : T} {n : Int} (h : mayB x n = true) : (∀ e ∈ exN x, chkE 24 e = 0) ∧ 1 ≤ n ∧ n ≤ 1048576 := by
  unfold mayB at h
  simp only [Bool.and_eq_true, decide_eq_true_eq, List.all_eq_true] at h
  exact ⟨h.1, h.2.2.2.1, h.2.2.2.2⟩
theorem chk_rgt {d : Nat} {e : T} (h : chkE d e = 0) : rgt d e = true := by
  unfold chkE at h
  split at h
  · assumption
  · omega
theorem key_does {x : T} (h : Nf x) {n : Int} (hm : mayB x n = true) : Dz i_key_Of none [A.t x, A.t (T.int n)] (1, [A.t (T.str (sb (keyX x n))), A.t (T.int 0)]) := by
  obtain ⟨m1, m2, m3⟩ := mayB_parts hm
  have hl := h.2.1
  have hx : ∀ e ∈ exN x, Dz i_show_Expr none [A.t e] (1, [A.t (T.str (sb (txE 24 e))), A.t (T.int 0)]) := fun e he => by
    have h1 := h.2.2 e he
    have h2 := check_does (by omega) h1.1
    rw [m1 e he] at h2
    obtain ⟨n0, h0⟩ := h2.both (etext_does 24 e h1.1 (chk_rgt (m1 e he)) h1.2)
    refine Does.of n0 fun m hm => ?_
    obtain ⟨q1, q2⟩ := h0 m hm
    rw [q_show_Expr]
    simp only [S0, S9, S1, S2, if_true, if_false, q1, q2]
    simp
  have hloop := Dz.go (i := i_key_Of) (p := some p_key_Of_c1) (R := (2, [A.t (T.node (ss (keyL x n)))])) (exN x).length
      (fun j => [A.t (T.node (exN x)), A.t (T.int ((exN x).length : Nat)), A.t (T.int j), A.t (T.node (ss ([byt (nm x), numTxt n] ++ ((exN x).take j).map (txE 24))))]) (by
        refine Does.now fun m => ?_
        rw [q_key_Of_c1, List.take_of_length_le (by omega)]
        simp only [S0, S9, S1, S2, if_true, if_false]
        rw [if_neg (by omega)]
        rfl) (fun j hj R hR => by
        have hw : IntKind.i64.wrap ((j : Int) + 1) = ((j + 1 : Nat) : Int) := i64succ (by omega)
        have ht : ss ([byt (nm x), numTxt n] ++ ((exN x).take (j + 1)).map (txE 24)) = ss ([byt (nm x), numTxt n] ++ ((exN x).take j).map (txE 24)) ++ [T.str (sb (txE 24 (exN x)[j]))] := by
          rw [List.take_add_one, List.getElem?_eq_getElem hj, List.map_append, ← List.append_assoc]
          unfold ss
          rw [List.map_append]; rfl
        obtain ⟨n0, h0⟩ := hR
        obtain ⟨n1, h1⟩ := hx _ (List.getElem_mem hj)
        refine Does.of (n0 + n1) fun m hm => ?_
        have q := h0 m (by omega)
        rw [ht] at q
        rw [q_key_Of_c1]
        simp only [S0, S9, S1, S2, if_true, if_false, at_get hj, hw, h1 m (by omega), ss_len, List.length_append, List.length_map, List.length_take, List.length_cons, List.length_nil, q]
        rw [if_pos (by omega), if_pos (by omega), if_pos (by omega)])
  have hlen := keyX_len (n := n) h
  have hl2 : (keyL x n).length ≤ 12 := by
    unfold keyL
    rw [List.length_append, List.length_map]
    have : [byt (nm x), numTxt n].length = 2 := rfl
    omega
  have hkx : keyX x n = Lib.join (keyL x n) [10] ++ [10] := rfl
  rw [hkx, List.length_append] at hlen
  have hm' := may_does h n
  rw [hm] at hm'
  obtain ⟨n1, h1⟩ := hm'.both (text_does n (by omega) (by omega))
  obtain ⟨n2, h2⟩ := hloop.both (joinO_does (keyL x n) [10] (by omega) (by omega))
  refine Does.of (n1 + n2) fun m hmm => ?_
  obtain ⟨q1, q2⟩ := h1 m (by omega)
  obtain ⟨q3, q4⟩ := h2 m (by omega)
  have e1 : sb (byt (nm x)) = nm x := sb_toList _
  have q3' : den Tryd.prog G0 ents m i_key_Of (some p_key_Of_c1) [A.t (T.node (exN x)), A.t (T.int ((exN x).length : Nat)), A.t (T.int 0), A.t (T.node [T.str (sb (byt (nm x))), T.str (sb (numTxt n))])] = _ := q3
  rw [e1] at q3'
  have q4' : den Tryd.prog G0 ents m i_strings_Join_o none [A.t (T.str ⟨List.toArray [10]⟩), A.t (T.node (ss (keyL x n)))] = _ := q4
  rw [q_key_Of]
  simp only [S0, S9, S1, S2, if_true, if_false, exN_eq, nm_eq, q1, q2, q3', q4', Bool.not_true, sb_size]
  have hb : (Lib.join (keyL x n) [10]).length.succ < 9223372036854775808 := by show _ + 1 < _; omega
  rw [if_pos hb, hkx, show (⟨List.toArray [10]⟩ : ByteArray) = sb [10] from rfl, sb_app]
theorem rkey_does {x : T} (h : Nf x) {n : Int} (hm : mayB x n = true) : Dz i_R22_Of none [A.t x, A.t (T.int n)] (1, [A.t (T.str (sb (keyX x n))), A.t (T.int 0)]) := by
  obtain ⟨m1, m2, m3⟩ := mayB_parts hm
  have hl := h.2.1
  have hkx : keyX x n = byt (nm x) ++ [10] ++ (numTxt n ++ [10]) ++ ((exN x).map fun e => txE 24 e ++ [10]).flatten := by
    unfold keyX
    rw [join_nl _ (by unfold keyL; simp)]
    unfold keyL
    simp
    rfl
  have hlen := keyX_len (n := n) h
  rw [hkx] at hlen ⊢
  generalize hF : ((exN x).map fun e => txE 24 e ++ [10]) = F at hlen ⊢
  have hFl : F.length = (exN x).length := by rw [← hF, List.length_map]
  simp only [List.length_append, List.length_cons, List.length_nil] at hlen
  have hloop := Dz.go (i := i_R22_Of) (p := some p_R22_Of_c1) (R := (2, [A.t (T.str (sb (byt (nm x) ++ [10] ++ (numTxt n ++ [10]) ++ F.flatten)))])) (exN x).length
      (fun j => [A.t (T.str (sb (byt (nm x) ++ [10] ++ (numTxt n ++ [10]) ++ (F.take j).flatten))), A.t (T.int j), A.t x]) (by
        refine Does.now fun m => ?_
        rw [q_R22_Of_c1, List.take_of_length_le (by omega)]
        simp only [S0, S9, S1, S2, if_true, if_false, exN_eq]
        rw [if_neg (by omega)]) (fun j hj R hR => by
        have hw : IntKind.i64.wrap ((j : Int) + 1) = ((j + 1 : Nat) : Int) := i64succ (by omega)
        have hge : F[j]? = some (txE 24 (exN x)[j] ++ [10]) := by rw [← hF, List.getElem?_map, List.getElem?_eq_getElem hj]; rfl
        have hfl : (F.take (j + 1)).flatten = (F.take j).flatten ++ (txE 24 (exN x)[j] ++ [10]) := by
          rw [List.take_add_one, hge, List.flatten_append]
          simp
        have hle := flat_take_le F (j + 1)
        rw [hfl] at hle
        simp only [List.length_append, List.length_cons, List.length_nil] at hle
        have he := h.2.2 _ (List.getElem_mem hj)
        obtain ⟨n0, h0⟩ := hR
        obtain ⟨n1, h1⟩ := rof15_does 24 (exN x)[j] he.1 (chk_rgt (m1 _ (List.getElem_mem hj))) he.2
        refine Does.of (n0 + n1) fun m hm => ?_
        have q := h0 m (by omega)
        have z1 : (⟨List.toArray [10]⟩ : ByteArray) = sb [10] := rfl
        rw [hfl, ← List.append_assoc, ← List.append_assoc] at q
        have g1 : ∀ x : Nat, x < 1000000000 → x.succ < 9223372036854775808 := fun x h => by show x + 1 < _; omega
        rw [q_R22_Of_c1]
        simp only [S0, S9, S1, S2, if_true, if_false, exN_eq, at_get hj, hw, h1 m (by omega), sb_size, ByteArray.size_append, List.length_append, List.length_cons, List.length_nil, z1, sb_app]
        rw [if_pos (by omega), if_pos (by omega), if_pos (by omega), if_pos (g1 _ (by omega))]
        exact q)
  have hm' := rmay_does h n
  rw [hm] at hm'
  obtain ⟨n1, h1⟩ := hm'.both (rtext_does n (by omega) (by omega))
  obtain ⟨n2, h2⟩ := hloop
  refine Does.of (n1 + n2) fun m hmm => ?_
  obtain ⟨q1, q2⟩ := h1 m (by omega)
  have q3 := h2 m (by omega)
  have z1 : (⟨List.toArray [10]⟩ : ByteArray) = sb [10] := rfl
  rw [List.take_zero, List.flatten_nil, List.append_nil, ← sb_app, ← sb_app, ← sb_app, sb_byt, ← ByteArray.append_assoc] at q3
  have q3' : den Tryd.prog G0 ents m i_R22_Of (some p_R22_Of_c1) [A.t (T.str (nm x ++ sb [10] ++ sb (numTxt n) ++ sb [10])), A.t (T.int 0), A.t x] = _ := q3
  have g1 : ∀ x : Nat, x < 1000000000 → x.succ < 9223372036854775808 := fun x h => by show x + 1 < _; omega
  have h100 := h.1
  rw [byt_len] at hlen
  rw [q_R22_Of]
  simp only [S0, S9, S1, S2, if_true, if_false, nm_eq, q1, q2, Bool.not_true, z1, q3', sb_size, ByteArray.size_append, List.length_cons, List.length_nil]
  rw [if_pos (g1 _ (by omega)), if_pos (by omega), if_pos (g1 _ (by omega))]
theorem awake_does : Dz i_L22_awake none [] (1, [A.t (T.bool true)]) := run_of 100 fun n => by kernel_rfl
theorem law_does (x y : T) : Dz i_L22_KeyTexts none [A.t x, A.t y] (1, [A.t (T.bool true)]) := by
  obtain ⟨n1, h1⟩ := (fewN_does [x]).both awake_does
  cases hf : fewN [x] with
  | false =>
    rw [hf] at h1
    refine Does.of n1 fun m hm => ?_
    rw [q_L22_KeyTexts]
    simp only [S0, S9, S1, S2, if_true, if_false, (h1 m hm).1, (h1 m hm).2, Bool.not_false]
  | true =>
    rw [hf] at h1
    have hN := fewN_one hf
    cases hb : mayB x y.num with
    | false =>
      have g1 := may_does hN y.num
      have g2 := rmay_does hN y.num
      rw [hb] at g1 g2
      have k1 : Dz i_key_Of none [A.t x, A.t (T.int y.num)] (1, [A.t (T.str ⟨List.toArray []⟩), A.t (T.int 1)]) := by
        obtain ⟨n0, h0⟩ := g1
        refine Does.of n0 fun m hm => ?_
        rw [q_key_Of]
        simp only [S0, S9, S1, S2, if_true, if_false, h0 m hm, Bool.not_false]
      have k2 : Dz i_R22_Of none [A.t x, A.t (T.int y.num)] (1, [A.t (T.str ⟨List.toArray []⟩), A.t (T.int 1)]) := by
        obtain ⟨n0, h0⟩ := g2
        refine Does.of n0 fun m hm => ?_
        rw [q_R22_Of]
        simp only [S0, S9, S1, S2, if_true, if_false, h0 m hm, Bool.not_false]
      obtain ⟨n2, h2⟩ := k1.both k2
      refine Does.of (n1 + n2) fun m hm => ?_
      rw [q_L22_KeyTexts]
      simp only [S0, S9, S1, S2, if_true, if_false, (h1 m (by omega)).1, (h1 m (by omega)).2, (h2 m (by omega)).1, (h2 m (by omega)).2, Bool.not_true, seq_dec, decide_true, beq_self_eq_true]
    | true =>
      obtain ⟨n2, h2⟩ := (key_does hN hb).both (rkey_does hN hb)
      refine Does.of (n1 + n2) fun m hm => ?_
      rw [q_L22_KeyTexts]
      simp only [S0, S9, S1, S2, if_true, if_false, (h1 m (by omega)).1, (h1 m (by omega)).2, (h2 m (by omega)).1, (h2 m (by omega)).2, Bool.not_true, seq_dec, decide_true, beq_self_eq_true]
end Go.Proofs.YtdofdhlpheaonaaDoorKT
