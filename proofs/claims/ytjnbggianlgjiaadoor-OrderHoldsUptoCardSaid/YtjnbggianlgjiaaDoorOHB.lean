/- A law's proof, a part: what the code answers. -/
import Derived.Test.YtjnbggianlgjiaaDoorOHA
namespace Go.Proofs.YtjnbggianlgjiaaDoorOH
open Go Go.Proofs.YtjnbggianlgjiaaDoorVM
set_option linter.unusedVariables false
set_option linter.unusedSimpArgs false
set_option maxRecDepth 100000

structure Gr (fs : List T) (p : List ByteArray) (t : ByteArray → List ByteArray) : Prop where
  rise : Ri p
  perm : (fs.map ky).Perm p
  to : ∀ s, (gZ (.node []) fs s).kids = tl (t s)
  tri : ∀ s, Ri (t s)
  len : p.length ≤ 200000
  tlen : ∀ s, (t s).length ≤ 200000
  siz : ∀ x ∈ p, x.size ≤ 100
  tsiz : ∀ s, ∀ x ∈ t s, x.size ≤ 100
theorem Gr.has {fs : List T} {p : List ByteArray} {t : ByteArray → List ByteArray} (h : Gr fs p t) (s : ByteArray) : hF fs s = hasB s p := by
  cases hb : hasB s p with
  | true => exact (hF_mem _ _).2 (h.perm.mem_iff.2 (hasB_iff.1 hb))
  | false =>
    cases hh : hF fs s with
    | false => rfl
    | true =>
      have := hasB_iff.2 (h.perm.mem_iff.1 ((hF_mem _ _).1 hh))
      rw [hb] at this; cases this
theorem Gr.out {fs : List T} {p : List ByteArray} {t : ByteArray → List ByteArray} (h : Gr fs p t) {s : ByteArray} (hs : s ∉ p) : t s = [] := by
  have h1 : hF fs s = false := by rw [h.has]; exact hasB_no hs
  have h2 := h.to s
  rw [gZ_no h1] at h2
  have : (tl (t s)).length = 0 := by rw [← h2]; rfl
  rw [tl_len] at this
  exact List.eq_nil_of_length_eq_zero this
def updT (t : ByteArray → List ByteArray) (a : ByteArray) (v : List ByteArray) : ByteArray → List ByteArray := fun s => if s = a then v else t s
theorem Gr.add {fs : List T} {p : List ByteArray} {t : ByteArray → List ByteArray} (h : Gr fs p t) {s : ByteArray} (hs : s.size ≤ 100) (hl : p.length < 200000) (hn : s ∉ p) : Gr (putF fs s (.node [])) (insT s p) t := by
  have hk : s ∉ fs.map ky := fun h' => hn (h.perm.mem_iff.1 h')
  refine ⟨insT_rise h.rise, ?_, fun x => ?_, h.tri, by have := insT_len s p; omega, h.tlen, fun x hx => ?_, h.tsiz⟩
  · rw [put_out hk]
    refine (List.perm_append_singleton _ _).trans ((h.perm.cons s).trans ?_)
    rw [List.perm_ext_iff_of_nodup (List.nodup_cons.2 ⟨hn, h.rise.nodup⟩) (insT_rise h.rise).nodup]
    intro x
    rw [mem_insT, List.mem_cons]
  · rw [gZ_put]
    split
    · rename_i e
      subst e
      rw [h.out hn]
      rfl
    · exact h.to x
  · rcases mem_insT.1 hx with rfl | hx
    · exact hs
    · exact h.siz x hx
theorem Gr.set {fs : List T} {p : List ByteArray} {t : ByteArray → List ByteArray} (h : Gr fs p t) {a : ByteArray} (ha : a ∈ p) {l : List ByteArray} (hl : Ri l) (hn : l.length ≤ 200000) (hs : ∀ x ∈ l, x.size ≤ 100) : Gr (putF fs a (.node (tl l))) p (updT t a l) := by
  refine ⟨h.rise, by rw [put_in (h.perm.mem_iff.2 ha)]; exact h.perm, fun x => ?_, fun x => ?_, h.len, fun x => ?_, h.siz, fun x y hy => ?_⟩
  · rw [gZ_put]
    unfold updT
    split
    · rfl
    · exact h.to x
  · unfold updT; split
    · exact hl
    · exact h.tri x
  · unfold updT; split
    · exact hn
    · exact h.tlen x
  · unfold updT at hy; split at hy
    · exact hs y hy
    · exact h.tsiz x y hy
theorem ph_does (fs : List T) (s : ByteArray) : Dz i_graph_Graph_string_Has none [A.t (T.str s), A.t (T.node fs)] (1, [A.t (T.bool (hF fs s)), A.t (T.node fs)]) := Does.now fun m => by
  rw [q_graph_Graph_string_Has]
  simp only [S0, S9, S1, S2, if_true, if_false, hF_eq]
theorem gZ_eq (fs : List T) (s : ByteArray) : mget keyS (T.node []) fs (T.str s) = gZ (.node []) fs s := id rfl
theorem padd_does {fs : List T} {p : List ByteArray} {t : ByteArray → List ByteArray} (h : Gr fs p t) {s : ByteArray} (hs : s.size ≤ 100) (hl : p.length < 200000) : ∃ fs', Gr fs' (insT s p) t ∧ Dz i_graph_Graph_string_Add none [A.t (T.str s), A.t (T.node fs)] (1, [A.t (T.node fs')]) := by
  obtain ⟨n0, h0⟩ := ph_does fs s
  by_cases hn : s ∈ p
  · refine ⟨fs, by rw [insT_has h.rise hn]; exact h, Does.of n0 fun m hm => ?_⟩
    rw [q_graph_Graph_string_Add]
    simp only [S0, S9, S1, S2, if_true, if_false, h0 m hm, h.has, hasB_iff.2 hn, Bool.not_true, Bool.false_eq_true]
  · refine ⟨_, h.add hs hl hn, Does.of n0 fun m hm => ?_⟩
    rw [q_graph_Graph_string_Add]
    simp only [S0, S9, S1, S2, if_true, if_false, h0 m hm, h.has, hasB_no hn, Bool.not_false, put_eq]
theorem less_does (a b : ByteArray) : Dz i_cmp_Less_string none [A.t (T.str a), A.t (T.str b)] (1, [A.t (T.bool (sltB a b))]) := by
  have h1 : Dz i_cmp_isNaN_string none [A.t (T.str a)] (1, [A.t (T.bool false)]) := Does.now fun m => by
    rw [q_cmp_isNaN_string]
    simp only [S0, S9, S1, S2, if_true, if_false, seq_is.2 rfl, Bool.not_true]
  obtain ⟨n0, h0⟩ := h1
  refine Does.of n0 fun m hm => ?_
  rw [q_cmp_Less_string]
  simp only [S0, S9, S1, S2, if_true, if_false, h0 m hm, Bool.false_eq_true]
theorem bs_loop (l : List ByteArray) (s : ByteArray) (hl : l.length ≤ 1000000) (hr : Ri l) : ∀ (d i j : Nat), j - i ≤ d → i ≤ pos s l → pos s l ≤ j → j ≤ l.length →
    Dz i_slices_BinarySearch_string (some p_slices_BinarySearch_string_c1) [A.t (T.node (tl l)), A.t (T.str s), A.t (T.int (l.length : Nat)), A.t (T.int i), A.t (T.int j)] (2, [A.t (T.node (tl l)), A.t (T.str s), A.t (T.int (l.length : Nat)), A.t (T.int (pos s l : Nat))]) := by
  intro d
  induction d with
  | zero =>
    intro i j hd h1 h2 h3
    refine Does.now fun m => ?_
    rw [q_slices_BinarySearch_string_c1]
    simp only [S0, S9, S1, S2, if_true, if_false]
    rw [if_neg (by omega), show i = pos s l by omega]
  | succ d ih =>
    intro i j hd h1 h2 h3
    by_cases hij : i < j
    · have hh : i ≤ (i + j) / 2 ∧ (i + j) / 2 < j := by omega
      have hlt : (i + j) / 2 < l.length := by omega
      have w1 : IntKind.i64.wrap ((i : Int) + (j : Int)) = ((i + j : Nat) : Int) := i64add (by omega)
      have w2 : IntKind.u64.wrap ((i + j : Nat) : Int) = ((i + j : Nat) : Int) := by rw [wu64, Nat.mod_eq_of_lt (by omega)]
      have w3 : Int.fdiv ((i + j : Nat) : Int) 2 = (((i + j) / 2 : Nat) : Int) := fdivN (i + j) 2
      have w4 : IntKind.i64.wrap (((i + j) / 2 : Nat) : Int) = (((i + j) / 2 : Nat) : Int) := i64nat (by omega)
      have w5 : IntKind.i64.wrap ((((i + j) / 2 : Nat) : Int) + 1) = (((i + j) / 2 + 1 : Nat) : Int) := i64succ (by omega)
      have hp := pos_lt (s := s) hr _ hlt
      cases hb : sltB l[(i + j) / 2] s with
      | true =>
        have hp2 := hp.1 hb
        obtain ⟨n0, h0⟩ := (less_does l[(i + j) / 2] s).both (ih ((i + j) / 2 + 1) j (by omega) (by omega) h2 h3)
        refine Does.of n0 fun m hm => ?_
        obtain ⟨q1, q2⟩ := h0 m hm
        rw [hb] at q1
        rw [q_slices_BinarySearch_string_c1]
        simp only [S0, S9, S1, S2, if_true, if_false, w1, w2, w3, w4, w5, tl_len, tl_get hlt, txt_s, q1]
        rw [if_pos (by omega), if_pos (by omega)]
        exact q2
      | false =>
        have hp2 : pos s l ≤ (i + j) / 2 := by
          rcases Nat.lt_or_ge ((i + j) / 2) (pos s l) with h | h
          · rw [hp.2 h] at hb; cases hb
          · exact h
        obtain ⟨n0, h0⟩ := (less_does l[(i + j) / 2] s).both (ih i ((i + j) / 2) (by omega) h1 hp2 (by omega))
        refine Does.of n0 fun m hm => ?_
        obtain ⟨q1, q2⟩ := h0 m hm
        rw [hb] at q1
        rw [q_slices_BinarySearch_string_c1]
        simp only [S0, S9, S1, S2, if_true, if_false, w1, w2, w3, w4, w5, tl_len, tl_get hlt, txt_s, q1, Bool.false_eq_true]
        rw [if_pos (by omega), if_pos (by omega)]
        exact q2
    · refine Does.now fun m => ?_
      rw [q_slices_BinarySearch_string_c1]
      simp only [S0, S9, S1, S2, if_true, if_false]
      rw [if_neg (by omega), show i = pos s l by omega]
theorem bs_does (l : List ByteArray) (s : ByteArray) (hl : l.length ≤ 1000000) (hr : Ri l) : Dz i_slices_BinarySearch_string none [A.t (T.node (tl l)), A.t (T.str s)] (1, [A.t (T.int (pos s l : Nat)), A.t (T.bool (hasB s l))]) := by
  have hp := pos_le s l
  have h2 : ∀ x : ByteArray, Dz i_slices_isNaN_string none [A.t (T.str x)] (1, [A.t (T.bool false)]) := fun x => Does.now fun m => by
    rw [q_slices_isNaN_string]
    simp only [S0, S9, S1, S2, if_true, if_false, seq_is.2 rfl, Bool.not_true]
  have h1 := bs_loop l s hl hr l.length 0 l.length (by omega) (Nat.zero_le _) hp (Nat.le_refl _)
  by_cases hlt : pos s l < l.length
  · obtain ⟨n0, h0⟩ := h1.both (h2 l[pos s l])
    refine Does.of n0 fun m hm => ?_
    obtain ⟨q1, q2⟩ := h0 m hm
    have q : den Tryd.prog G0 ents m i_slices_BinarySearch_string (some p_slices_BinarySearch_string_c1) [A.t (T.node (tl l)), A.t (T.str s), A.t (T.int (l.length : Nat)), A.t (T.int 0), A.t (T.int (l.length : Nat))] = _ := q1
    rw [q_slices_BinarySearch_string]
    simp only [S0, S9, S1, S2, if_true, if_false, tl_len, q, tl_get hlt, txt_s, q2]
    rw [if_pos (by omega), if_pos (by omega)]
    by_cases e : l[pos s l] = s
    · have hm : s ∈ l := (pos_mem hr).2 (by rw [List.getElem?_eq_getElem hlt, e])
      rw [seq_is.2 e, hasB_iff.2 hm]
      simp
    · have hm : s ∉ l := fun hm => by
        have := (pos_mem hr).1 hm
        rw [List.getElem?_eq_getElem hlt] at this
        exact e (Option.some.inj this)
      rw [seq_no e, hasB_no hm]
      simp only [Bool.false_eq_true, if_false, not_false_eq_true, if_true]
      rw [if_pos (by omega)]
  · obtain ⟨n0, h0⟩ := h1
    refine Does.of n0 fun m hm => ?_
    have q : den Tryd.prog G0 ents m i_slices_BinarySearch_string (some p_slices_BinarySearch_string_c1) [A.t (T.node (tl l)), A.t (T.str s), A.t (T.int (l.length : Nat)), A.t (T.int 0), A.t (T.int (l.length : Nat))] = _ := h0 m hm
    have hm : s ∉ l := fun hm => by
      have := (pos_mem hr).1 hm
      rw [List.getElem?_eq_none (by omega)] at this
      cases this
    rw [q_slices_BinarySearch_string]
    simp only [S0, S9, S1, S2, if_true, if_false, tl_len, q, hasB_no hm]
    rw [if_neg (by omega)]
theorem clone_eq (n : Nat) (l : List T) : den Tryd.prog G0 ents (Nat.succ n) i_slices_Clone none [A.t (T.node l)] = Option.map (fun o => (1, o)) (bif decide (l.length ≤ 1000000000) then some [A.t (T.node l)] else none) := by kernel_rfl
theorem clone_does {l : List T} (h : l.length ≤ 1000000000) : Dz i_slices_Clone none [A.t (T.node l)] (1, [A.t (T.node l)]) := Does.now fun n => by rw [clone_eq, decide_eq_true h]; rfl
theorem insert_eq (n : Nat) (i : Int) (s v : List T) : den Tryd.prog G0 ents (Nat.succ n) i_slices_Insert none [A.t (T.int i), A.t (T.node s), A.t (T.node v)] = Option.map (fun o => (1, o)) (bif insrtOk i s v then some [A.t (T.node v), A.t (T.node (insL i s v))] else none) := by kernel_rfl
theorem insert_does {i : Int} {s v : List T} (h : insrtOk i s v = true) : Dz i_slices_Insert none [A.t (T.int i), A.t (T.node s), A.t (T.node v)] (1, [A.t (T.node v), A.t (T.node (insL i s v))]) := Does.now fun n => by rw [insert_eq, h]; rfl
theorem ins_does {l : List ByteArray} {s : ByteArray} (hl : l.length ≤ 500000) (h : s ∉ l) : Dz i_slices_Insert none [A.t (T.int (pos s l : Nat)), A.t (T.node (tl l)), A.t (T.node [T.str s])] (1, [A.t (T.node [T.str s]), A.t (T.node (tl (insT s l)))]) := by
  have hp := pos_le s l
  have := insert_does (i := ((pos s l : Nat) : Int)) (s := tl l) (v := [T.str s]) (by
    unfold insrtOk
    simp only [Bool.and_eq_true, decide_eq_true_eq, tl_len, List.length_singleton]
    omega)
  rw [insL_tl h] at this
  exact this
theorem plink_does {fs : List T} {p : List ByteArray} {t : ByteArray → List ByteArray} (h : Gr fs p t) {a b : ByteArray} (ha : a.size ≤ 100) (hb : b.size ≤ 100) (hl : p.length + 2 ≤ 200000) (hn : (t a).length + 1 ≤ 200000) :
    ∃ fs', Gr fs' (insT b (insT a p)) (updT t a (insT b (t a))) ∧ Dz i_graph_Graph_string_Link none [A.t (T.str a), A.t (T.str b), A.t (T.node fs)] (1, [A.t (T.node fs')]) := by
  obtain ⟨f1, g1, d1⟩ := padd_does h ha (by omega)
  have hla := insT_len a p
  obtain ⟨f2, g2, d2⟩ := padd_does g1 hb (by omega)
  have hmem : a ∈ insT b (insT a p) := mem_insT.2 (.inr (mem_insT.2 (.inl rfl)))
  have hta := g2.to a
  obtain ⟨n0, h0⟩ := d1.both d2
  have hbs := bs_does (t a) b (by omega) (h.tri a)
  by_cases hin : b ∈ t a
  · have e : updT t a (insT b (t a)) = t := by
      funext s
      unfold updT
      split
      · rename_i e; subst e; exact insT_has (h.tri _) hin
      · rfl
    obtain ⟨n1, h1⟩ := hbs
    refine ⟨f2, by rw [e]; exact g2, Does.of (n0 + n1) fun m hm => ?_⟩
    have q3 := h1 m (by omega)
    rw [q_graph_Graph_string_Link]
    simp only [S0, S9, S1, S2, if_true, if_false, (h0 m (by omega)).1, (h0 m (by omega)).2, gZ_eq, hta, q3, hasB_iff.2 hin, Bool.not_true, Bool.false_eq_true]
  · have hlen := insT_len b (t a)
    obtain ⟨n1, h1⟩ := hbs.both (clone_does (l := tl (t a)) (by rw [tl_len]; omega))
    obtain ⟨n2, h2⟩ := ins_does (l := t a) (s := b) (by omega) hin
    refine ⟨_, g2.set hmem (insT_rise (h.tri a)) (by omega) (fun x hx => ?_), Does.of (n0 + n1 + n2) fun m hm => ?_⟩
    · rcases mem_insT.1 hx with rfl | hx
      · exact hb
      · exact h.tsiz a x hx
    · have q3 := h1 m (by omega)
      have q4 := h2 m (by omega)
      rw [q_graph_Graph_string_Link]
      simp only [S0, S9, S1, S2, if_true, if_false, (h0 m (by omega)).1, (h0 m (by omega)).2, gZ_eq, hta, q3.1, q3.2, hasB_no hin, Bool.not_false, q4, put_eq]
theorem to_snoc (L : List (ByteArray × ByteArray)) (a b : ByteArray) : toOf (L ++ [(a, b)]) = updT (toOf L) a (insT b (toOf L a)) := by
  funext s
  unfold toOf updT
  rw [List.foldl_append]
  show (if a = s then insT b _ else _) = _
  by_cases e : a = s
  · subst e; simp
  · rw [if_neg e, if_neg fun h => e h.symm]
theorem pts_snoc (l : List ByteArray) (L : List (ByteArray × ByteArray)) (a b : ByteArray) : ptsOf l (L ++ [(a, b)]) = insT b (insT a (ptsOf l L)) := by
  unfold ptsOf
  rw [List.foldl_append]
  rfl
theorem link_on {fs : List T} {l : List ByteArray} {L : List (ByteArray × ByteArray)} (h : Gr fs (ptsOf l L) (toOf L)) {a b : ByteArray} (ha : a.size ≤ 100) (hb : b.size ≤ 100) (hl : l.length + 2 * L.length ≤ 190000) :
    ∃ fs', Gr fs' (ptsOf l (L ++ [(a, b)])) (toOf (L ++ [(a, b)])) ∧ Dz i_graph_Graph_string_Link none [A.t (T.str a), A.t (T.str b), A.t (T.node fs)] (1, [A.t (T.node fs')]) := by
  have h1 := pts_len l L
  have h2 := to_len L a
  rw [to_snoc, pts_snoc]
  exact plink_does h ha hb (by omega) (by omega)
theorem new_loop (l : List ByteArray) (hl : l.length ≤ 1000) (hs : ∀ x ∈ l, x.size ≤ 100) : ∀ (k j : Nat) (fs : List T), j + k = l.length → Gr fs ((l.take j).foldl (fun a s => insT s a) []) (fun _ => []) →
    ∃ fs', Gr fs' (l.foldl (fun a s => insT s a) []) (fun _ => []) ∧ Dz i_graph_New_string (some p_graph_New_string_c1) [A.t (T.node (tl l)), A.t (T.int (l.length : Nat)), A.t (T.int j), A.t (T.node fs)] (2, [A.t (T.node fs')]) := by
  intro k
  induction k with
  | zero =>
    intro j fs hj h
    rw [List.take_of_length_le (by omega)] at h
    refine ⟨fs, h, Does.now fun m => ?_⟩
    rw [q_graph_New_string_c1]
    simp only [S0, S9, S1, S2, if_true, if_false]
    rw [if_neg (by omega)]
  | succ k ih =>
    intro j fs hj h
    have hlt : j < l.length := by omega
    have hw : IntKind.i64.wrap ((j : Int) + 1) = ((j + 1 : Nat) : Int) := i64succ (by omega)
    have hlen := fold_len (l.take j) []
    rw [List.length_take] at hlen
    simp only [List.length_nil] at hlen
    obtain ⟨f1, g1, d1⟩ := padd_does h (hs _ (List.getElem_mem hlt)) (by omega)
    have e : insT l[j] ((l.take j).foldl (fun a s => insT s a) []) = (l.take (j + 1)).foldl (fun a s => insT s a) [] := by
      rw [take_succ' hlt, List.foldl_append]; rfl
    rw [e] at g1
    obtain ⟨f2, g2, d2⟩ := ih (j + 1) f1 (by omega) g1
    obtain ⟨n0, h0⟩ := d1.both d2
    refine ⟨f2, g2, Does.of n0 fun m hm => ?_⟩
    obtain ⟨q1, q2⟩ := h0 m hm
    rw [q_graph_New_string_c1]
    simp only [S0, S9, S1, S2, if_true, if_false, tl_len, tl_get hlt, txt_s, hw, q1]
    rw [if_pos (by omega), if_pos (by omega)]
    exact q2
theorem Gr.nil : Gr [] [] (fun _ => []) := ⟨List.Pairwise.nil, List.Perm.refl _, fun s => rfl, fun s => List.Pairwise.nil, by simp, fun s => by simp, fun x hx => (by cases hx), fun s x hx => (by cases hx)⟩
theorem new_does (l : List ByteArray) (hl : l.length ≤ 1000) (hs : ∀ x ∈ l, x.size ≤ 100) : ∃ fs', Gr fs' (ptsOf l []) (toOf []) ∧ Dz i_graph_New_string none [A.t (T.node (tl l))] (1, [A.t (T.node fs')]) := by
  obtain ⟨f1, g1, d1⟩ := new_loop l hl hs l.length 0 [] (by omega) Gr.nil
  obtain ⟨n0, h0⟩ := d1
  refine ⟨f1, g1, Does.of n0 fun m hm => ?_⟩
  have q : den Tryd.prog G0 ents m i_graph_New_string (some p_graph_New_string_c1) [A.t (T.node (tl l)), A.t (T.int (l.length : Nat)), A.t (T.int 0), A.t (T.node [])] = _ := h0 m hm
  rw [q_graph_New_string]
  simp only [S0, S9, S1, S2, if_true, if_false, tl_len, q]
theorem psort_eq (n : Nat) (l : List T) : den Tryd.prog G0 ents (Nat.succ n) i_slices_Sorted_l none [A.t (T.node l)] = Option.map (fun o => (1, o)) (bif keysOk l then some [A.t (T.node (keysS l)), A.t (T.node l)] else none) := by kernel_rfl
theorem points_does {fs : List T} {p : List ByteArray} {t : ByteArray → List ByteArray} (h : Gr fs p t) : Dz i_graph_Graph_string_Points none [A.t (T.node fs)] (1, [A.t (T.node (tl p)), A.t (T.node fs)]) := by
  have h1 : Dz i_maps_Keys_map_string_string_string_string none [A.t (T.node fs)] (1, [A.t (T.node fs)]) := Does.now fun m => by
    rw [q_maps_Keys_map_string_string_string_string]
    simp only [S0, S9, S1, S2, if_true, if_false]
  have h2 : Dz i_slices_Sorted_l none [A.t (T.node fs)] (1, [A.t (T.node (keysS fs)), A.t (T.node fs)]) := Does.now fun n => by
    rw [psort_eq, keysOk_of h.perm (by have := h.len; omega) (fun x hx => by have := h.siz x hx; omega)]; rfl
  rw [keys_of h.perm h.rise] at h2
  obtain ⟨n0, h0⟩ := h1.both h2
  refine Does.of n0 fun m hm => ?_
  rw [q_graph_Graph_string_Points]
  simp only [S0, S9, S1, S2, if_true, if_false, (h0 m hm).1, (h0 m hm).2]
theorem pto_does {fs : List T} {p : List ByteArray} {t : ByteArray → List ByteArray} (h : Gr fs p t) (s : ByteArray) : Dz i_graph_Graph_string_To none [A.t (T.str s), A.t (T.node fs)] (1, [A.t (T.node fs), A.t (T.node (tl (t s)))]) := by
  obtain ⟨n0, h0⟩ := clone_does (l := tl (t s)) (by rw [tl_len]; have := h.tlen s; omega)
  refine Does.of n0 fun m hm => ?_
  rw [q_graph_Graph_string_To]
  simp only [S0, S9, S1, S2, if_true, if_false, gZ_eq, h.to s, h0 m hm]
end Go.Proofs.YtjnbggianlgjiaaDoorOH
namespace Go.Proofs.YtjnbggianlgjiaaDoorOH
open Go Go.Proofs.YtjnbggianlgjiaaDoorVM
set_option linter.unusedVariables false
set_option linter.unusedSimpArgs false
set_option maxRecDepth 100000

def prs (k : ByteArray) (l : List ByteArray) : List (ByteArray × ByteArray) := l.map fun x => (x, k)
def turnL (p : List ByteArray) (t : ByteArray → List ByteArray) : List (ByteArray × ByteArray) := p.flatMap fun k => prs k (t k)
theorem mem_turn {p : List ByteArray} {t : ByteArray → List ByteArray} {a b : ByteArray} : (a, b) ∈ turnL p t ↔ b ∈ p ∧ a ∈ t b := by
  unfold turnL prs
  rw [List.mem_flatMap]
  constructor
  · rintro ⟨k, hk, h⟩
    obtain ⟨x, hx, e⟩ := List.mem_map.1 h
    cases e
    exact ⟨hk, hx⟩
  · rintro ⟨h1, h2⟩
    exact ⟨b, h1, List.mem_map.2 ⟨a, h2, rfl⟩⟩
theorem turn_len {t : ByteArray → List ByteArray} (N : Nat) (ht : ∀ s, (t s).length ≤ N) : ∀ p : List ByteArray, (turnL p t).length ≤ p.length * N
  | [] => by simp [turnL]
  | x :: p => by
    have h1 := turn_len N ht p
    have h2 := ht x
    unfold turnL at h1 ⊢
    rw [List.flatMap_cons, List.length_append, List.length_cons, Nat.add_mul, Nat.one_mul]
    unfold prs at h1 ⊢
    rw [List.length_map]
    omega
theorem turn2_loop {fs : List T} {p : List ByteArray} {t : ByteArray → List ByteArray} (h : Gr fs p t) {l0 : List ByteArray} (k : ByteArray) (hk : k.size ≤ 100) (x1 : List T) (i1 i2 : Int) (B : Nat) (hB : l0.length + 2 * B ≤ 190000) : ∀ (d j : Nat) (M : List (ByteArray × ByteArray)) (out : List T), j + d = (t k).length → M.length + d ≤ B → Gr out (ptsOf l0 M) (toOf M) →
    ∃ out', Gr out' (ptsOf l0 (M ++ prs k ((t k).drop j))) (toOf (M ++ prs k ((t k).drop j))) ∧
      Dz i_graph_Graph_string_Turned (some p_graph_Graph_string_Turned_c2) [A.t (T.str k), A.t (T.node x1), A.t (T.int i1), A.t (T.int i2), A.t (T.int ((t k).length : Nat)), A.t (T.int j), A.t (T.node fs), A.t (T.node (tl (t k))), A.t (T.node out)] (4, [A.t (T.node x1), A.t (T.int i1), A.t (T.int i2), A.t (T.node fs), A.t (T.node out')]) := by
  intro d
  induction d with
  | zero =>
    intro j M out hj hM hg
    rw [List.drop_of_length_le (by omega)]
    refine ⟨out, by simpa [prs] using hg, Does.now fun m => ?_⟩
    rw [q_graph_Graph_string_Turned_c2]
    simp only [S0, S9, S1, S2, if_true, if_false]
    rw [if_neg (by omega)]
  | succ d ih =>
    intro j M out hj hM hg
    have hlt : j < (t k).length := by omega
    have hw : IntKind.i64.wrap ((j : Int) + 1) = ((j + 1 : Nat) : Int) := i64succ (by have := h.tlen k; omega)
    obtain ⟨f1, g1, d1⟩ := link_on hg (h.tsiz k _ (List.getElem_mem hlt)) hk (by omega)
    obtain ⟨f2, g2, d2⟩ := ih (j + 1) (M ++ [((t k)[j], k)]) f1 (by omega) (by rw [List.length_append, List.length_singleton]; omega) g1
    have e : M ++ [((t k)[j], k)] ++ prs k ((t k).drop (j + 1)) = M ++ prs k ((t k).drop j) := by
      rw [List.drop_eq_getElem_cons hlt, List.append_assoc]; rfl
    rw [e] at g2
    obtain ⟨n0, h0⟩ := d1.both d2
    refine ⟨f2, g2, Does.of n0 fun m hm => ?_⟩
    obtain ⟨q1, q2⟩ := h0 m hm
    rw [q_graph_Graph_string_Turned_c2]
    simp only [S0, S9, S1, S2, if_true, if_false, tl_len, tl_get hlt, txt_s, hw, q1]
    rw [if_pos (by omega), if_pos (by omega), if_pos (by omega)]
    exact q2
theorem turn1_loop {fs : List T} {p : List ByteArray} {t : ByteArray → List ByteArray} (h : Gr fs p t) {l0 : List ByteArray} (N : Nat) (ht : ∀ s, (t s).length ≤ N) (B : Nat) (hB : l0.length + 2 * B ≤ 190000) : ∀ (d j : Nat) (M : List (ByteArray × ByteArray)) (out : List T), j + d = p.length → M.length + d * N ≤ B → Gr out (ptsOf l0 M) (toOf M) →
    ∃ out', Gr out' (ptsOf l0 (M ++ turnL (p.drop j) t)) (toOf (M ++ turnL (p.drop j) t)) ∧
      Dz i_graph_Graph_string_Turned (some p_graph_Graph_string_Turned_c1) [A.t (T.node (tl p)), A.t (T.int (p.length : Nat)), A.t (T.int j), A.t (T.node fs), A.t (T.node out)] (2, [A.t (T.node fs), A.t (T.node out')]) := by
  intro d
  induction d with
  | zero =>
    intro j M out hj hM hg
    rw [List.drop_of_length_le (by omega)]
    refine ⟨out, by simpa [turnL] using hg, Does.now fun m => ?_⟩
    rw [q_graph_Graph_string_Turned_c1]
    simp only [S0, S9, S1, S2, if_true, if_false]
    rw [if_neg (by omega)]
  | succ d ih =>
    intro j M out hj hM hg
    have hlt : j < p.length := by omega
    have hw : IntKind.i64.wrap ((j : Int) + 1) = ((j + 1 : Nat) : Int) := i64succ (by have := h.len; omega)
    have htj := ht p[j]
    have hdn : (d + 1) * N = d * N + N := Nat.succ_mul d N
    obtain ⟨f1, g1, d1⟩ := turn2_loop h p[j] (h.siz _ (List.getElem_mem hlt)) (tl p) (p.length : Nat) (j : Nat) B hB (t p[j]).length 0 M out (by omega) (by omega) hg
    rw [List.drop_zero] at g1
    have hpl : (prs p[j] (t p[j])).length = (t p[j]).length := by unfold prs; rw [List.length_map]
    obtain ⟨f2, g2, d2⟩ := ih (j + 1) (M ++ prs p[j] (t p[j])) f1 (by omega) (by rw [List.length_append, hpl]; omega) g1
    have e : M ++ prs p[j] (t p[j]) ++ turnL (p.drop (j + 1)) t = M ++ turnL (p.drop j) t := by
      rw [List.drop_eq_getElem_cons hlt, List.append_assoc]; rfl
    rw [e] at g2
    obtain ⟨n0, h0⟩ := d1.both d2
    obtain ⟨n1, h1⟩ := pto_does h p[j]
    refine ⟨f2, g2, Does.of (n0 + n1) fun m hm => ?_⟩
    obtain ⟨q1, q2⟩ := h0 m (by omega)
    have q3 := h1 m (by omega)
    have q1' : den Tryd.prog G0 ents m i_graph_Graph_string_Turned (some p_graph_Graph_string_Turned_c2) [A.t (T.str p[j]), A.t (T.node (tl p)), A.t (T.int (p.length : Nat)), A.t (T.int (j : Nat)), A.t (T.int ((t p[j]).length : Nat)), A.t (T.int 0), A.t (T.node fs), A.t (T.node (tl (t p[j]))), A.t (T.node out)] = _ := q1
    rw [q_graph_Graph_string_Turned_c1]
    simp only [S0, S9, S1, S2, if_true, if_false, tl_len, tl_get hlt, txt_s, hw, q3, q1', show Nat.beq 4 4 = true from rfl]
    rw [if_pos (by omega), if_pos (by omega)]
    exact q2
theorem turned_does {fs : List T} {p : List ByteArray} {t : ByteArray → List ByteArray} (h : Gr fs p t) (hp : p.length ≤ 300) (ht : ∀ s, (t s).length ≤ 100) :
    ∃ fs', Gr fs' (ptsOf p (turnL p t)) (toOf (turnL p t)) ∧ Dz i_graph_Graph_string_Turned none [A.t (T.node fs)] (1, [A.t (T.node fs), A.t (T.node fs')]) := by
  obtain ⟨f1, g1, d1⟩ := new_does p (by omega) h.siz
  obtain ⟨f2, g2, d2⟩ := turn1_loop h (l0 := p) 100 ht 30000 (by omega) p.length 0 [] f1 (by omega) (by simp only [List.length_nil]; omega) g1
  rw [List.drop_zero, List.nil_append] at g2
  obtain ⟨n0, h0⟩ := d1.both d2
  obtain ⟨n1, h1⟩ := points_does h
  refine ⟨f2, g2, Does.of (n0 + n1) fun m hm => ?_⟩
  obtain ⟨q1, q2⟩ := h0 m (by omega)
  have q3 := h1 m (by omega)
  have q2' : den Tryd.prog G0 ents m i_graph_Graph_string_Turned (some p_graph_Graph_string_Turned_c1) [A.t (T.node (tl p)), A.t (T.int (p.length : Nat)), A.t (T.int 0), A.t (T.node fs), A.t (T.node f1)] = _ := q2
  rw [q_graph_Graph_string_Turned]
  simp only [S0, S9, S1, S2, if_true, if_false, q1, q3, tl_len, q2']
theorem turn_pts {l : List ByteArray} {L : List (ByteArray × ByteArray)} : ptsOf (ptsOf l L) (turnL (ptsOf l L) (toOf L)) = ptsOf l L := by
  refine Ri.ext (pts_rise _ _) (pts_rise _ _) fun x => ?_
  rw [mem_pts (l := ptsOf l L)]
  constructor
  · rintro (h | ⟨⟨a, b⟩, hy, h⟩)
    · exact h
    · obtain ⟨h1, h2⟩ := mem_turn.1 hy
      have h3 := mem_to.1 h2
      rcases h with rfl | rfl
      · exact mem_pts.2 (.inr ⟨_, h3, .inr rfl⟩)
      · exact h1
  · exact .inl
theorem turn_to {l : List ByteArray} {L : List (ByteArray × ByteArray)} (s : ByteArray) : toOf (turnL (ptsOf l L) (toOf L)) s = toOf (swp L) s := by
  refine Ri.ext (to_rise _ _) (to_rise _ _) fun x => ?_
  rw [mem_to, mem_to, mem_turn, mem_to, mem_swp]
  exact ⟨fun h => h.2, fun h => ⟨mem_pts.2 (.inr ⟨_, h, .inl rfl⟩), h⟩⟩
def turnT (x : T) : T := .node [.str (ln x).2, .str (ln x).1]
theorem turnT_ln (lt : List T) : (lt.map turnT).map ln = swp (lt.map ln) := by
  unfold swp
  rw [List.map_map, List.map_map]
  rfl
theorem same17_loop (a : List ByteArray) (ha : a.length ≤ 1000000) : ∀ (k j : Nat), j + k = a.length → Dz i_R02_Same (some p_R02_Same_c1) [A.t (T.node (tl a)), A.t (T.node (tl a)), A.t (T.int j)] (2, []) := by
  intro k
  induction k with
  | zero =>
    intro j hj
    refine Does.now fun m => ?_
    rw [q_R02_Same_c1]
    simp only [S0, S9, S1, S2, if_true, if_false, tl_len]
    rw [if_neg (by omega)]
  | succ k ih =>
    intro j hj
    have hlt : j < a.length := by omega
    have hw : IntKind.i64.wrap ((j : Int) + 1) = ((j + 1 : Nat) : Int) := i64succ (by omega)
    obtain ⟨n0, h0⟩ := ih (j + 1) (by omega)
    refine Does.of n0 fun m hm => ?_
    rw [q_R02_Same_c1]
    simp only [S0, S9, S1, S2, if_true, if_false, tl_len, tl_get hlt, txt_s, hw, seq_is.2 rfl, Bool.not_true, Bool.false_eq_true]
    rw [if_pos (by omega), if_pos (by omega), if_pos (by omega)]
    exact h0 m hm
theorem same_does (a : List ByteArray) (ha : a.length ≤ 1000000) : Dz i_R02_Same none [A.t (T.node (tl a)), A.t (T.node (tl a))] (1, [A.t (T.bool true)]) := by
  obtain ⟨n0, h0⟩ := same17_loop a ha a.length 0 (by omega)
  refine Does.of n0 fun m hm => ?_
  have q : den Tryd.prog G0 ents m i_R02_Same (some p_R02_Same_c1) [A.t (T.node (tl a)), A.t (T.node (tl a)), A.t (T.int 0)] = _ := h0 m hm
  rw [q_R02_Same]
  simp only [S0, S9, S1, S2, if_true, if_false, q, bne_self_eq_false, Bool.false_eq_true, not_true_eq_false]
end Go.Proofs.YtjnbggianlgjiaaDoorOH
namespace Go.Proofs.YtjnbggianlgjiaaDoorOH
open Go Go.Proofs.YtjnbggianlgjiaaDoorVM
set_option linter.unusedVariables false
set_option linter.unusedSimpArgs false
set_option maxRecDepth 100000

def okB (lt : List T) : Bool := lt.all fun x => decide ((ln x).1.size ≤ 100) && decide ((ln x).2.size ≤ 100)
def okN (l : List T) : Bool := l.all fun x => decide (x.txt.size ≤ 100)
def fewG (l lt : List T) : Bool := decide (l.length ≤ 30) && decide (lt.length ≤ 60) && okN l && okB lt
theorem few_ok {l lt : List T} (h : fewG l lt = true) : l.length ≤ 30 ∧ lt.length ≤ 60 ∧ (∀ x ∈ l.map T.txt, x.size ≤ 100) ∧ (∀ x ∈ lt, (ln x).1.size ≤ 100 ∧ (ln x).2.size ≤ 100) := by
  unfold fewG at h
  simp only [Bool.and_eq_true, decide_eq_true_eq] at h
  obtain ⟨⟨⟨h1, h2⟩, h3⟩, h4⟩ := h
  refine ⟨h1, h2, fun x hx => ?_, fun x hx => ?_⟩
  · obtain ⟨y, hy, e⟩ := List.mem_map.1 hx
    have := List.all_eq_true.1 h3 y hy
    rw [decide_eq_true_eq] at this
    rw [← e]; exact this
  · have := List.all_eq_true.1 h4 x hx
    simpa using this
end Go.Proofs.YtjnbggianlgjiaaDoorOH
namespace Go.Proofs.YtjnbggianlgjiaaDoorOH
open Go Go.Proofs.YtjnbggianlgjiaaDoorVM
set_option linter.unusedVariables false
set_option linter.unusedSimpArgs false
set_option maxRecDepth 100000

theorem texts_of {t : T} (h : TOk Tryd.prog 37 t) : t.kids = tl (t.kids.map T.txt) := by
  obtain ⟨xs, rfl, _, hx⟩ := TOk.row_of Tryd.underlying37 h
  show xs = (xs.map T.txt).map T.str
  rw [List.map_map]
  have : ∀ x ∈ xs, (T.str ∘ T.txt) x = x := fun x hx' => by
    obtain ⟨s, rfl, _⟩ := TOk.str_of Tryd.underlying9 (hx x hx')
    rfl
  rw [List.map_congr_left this, List.map_id']
end Go.Proofs.YtjnbggianlgjiaaDoorOH
namespace Go.Proofs.YtjnbggianlgjiaaDoorOH
open Go Go.Proofs.YtjnbggianlgjiaaDoorVM
set_option linter.unusedVariables false
set_option linter.unusedSimpArgs false
set_option maxRecDepth 100000

def cnt (t : ByteArray → List ByteArray) (out : List ByteArray) (x : ByteArray) : Nat := ((t x).filter fun y => !hasB y out).length
def fz (p out : List ByteArray) (c : ByteArray → Nat) : List ByteArray := p.filter fun x => !hasB x out && Nat.beq (c x) 0
def lft (p out : List ByteArray) : List ByteArray := p.filter fun x => !hasB x out
def stepO (p : List ByteArray) (t : ByteArray → List ByteArray) (out : List ByteArray) : List ByteArray :=
  match fz p out (cnt t out) with
  | [] => out
  | s :: _ => out ++ [s]
def iterO (p : List ByteArray) (t : ByteArray → List ByteArray) : Nat → List ByteArray → List ByteArray
  | 0, o => o
  | k + 1, o => iterO p t k (stepO p t o)
theorem iterO_still {p : List ByteArray} {t : ByteArray → List ByteArray} {o : List ByteArray} (h : fz p o (cnt t o) = []) : ∀ k, iterO p t k o = o
  | 0 => rfl
  | k + 1 => by
    have e : stepO p t o = o := by unfold stepO; rw [h]
    show iterO p t k (stepO p t o) = o
    rw [e]; exact iterO_still h k
theorem mem_fz {p out : List ByteArray} {c : ByteArray → Nat} {x : ByteArray} : x ∈ fz p out c ↔ x ∈ p ∧ x ∉ out ∧ c x = 0 := by
  unfold fz
  rw [List.mem_filter, Bool.and_eq_true, Bool.not_eq_true', Nat.beq_eq]
  constructor
  · rintro ⟨h1, h2, h3⟩
    exact ⟨h1, fun h => (by rw [hasB_iff.2 h] at h2; cases h2), h3⟩
  · rintro ⟨h1, h2, h3⟩
    exact ⟨h1, hasB_no h2, h3⟩
theorem mem_lft {p out : List ByteArray} {x : ByteArray} : x ∈ lft p out ↔ x ∈ p ∧ x ∉ out := by
  unfold lft
  rw [List.mem_filter, Bool.not_eq_true']
  constructor
  · rintro ⟨h1, h2⟩
    exact ⟨h1, fun h => by rw [hasB_iff.2 h] at h2; cases h2⟩
  · rintro ⟨h1, h2⟩
    exact ⟨h1, hasB_no h2⟩
theorem fz_rise {p out : List ByteArray} {c : ByteArray → Nat} (h : Ri p) : Ri (fz p out c) := h.sublist List.filter_sublist
theorem lft_rise {p out : List ByteArray} (h : Ri p) : Ri (lft p out) := h.sublist List.filter_sublist
theorem cnt_all {t : ByteArray → List ByteArray} {out : List ByteArray} {x : ByteArray} : cnt t out x = 0 ↔ ∀ y ∈ t x, y ∈ out := by
  unfold cnt
  rw [List.length_eq_zero_iff, List.filter_eq_nil_iff]
  constructor
  · intro h y hy
    have := h y hy
    rw [Bool.not_eq_true', Bool.not_eq_false] at this
    exact hasB_iff.1 this
  · intro h y hy
    rw [Bool.not_eq_true', Bool.not_eq_false]
    exact hasB_iff.2 (h y hy)
theorem all_cnt (t : ByteArray → List ByteArray) (out : List ByteArray) (x : ByteArray) : ((t x).all fun y => hasB y out) = Nat.beq (cnt t out x) 0 := by
  rw [Bool.eq_iff_iff, List.all_eq_true, Nat.beq_eq, cnt_all]
  exact ⟨fun h y hy => hasB_iff.1 (h y hy), fun h y hy => hasB_iff.2 (h y hy)⟩
theorem hasB_snoc (x s : ByteArray) (out : List ByteArray) : hasB x (out ++ [s]) = (hasB x out || decide (x = s)) := by
  rw [Bool.eq_iff_iff, Bool.or_eq_true, hasB_iff, hasB_iff, decide_eq_true_eq, List.mem_append, List.mem_singleton]
theorem cnt_snoc {t : ByteArray → List ByteArray} {out : List ByteArray} {x s : ByteArray} (ht : (t x).Nodup) (hs : s ∉ out) : cnt t (out ++ [s]) x = if hasB s (t x) then cnt t out x - 1 else cnt t out x := by
  unfold cnt
  generalize t x = l at ht ⊢
  induction l with
  | nil => rfl
  | cons y l ih =>
    obtain ⟨h1, h2⟩ := List.nodup_cons.1 ht
    have ih := ih h2
    have hcons : hasB s (y :: l) = (seqB y s || hasB s l) := rfl
    rw [List.filter_cons, List.filter_cons, hcons, hasB_snoc]
    by_cases e : y = s
    · subst e
      have hn : hasB y l = false := hasB_no h1
      rw [hn] at ih
      simp only [Bool.false_eq_true, if_false] at ih
      rw [seq_is.2 rfl, hasB_no hs]
      simp only [Bool.false_or, decide_true, Bool.not_true, Bool.false_eq_true, if_false, Bool.true_or, if_true, Bool.not_false, List.length_cons]
      omega
    · rw [seq_no e, decide_eq_false e, Bool.or_false, Bool.false_or]
      cases hb : hasB y out with
      | true =>
        simp only [Bool.not_true, Bool.false_eq_true, if_false]
        exact ih
      | false =>
        simp only [Bool.not_false, if_true, List.length_cons]
        rw [ih]
        split
        · rename_i hh
          have : 1 ≤ (l.filter fun y => !hasB y out).length := by
            have hm : s ∈ l.filter fun y => !hasB y out := List.mem_filter.2 ⟨hasB_iff.1 hh, by rw [hasB_no hs]; rfl⟩
            exact List.length_pos_of_mem hm
          omega
        · rfl
theorem fz_tail {p out : List ByteArray} {c : ByteArray → Nat} (hp : Ri p) {s : ByteArray} {rest : List ByteArray} (h : fz p out c = s :: rest) : fz p (out ++ [s]) c = rest := by
  have hr : Ri (s :: rest) := h ▸ fz_rise hp
  obtain ⟨h1, h2⟩ := List.pairwise_cons.1 hr
  refine Ri.ext (fz_rise hp) h2 fun x => ?_
  have hm : x ∈ fz p out c ↔ x ∈ s :: rest := by rw [h]
  rw [mem_fz] at hm ⊢
  rw [List.mem_append, List.mem_singleton, not_or]
  rw [List.mem_cons] at hm
  constructor
  · rintro ⟨a, ⟨b, b2⟩, d⟩
    exact (hm.1 ⟨a, b, d⟩).resolve_left b2
  · intro hx
    obtain ⟨a, b, d⟩ := hm.2 (.inr hx)
    exact ⟨a, ⟨b, fun e => lt_ne (h1 x hx) e.symm⟩, d⟩
theorem fz_congr {p out : List ByteArray} {c d : ByteArray → Nat} (h : ∀ x, c x = d x) : fz p out c = fz p out d := by
  rw [show c = d from funext h]
theorem cnt_nil (t : ByteArray → List ByteArray) (x : ByteArray) : cnt t [] x = (t x).length := by
  unfold cnt
  have : ((t x).filter fun y => !hasB y []) = t x := List.filter_eq_self.2 fun y _ => rfl
  rw [this]
structure Ks (ms : List T) (free p out : List ByteArray) (c : ByteArray → Nat) : Prop where
  keys : (ms.map ky).Perm (lft p out)
  num : ∀ x ∈ p, x ∉ out → (gZ (.int 0) ms x).num = (c x : Nat)
  free : free = fz p out c
def decN (c : ByteArray → Nat) (b : ByteArray) : ByteArray → Nat := fun x => if x = b then c b - 1 else c x
theorem Ks.dec {ms : List T} {free p out : List ByteArray} {c : ByteArray → Nat} (h : Ks ms free p out c) (hp : Ri p) {b : ByteArray} (hb : b ∈ p) (ho : b ∉ out) (h1 : 1 ≤ c b) : Ks (putF ms b (.int ((c b - 1 : Nat) : Int))) (if c b = 1 then insT b free else free) p out (decN c b) := by
  have hk : b ∈ ms.map ky := h.keys.mem_iff.2 (mem_lft.2 ⟨hb, ho⟩)
  refine ⟨by rw [put_in hk]; exact h.keys, fun x hx hxo => ?_, ?_⟩
  · rw [gZ_put]
    unfold decN
    split
    · rfl
    · exact h.num x hx hxo
  · have hf := h.free
    subst hf
    split
    · rename_i e
      refine Ri.ext (insT_rise (fz_rise hp)) (fz_rise hp) fun x => ?_
      rw [mem_insT, mem_fz, mem_fz]
      unfold decN
      by_cases e2 : x = b
      · subst e2
        rw [if_pos rfl]
        exact ⟨fun _ => ⟨hb, ho, by omega⟩, fun _ => .inl rfl⟩
      · rw [if_neg e2]
        exact ⟨fun h => h.resolve_left e2, .inr⟩
    · rename_i e
      refine Ri.ext (fz_rise hp) (fz_rise hp) fun x => ?_
      rw [mem_fz, mem_fz]
      unfold decN
      by_cases e2 : x = b
      · subst e2
        rw [if_pos rfl]
        exact ⟨fun h => ⟨h.1, h.2.1, by omega⟩, fun h => ⟨h.1, h.2.1, by omega⟩⟩
      · rw [if_neg e2]
theorem Ks.nodup {ms : List T} {free p out : List ByteArray} {c : ByteArray → Nat} (h : Ks ms free p out c) (hp : Ri p) : (ms.map ky).Nodup := h.keys.nodup_iff.2 (lft_rise hp).nodup
theorem ky_del : ∀ (fs : List T) (k : ByteArray), (fs.map ky).Nodup → (delF fs k).map ky = (fs.map ky).filter fun x => decide (x ≠ k)
  | [], k, _ => rfl
  | e :: fs, k, hn => by
    obtain ⟨h1, h2⟩ := List.nodup_cons.1 hn
    have ih := ky_del fs k h2
    unfold delF at ih ⊢
    simp only [mdel]
    cases hk : keyS (.str k) (e.get 0) with
    | true =>
      have hke : k = ky e := (key_iff _ _).1 hk
      subst hke
      simp only [cond_true]
      rw [List.map_cons, List.filter_cons, if_neg (by simp), List.filter_eq_self.2]
      intro y hy
      exact decide_eq_true fun e2 => h1 (e2 ▸ hy)
    | false =>
      have hke : ky e ≠ k := fun e2 => by
        have := (key_iff (.str k) (e.get 0)).2 e2.symm
        rw [hk] at this; cases this
      simp only [cond_false]
      rw [List.map_cons, ih, List.map_cons, List.filter_cons, if_pos (decide_eq_true hke)]
theorem lft_snoc (p out : List ByteArray) (s : ByteArray) : lft p (out ++ [s]) = (lft p out).filter fun x => decide (x ≠ s) := by
  unfold lft
  rw [List.filter_filter]
  congr 1
  funext x
  rw [hasB_snoc]
  by_cases e : x = s <;> cases hasB x out <;> simp [e]
theorem Ks.take {ms : List T} {free p out : List ByteArray} {c : ByteArray → Nat} {s : ByteArray} {rest : List ByteArray} (h : Ks ms free p out c) (hp : Ri p) (hf : free = s :: rest) : Ks (delF ms s) rest p (out ++ [s]) c := by
  refine ⟨?_, fun x hx hxo => ?_, ?_⟩
  · rw [ky_del ms s (h.nodup hp), lft_snoc]
    exact h.keys.filter _
  · rw [List.mem_append, List.mem_singleton, not_or] at hxo
    rw [gZ_del _ _ _ _ hxo.2]
    exact h.num x hx hxo.1
  · rw [fz_tail hp (h.free.symm.trans hf)]
end Go.Proofs.YtjnbggianlgjiaaDoorOH
namespace Go.Proofs.YtjnbggianlgjiaaDoorOH
open Go Go.Proofs.YtjnbggianlgjiaaDoorVM
set_option linter.unusedVariables false
set_option linter.unusedSimpArgs false
set_option maxRecDepth 100000

theorem gI_eq (fs : List T) (s : ByteArray) : mget keyS (T.int 0) fs (T.str s) = gZ (.int 0) fs s := id rfl
theorem putI_eq (fs : List T) (s : ByteArray) (v : T) : mput keyS fs (T.str s) v = putF fs s v := id rfl
theorem delI_eq (fs : List T) (s : ByteArray) : mdel keyS fs (T.str s) = delF fs s := id rfl
theorem gZ_self (z : T) (fs : List T) (k : ByteArray) (v : T) : gZ z (putF fs k v) k = v := by rw [gZ_put, if_pos rfl]
theorem ord3_loop (p out : List ByteArray) (hp : Ri p) (hpl : p.length ≤ 100000) (w : List ByteArray) (hw : w.length ≤ 100000) (fsX outX gX : List T) : ∀ (k j : Nat) (ms : List T) (free : List ByteArray) (c : ByteArray → Nat), j + k = w.length → Ks ms free p out c → (∀ x ∈ w.drop j, x ∈ p ∧ x ∉ out ∧ 1 ≤ c x) → (w.drop j).Nodup → (∀ x, c x ≤ 1000000) →
    ∃ ms' free', Ks ms' free' p out (fun x => if hasB x (w.drop j) then c x - 1 else c x) ∧
      Dz i_graph_Graph_string_Order (some p_graph_Graph_string_Order_c3) [A.t (T.node (tl free)), A.t (T.int (w.length : Nat)), A.t (T.int j), A.t (T.node fsX), A.t (T.node outX), A.t (T.node ms), A.t (T.node (tl w)), A.t (T.node gX)] (6, [A.t (T.node (tl free')), A.t (T.node fsX), A.t (T.node outX), A.t (T.node ms'), A.t (T.node gX)]) := by
  intro k
  induction k with
  | zero =>
    intro j ms free c hj h _ _ _
    rw [List.drop_of_length_le (by omega)]
    refine ⟨ms, free, h, Does.now fun m => ?_⟩
    rw [q_graph_Graph_string_Order_c3]
    simp only [S0, S9, S1, S2, if_true, if_false]
    rw [if_neg (by omega)]
  | succ k ih =>
    intro j ms free c hj h hx hn hc
    have hlt : j < w.length := by omega
    have hw1 : IntKind.i64.wrap ((j : Int) + 1) = ((j + 1 : Nat) : Int) := i64succ (by omega)
    rw [List.drop_eq_getElem_cons hlt] at hx hn
    obtain ⟨hn1, hn2⟩ := List.nodup_cons.1 hn
    obtain ⟨x1, x2, x3⟩ := hx _ List.mem_cons_self
    have hcb := hc w[j]
    have hd := h.dec hp x1 x2 x3
    obtain ⟨ms', free', g, d⟩ := ih (j + 1) _ _ (decN c w[j]) (by omega) hd (fun x hxm => by
      obtain ⟨y1, y2, y3⟩ := hx x (List.mem_cons_of_mem _ hxm)
      refine ⟨y1, y2, ?_⟩
      unfold decN
      rw [if_neg fun e => hn1 (by rw [← e]; exact hxm)]
      exact y3) hn2 (fun x => by unfold decN; split <;> first | omega | exact hc x)
    have he : (fun x => if hasB x (w.drop (j + 1)) then decN c w[j] x - 1 else decN c w[j] x) = fun x => if hasB x (w.drop j) then c x - 1 else c x := by
      funext x
      rw [List.drop_eq_getElem_cons hlt]
      have hcons : hasB x (w[j] :: w.drop (j + 1)) = (seqB w[j] x || hasB x (w.drop (j + 1))) := rfl
      rw [hcons]
      unfold decN
      by_cases e : x = w[j]
      · rw [if_pos e, e, hasB_no hn1, seq_is.2 rfl]
        simp
      · rw [if_neg e, seq_no fun h => e h.symm, Bool.false_or]
    rw [he] at g
    have hnum := h.num _ x1 x2
    have hwn : IntKind.i64.wrap (((c w[j] : Nat) : Int) - 1) = ((c w[j] - 1 : Nat) : Int) := by
      rw [show ((c w[j] : Nat) : Int) - 1 = ((c w[j] - 1 : Nat) : Int) by omega]
      exact i64nat (by omega)
    have hfr : Ri free := h.free ▸ fz_rise hp
    have hfl : free.length ≤ p.length := by rw [h.free]; exact List.length_filter_le _ _
    by_cases e1 : c w[j] = 1
    · rw [if_pos e1] at d
      have hnf : w[j] ∉ free := by rw [h.free, mem_fz]; intro hh; omega
      obtain ⟨n0, h0⟩ := (bs_does free w[j] (by omega) hfr).both (clone_does (l := tl free) (by rw [tl_len]; omega))
      obtain ⟨n1, h1⟩ := (ins_does (l := free) (s := w[j]) (by omega) hnf).both d
      refine ⟨ms', free', g, Does.of (n0 + n1) fun m hm => ?_⟩
      obtain ⟨q1, q2⟩ := h0 m (by omega)
      obtain ⟨q3, q4⟩ := h1 m (by omega)
      have hzero : c w[j] - 1 = 0 := by omega
      rw [q_graph_Graph_string_Order_c3]
      simp only [S0, S9, S1, S2, if_true, if_false, tl_len, tl_get hlt, txt_s, hw1, gI_eq, putI_eq, hnum, hwn, gZ_self, hzero, q1, q2, q3]
      rw [if_pos (by omega), if_pos (by omega), if_pos (by omega), if_pos (by omega)]
      rw [hzero] at q4
      exact q4
    · rw [if_neg e1] at d
      obtain ⟨n0, h0⟩ := d
      refine ⟨ms', free', g, Does.of n0 fun m hm => ?_⟩
      have q := h0 m hm
      rw [q_graph_Graph_string_Order_c3]
      simp only [S0, S9, S1, S2, if_true, if_false, tl_len, tl_get hlt, txt_s, hw1, gI_eq, putI_eq, hnum, hwn, gZ_self]
      rw [if_pos (by omega), if_pos (by omega), if_pos (by omega), if_neg (by omega)]
      exact q
def Cl (t : ByteArray → List ByteArray) (out : List ByteArray) : Prop := ∀ x ∈ out, ∀ y ∈ t x, y ∈ out
theorem least_does (s : ByteArray) (l : List ByteArray) (hl : l.length ≤ 1000000) : Dz i_graph_least_string none [A.t (T.node (tl (s :: l)))] (1, [A.t (T.str s), A.t (T.node (tl l))]) := Does.now fun m => by
  have e : tl (s :: l) = T.str s :: tl l := rfl
  have hl2 := tl_len l
  rw [q_graph_least_string, e]
  simp only [S0, S9, S1, S2, if_true, if_false, List.length_cons, hl2]
  rw [if_pos (by omega), if_pos ⟨⟨⟨by omega, by omega⟩, trivial⟩, by omega⟩]
  rw [show l.length + 1 = (tl l).length + 1 by rw [tl_len], ← List.length_cons (a := T.str s), List.take_length]
  rfl
theorem ord2_loop (p : List ByteArray) (hp : Ri p) (hpl : p.length ≤ 100000) (t tt : ByteArray → List ByteArray) (ht : ∀ x, (t x).Nodup) (htl : ∀ x, (t x).length ≤ 1000) (htt : ∀ x s, x ∈ tt s ↔ s ∈ t x) (htp : ∀ x s, x ∈ tt s → x ∈ p) {gt : List T} {pg : List ByteArray} (hg : Gr gt pg tt) (httl : ∀ s, (tt s).length ≤ 1000) (fsX : List T) :
    ∀ (k : Nat) (out : List ByteArray) (ms : List T) (free : List ByteArray), p.length ≤ out.length + k → Ks ms free p out (cnt t out) → Cl t out → out.Nodup → (∀ x ∈ out, x ∈ p) →
    ∃ ms', Ks ms' [] p (iterO p t k out) (cnt t (iterO p t k out)) ∧ (iterO p t k out).Nodup ∧ (∀ x ∈ iterO p t k out, x ∈ p) ∧
      Dz i_graph_Graph_string_Order (some p_graph_Graph_string_Order_c2) [A.t (T.node (tl free)), A.t (T.node fsX), A.t (T.node (tl out)), A.t (T.node ms), A.t (T.node gt)] (4, [A.t (T.node fsX), A.t (T.node (tl (iterO p t k out))), A.t (T.node ms')]) := by
  intro k
  induction k with
  | zero =>
    intro out ms free hk h hcl hn ho
    cases hf : free with
    | nil =>
      subst hf
      refine ⟨ms, h, hn, ho, Does.now fun m => ?_⟩
      rw [q_graph_Graph_string_Order_c2]
      simp only [S0, S9, S1, S2, if_true, if_false]
      rfl
    | cons s rest =>
      exfalso
      have hs : s ∈ fz p out (cnt t out) := by rw [← h.free, hf]; exact List.mem_cons_self
      obtain ⟨s1, s2, _⟩ := mem_fz.1 hs
      have : (s :: out).length ≤ p.length := List.Nodup.length_le_of_subset (List.nodup_cons.2 ⟨s2, hn⟩) fun x hx => (List.mem_cons.1 hx).elim (fun e => e ▸ s1) (ho x)
      rw [List.length_cons] at this
      omega
  | succ k ih =>
    intro out ms free hk h hcl hn ho
    cases hf : free with
    | nil =>
      subst hf
      rw [iterO_still h.free.symm]
      refine ⟨ms, h, hn, ho, Does.now fun m => ?_⟩
      rw [q_graph_Graph_string_Order_c2]
      simp only [S0, S9, S1, S2, if_true, if_false]
      rfl
    | cons s rest =>
      have hfz : fz p out (cnt t out) = s :: rest := h.free.symm.trans hf
      have hs : s ∈ fz p out (cnt t out) := by rw [hfz]; exact List.mem_cons_self
      obtain ⟨s1, s2, s3⟩ := mem_fz.1 hs
      rw [cnt_all] at s3
      have hit : iterO p t (k + 1) out = iterO p t k (out ++ [s]) := by
        show iterO p t k (stepO p t out) = _
        unfold stepO
        rw [hfz]
      rw [hit]
      have hn' : (out ++ [s]).Nodup := by
        rw [List.nodup_append]
        exact ⟨hn, List.pairwise_singleton _ _, fun a ha b hb e => s2 (by rw [List.mem_singleton.1 hb] at e; exact e ▸ ha)⟩
      have ho' : ∀ x ∈ out ++ [s], x ∈ p := fun x hx => (List.mem_append.1 hx).elim (ho x) fun h => by rw [List.mem_singleton.1 h]; exact s1
      have hol : (out ++ [s]).length ≤ p.length := List.Nodup.length_le_of_subset hn' ho'
      rw [List.length_append, List.length_singleton] at hol
      have hcl' : Cl t (out ++ [s]) := fun x hx y hy => List.mem_append_left _ (by
        rcases List.mem_append.1 hx with hx | hx
        · exact hcl x hx y hy
        · rw [List.mem_singleton.1 hx] at hy; exact s3 y hy)
      have hcle : ∀ x, cnt t out x ≤ 1000000 := fun x => by have := List.length_filter_le (fun y => !hasB y out) (t x); have := htl x; unfold cnt; omega
      obtain ⟨ms1, free1, g1, d1⟩ := ord3_loop p (out ++ [s]) hp hpl (tt s) (by have := httl s; omega) fsX (tl (out ++ [s])) gt (tt s).length 0 (delF ms s) rest (cnt t out) (by omega) (h.take hp hf) (fun x hx => by
        rw [List.drop_zero] at hx
        have hsx := (htt x s).1 hx
        refine ⟨htp x s hx, fun hxo => ?_, ?_⟩
        · rcases List.mem_append.1 hxo with hxo | hxo
          · exact s2 (hcl x hxo s hsx)
          · rw [List.mem_singleton.1 hxo] at hsx; exact s2 (s3 s hsx)
        · exact List.length_pos_of_mem (List.mem_filter.2 ⟨hsx, by rw [hasB_no s2]; rfl⟩)) (by rw [List.drop_zero]; exact (hg.tri s).nodup) hcle
      rw [List.drop_zero] at g1
      have he : (fun x => if hasB x (tt s) then cnt t out x - 1 else cnt t out x) = cnt t (out ++ [s]) := by
        funext x
        rw [cnt_snoc (ht x) s2]
        have : hasB x (tt s) = hasB s (t x) := by rw [Bool.eq_iff_iff, hasB_iff, hasB_iff]; exact htt x s
        rw [this]
      rw [he] at g1
      obtain ⟨ms', g2, g3, g4, d2⟩ := ih (out ++ [s]) ms1 free1 (by rw [List.length_append, List.length_singleton]; omega) g1 hcl' hn' ho'
      have hfl : (s :: rest).length ≤ p.length := by rw [← hfz]; exact List.length_filter_le _ _
      rw [List.length_cons] at hfl
      obtain ⟨n0, h0⟩ := (least_does s rest (by omega)).both (pto_does hg s)
      obtain ⟨n1, h1⟩ := d1.both d2
      have hsz : Nat.succ out.length < 1073741824 := by show out.length + 1 < _; omega
      refine ⟨ms', g2, g3, g4, Does.of (n0 + n1) fun m hm => ?_⟩
      obtain ⟨q1, q2⟩ := h0 m (by omega)
      obtain ⟨q3, q4⟩ := h1 m (by omega)
      rw [tl_app] at q3 q4
      have q3' : den Tryd.prog G0 ents m i_graph_Graph_string_Order (some p_graph_Graph_string_Order_c3) [A.t (T.node (tl rest)), A.t (T.int ((tt s).length : Nat)), A.t (T.int 0), A.t (T.node fsX), A.t (T.node (tl out ++ [T.str s])), A.t (T.node (delF ms s)), A.t (T.node (tl (tt s))), A.t (T.node gt)] = some (6, [A.t (T.node (tl free1)), A.t (T.node fsX), A.t (T.node (tl out ++ [T.str s])), A.t (T.node ms1), A.t (T.node gt)]) := q3
      rw [q_graph_Graph_string_Order_c2]
      simp only [S0, S9, S1, S2, if_true, if_false, tl_len, List.length_cons, txt_s, delI_eq, q1, q2, hsz, q3', show Nat.beq 6 6 = true from rfl]
      rw [if_pos (by omega)]
      exact q4
theorem ord1_loop {fs : List T} {p : List ByteArray} {t : ByteArray → List ByteArray} (h : Gr fs p t) (hpl : p.length ≤ 100000) (x4 gX : List T) : ∀ (k j : Nat) (ms : List T), j + k = p.length → ms.map ky = p.take j → (∀ x ∈ p.take j, (gZ (.int 0) ms x).num = ((t x).length : Nat)) →
    ∃ ms', ms'.map ky = p ∧ (∀ x ∈ p, (gZ (.int 0) ms' x).num = ((t x).length : Nat)) ∧
      Dz i_graph_Graph_string_Order (some p_graph_Graph_string_Order_c1) [A.t (T.node (tl p)), A.t (T.int (p.length : Nat)), A.t (T.int j), A.t (T.node fs), A.t (T.node x4), A.t (T.node ms), A.t (T.node (tl ((p.take j).filter fun x => Nat.beq (t x).length 0))), A.t (T.node gX)]
        (2, [A.t (T.node fs), A.t (T.node x4), A.t (T.node ms'), A.t (T.node (tl (p.filter fun x => Nat.beq (t x).length 0))), A.t (T.node gX)]) := by
  intro k
  induction k with
  | zero =>
    intro j ms hj hk hv
    rw [List.take_of_length_le (by omega)] at hk hv ⊢
    refine ⟨ms, hk, hv, Does.now fun m => ?_⟩
    rw [q_graph_Graph_string_Order_c1]
    simp only [S0, S9, S1, S2, if_true, if_false]
    rw [if_neg (by omega)]
  | succ k ih =>
    intro j ms hj hk hv
    have hlt : j < p.length := by omega
    have hw : IntKind.i64.wrap ((j : Int) + 1) = ((j + 1 : Nat) : Int) := i64succ (by omega)
    have hnm : p[j] ∉ p.take j := by
      intro hm
      obtain ⟨i, hi, e⟩ := List.getElem_of_mem hm
      rw [List.length_take] at hi
      rw [List.getElem_take] at e
      have := List.pairwise_iff_getElem.1 h.rise i j (by omega) hlt (by omega)
      exact lt_ne this e
    have hks : p[j] ∉ ms.map ky := by rw [hk]; exact hnm
    have htk := take_succ' hlt
    obtain ⟨ms', g1, g2, d⟩ := ih (j + 1) (putF ms p[j] (.int ((t p[j]).length : Nat))) (by omega) (by rw [put_out hks, hk, htk]) (fun x hx => by
      rw [gZ_put]
      rw [htk] at hx
      split
      · rename_i e; rw [e]; rfl
      · rename_i e
        exact hv x ((List.mem_append.1 hx).elim id fun h => absurd (List.mem_singleton.1 h) e))
    obtain ⟨n0, h0⟩ := (pto_does h p[j]).both d
    have hfl : ((p.take j).filter fun x => Nat.beq (t x).length 0).length ≤ p.length := Nat.le_trans (List.length_filter_le _ _) (by rw [List.length_take]; omega)
    have hsz : Nat.succ ((p.take j).filter fun x => Nat.beq (t x).length 0).length < 1073741824 := by show _ + 1 < _; omega
    refine ⟨ms', g1, g2, Does.of n0 fun m hm => ?_⟩
    obtain ⟨q1, q2⟩ := h0 m hm
    rw [htk, List.filter_append, tl_app] at q2
    rw [q_graph_Graph_string_Order_c1]
    simp only [S0, S9, S1, S2, if_true, if_false, tl_len, tl_get hlt, txt_s, hw, q1, gI_eq, putI_eq, gZ_self, hsz]
    rw [if_pos (by omega), if_pos (by omega)]
    by_cases e : (t p[j]).length = 0
    · have hf : ([p[j]].filter fun x => Nat.beq (t x).length 0) = [p[j]] := by rw [List.filter_cons, if_pos (by rw [e]; rfl)]; rfl
      rw [hf] at q2
      rw [if_pos (by omega)]
      exact q2
    · have hf : ([p[j]].filter fun x => Nat.beq (t x).length 0) = [] := by rw [List.filter_cons, if_neg (by rw [Nat.beq_eq]; exact e)]; rfl
      rw [hf] at q2
      rw [if_neg (by omega)]
      rw [show tl [] = [] from rfl, List.append_nil] at q2
      exact q2
theorem isort_eq (n : Nat) (l : List T) : den Tryd.prog G0 ents (Nat.succ n) i_slices_Sorted none [A.t (T.node l)] = Option.map (fun o => (1, o)) (bif keysOk l then some [A.t (T.node (keysS l)), A.t (T.node l)] else none) := by kernel_rfl
theorem order_gen {fs : List T} {l : List ByteArray} {L : List (ByteArray × ByteArray)} (g : Gr fs (ptsOf l L) (toOf L)) (hpl : (ptsOf l L).length ≤ 180) (htl : ∀ s, (toOf L s).length ≤ 60) (hsl : ∀ s, (toOf (swp L) s).length ≤ 60) :
    ∃ out, out = iterO (ptsOf l L) (toOf L) (ptsOf l L).length [] ∧ fz (ptsOf l L) out (cnt (toOf L) out) = [] ∧ (∀ x ∈ out, x ∈ ptsOf l L) ∧ out.Nodup ∧
      Dz i_graph_Graph_string_Order none [A.t (T.node fs)] (1, [A.t (T.node (tl (lft (ptsOf l L) out))), A.t (T.node fs), A.t (T.node (tl out))]) := by
  obtain ⟨fb, gb, d1⟩ := turned_does g (by omega) (fun s => by have := htl s; omega)
  rw [turn_pts] at gb
  have htb : ∀ s, toOf (turnL (ptsOf l L) (toOf L)) s = toOf (swp L) s := fun s => turn_to s
  obtain ⟨ms1, k1, k2, d2⟩ := ord1_loop g (by omega) [] fb (ptsOf l L).length 0 [] (by omega) rfl (fun x hx => by cases hx)
  have hks : Ks ms1 ((ptsOf l L).filter fun x => Nat.beq (toOf L x).length 0) (ptsOf l L) [] (cnt (toOf L) []) := by
    refine ⟨?_, fun x hx _ => by rw [cnt_nil]; exact k2 x hx, ?_⟩
    · rw [k1]
      have : lft (ptsOf l L) [] = ptsOf l L := List.filter_eq_self.2 fun y _ => rfl
      rw [this]
    · unfold fz
      congr 1
      funext x
      rw [cnt_nil]
      rfl
  obtain ⟨ms2, k3, k4, k5, d3⟩ := ord2_loop (ptsOf l L) (pts_rise l L) (by omega) (toOf L) (toOf (turnL (ptsOf l L) (toOf L))) (fun x => (to_rise L x).nodup) (fun x => by have := htl x; omega)
    (fun x s => by rw [htb, mem_to, mem_swp, mem_to]) (fun x s hx => by rw [htb, mem_to, mem_swp] at hx; exact mem_pts.2 (.inr ⟨_, hx, .inl rfl⟩)) gb (fun s => by rw [htb]; have := hsl s; omega) fs (ptsOf l L).length [] ms1 _ (by simp) hks (fun x hx => by cases hx) List.nodup_nil (fun x hx => by cases hx)
  refine ⟨_, rfl, k3.free.symm, k5, k4, ?_⟩
  generalize iterO (ptsOf l L) (toOf L) (ptsOf l L).length [] = out at *
  have hr := lft_rise (p := ptsOf l L) (out := out) (pts_rise l L)
  have hll : (lft (ptsOf l L) out).length ≤ (ptsOf l L).length := List.length_filter_le _ _
  have h1 : Dz i_maps_Keys_map_string_int_string_int none [A.t (T.node ms2)] (1, [A.t (T.node ms2)]) := Does.now fun m => by
    rw [q_maps_Keys_map_string_int_string_int]
    simp only [S0, S9, S1, S2, if_true, if_false]
  have h2 : Dz i_slices_Sorted none [A.t (T.node ms2)] (1, [A.t (T.node (keysS ms2)), A.t (T.node ms2)]) := Does.now fun n => by
    rw [isort_eq, keysOk_of k3.keys (by omega) (fun x hx => by have := g.siz x (mem_lft.1 hx).1; omega)]; rfl
  rw [keys_of k3.keys hr] at h2
  obtain ⟨n0, h0⟩ := h1.both h2
  obtain ⟨n1, h3⟩ := d1.both (points_does g)
  obtain ⟨n2, h4⟩ := d2.both d3
  refine Does.of (n0 + n1 + n2) fun m hm => ?_
  obtain ⟨q1, q2⟩ := h0 m (by omega)
  obtain ⟨q3, q4⟩ := h3 m (by omega)
  obtain ⟨q5, q6⟩ := h4 m (by omega)
  have q5' : den Tryd.prog G0 ents m i_graph_Graph_string_Order (some p_graph_Graph_string_Order_c1) [A.t (T.node (tl (ptsOf l L))), A.t (T.int ((ptsOf l L).length : Nat)), A.t (T.int 0), A.t (T.node fs), A.t (T.node []), A.t (T.node []), A.t (T.node []), A.t (T.node fb)] = _ := q5
  have q6' : den Tryd.prog G0 ents m i_graph_Graph_string_Order (some p_graph_Graph_string_Order_c2) [A.t (T.node (tl ((ptsOf l L).filter fun x => Nat.beq (toOf L x).length 0))), A.t (T.node fs), A.t (T.node []), A.t (T.node ms1), A.t (T.node fb)] = _ := q6
  rw [q_graph_Graph_string_Order]
  simp only [S0, S9, S1, S2, if_true, if_false, q1, q2, q3, q4, tl_len, q5', q6', show Nat.beq 4 4 = true from rfl]
theorem order_does {fs : List T} {l : List ByteArray} {L : List (ByteArray × ByteArray)} (g : Gr fs (ptsOf l L) (toOf L)) (hl : l.length ≤ 60) (hL : L.length ≤ 60) :
    ∃ out, out = iterO (ptsOf l L) (toOf L) (ptsOf l L).length [] ∧ fz (ptsOf l L) out (cnt (toOf L) out) = [] ∧ (∀ x ∈ out, x ∈ ptsOf l L) ∧ out.Nodup ∧
      Dz i_graph_Graph_string_Order none [A.t (T.node fs)] (1, [A.t (T.node (tl (lft (ptsOf l L) out))), A.t (T.node fs), A.t (T.node (tl out))]) :=
  order_gen g (by have := pts_len l L; omega) (fun s => by have := to_len L s; omega) (fun s => by have := to_len (swp L) s; unfold swp at this; rw [List.length_map] at this; unfold swp; omega)
end Go.Proofs.YtjnbggianlgjiaaDoorOH
namespace Go.Proofs.YtjnbggianlgjiaaDoorOH
open Go Go.Proofs.YtjnbggianlgjiaaDoorVM
set_option linter.unusedVariables false
set_option linter.unusedSimpArgs false
set_option maxRecDepth 100000

def aN (x : T) : ByteArray := ((x.get 1).get 0).txt
def aK (x : T) : Int := (x.get 0).num
def dpT (x : T) : List T := ((x.get 1).get 2).kids
def dp (x : T) : List ByteArray := (dpT x).map T.txt
theorem S6 : (∀ x : T, (T.get x 0).num = aK x) ∧ (∀ x, ((T.get x 1).get 0).txt = aN x) ∧ (∀ x, ((T.get x 1).get 2).kids = dpT x) := ⟨fun _ => rfl, fun _ => rfl, fun _ => rfl⟩
def things (l : List T) : List T := l.map fun x => x.get 1
structure Ac (x : T) : Prop where
  th : SmTh (x.get 1)
  sz : (aN x).size ≤ 100
  ds : ∀ s ∈ dp x, s.size ≤ 100
theorem Ac.dl {x : T} (h : Ac x) : (dpT x).length ≤ 20 := h.th.d
theorem Ac.dl2 {x : T} (h : Ac x) : (dp x).length ≤ 20 := by unfold dp; rw [List.length_map]; exact h.dl
def Tx (x : T) : Prop := dpT x = tl (dp x)
theorem fewL_ac {l : List T} (h : fewL (things l) = true) : l.length ≤ 12 ∧ ∀ x ∈ l, Ac x := by
  obtain ⟨h1, h2⟩ := fewL_sm h
  unfold things at h1
  rw [List.length_map] at h1
  refine ⟨h1, fun x hx => ?_⟩
  have hm : x.get 1 ∈ things l := List.mem_map.2 ⟨x, hx, rfl⟩
  unfold fewL at h
  simp only [Bool.and_eq_true, decide_eq_true_eq, List.all_eq_true] at h
  have h3 := h.2 _ hm
  unfold fewTh at h3
  simp only [Bool.and_eq_true, decide_eq_true_eq, List.all_eq_true] at h3
  refine ⟨h2 _ hm, h3.1, fun s hs => ?_⟩
  obtain ⟨y, hy, e⟩ := List.mem_map.1 hs
  rw [← e]
  exact h3.2.2.2 y hy
theorem fewLo_does (l : List T) : Dz i_L30_Few_o none [A.t (T.node l)] (1, [A.t (T.bool (fewL l)), A.t (T.node l)]) := by
  by_cases hl : l.length ≤ 12
  rotate_left
  · refine Does.now fun m => ?_
    rw [q_L30_Few_o, fewL, decide_eq_false hl, Bool.false_and]
    simp only [S0, S9, S1, S2, if_true, if_false]
    rw [if_pos (by omega)]
  have hin : ∀ i (hi : i < l.length), (deps l[i]).length ≤ 20 → ∀ k j, j + k = (deps l[i]).length → Dz i_L30_Few_o (some p_L30_Few_o_c2) [A.t (T.int i), A.t (T.int j), A.t (T.node l)] (if ((deps l[i]).drop j).all (fun s => decide (s.txt.size ≤ 100)) then (4, [A.t (T.int i), A.t (T.node l)]) else (1, [A.t (T.bool false), A.t (T.node l)])) := by
    intro i hi hd k
    induction k with
    | zero =>
      intro j hj
      rw [List.drop_of_length_le (by omega)]
      refine Does.now fun m => ?_
      rw [q_L30_Few_o_c2]
      simp only [S0, S9, S1, S2, if_true, if_false, at_get hi, S3, hi]
      rw [if_pos (by omega), if_neg (by omega)]; rfl
    | succ k ih =>
      intro j hj
      have hlt : j < (deps l[i]).length := by omega
      have hw : IntKind.i64.wrap ((j : Int) + 1) = ((j + 1 : Nat) : Int) := i64succ (by omega)
      obtain ⟨n0, h0⟩ := ih (j + 1) (by omega)
      refine Does.of n0 fun m hm => ?_
      have q := h0 m hm
      rw [q_L30_Few_o_c2, List.drop_eq_getElem_cons hlt, List.all_cons]
      simp only [S0, S9, S1, S2, if_true, if_false, at_get hi, at_get hlt, S3, hw, hi, q]
      rw [if_pos (by omega), if_pos (by omega), if_pos (by omega), if_pos (by omega)]
      by_cases hs : (deps l[i])[j].txt.size ≤ 100
      · rw [if_neg (by omega)]; simp only [hs, true_and]
      · rw [if_pos (by omega)]; simp only [hs, false_and, if_false]
  have hout : ∀ k j, j + k = l.length → Dz i_L30_Few_o (some p_L30_Few_o_c1) [A.t (T.int j), A.t (T.node l)] (if (l.drop j).all fewTh then (2, [A.t (T.node l)]) else (1, [A.t (T.bool false), A.t (T.node l)])) := by
    intro k
    induction k with
    | zero =>
      intro j hj
      rw [List.drop_of_length_le (by omega)]
      refine Does.now fun m => ?_
      rw [q_L30_Few_o_c1]
      simp only [S0, S9, S1, S2, if_true, if_false]
      rw [if_neg (by omega)]; rfl
    | succ k ih =>
      intro j hj
      have hlt : j < l.length := by omega
      have hw : IntKind.i64.wrap ((j : Int) + 1) = ((j + 1 : Nat) : Int) := i64succ (by omega)
      rw [List.drop_eq_getElem_cons hlt, List.all_cons]
      by_cases h1 : (nm l[j]).size ≤ 100
      rotate_left
      · refine Does.now fun m => ?_
        rw [q_L30_Few_o_c1, fewTh, decide_eq_false h1]
        simp only [S0, S9, S1, S2, if_true, if_false, at_get hlt, S3, hlt]
        rw [if_pos (by omega), if_pos (by omega), if_neg (by omega)]; rfl
      by_cases h2 : (deps l[j]).length ≤ 20
      rotate_left
      · refine Does.now fun m => ?_
        rw [q_L30_Few_o_c1, fewTh, decide_eq_false h2]
        simp only [S0, S9, S1, S2, if_true, if_false, at_get hlt, S3, hlt]
        rw [if_pos (by omega), if_pos (by omega), if_pos (by omega), if_pos (by omega), if_neg (by omega)]; simp
      obtain ⟨n1, h3⟩ := (few_does (thV l[j])).both (hin j hlt h2 (deps l[j]).length 0 (by omega))
      obtain ⟨n0, h0⟩ := ih (j + 1) (by omega)
      refine Does.of (n0 + n1) fun m hm => ?_
      obtain ⟨q1, q2⟩ := h3 m (by omega)
      have q3 := h0 m (by omega)
      have q2' : den Tryd.prog G0 ents m i_L30_Few_o (some p_L30_Few_o_c2) [A.t (T.int j), A.t (T.int 0), A.t (T.node l)] = _ := q2
      rw [List.drop_zero] at q2'
      rw [q_L30_Few_o_c1, fewTh, decide_eq_true h1, decide_eq_true h2]
      simp only [S0, S9, S1, S2, if_true, if_false, at_get hlt, S3, q1, q2', Bool.true_and, hlt]
      rw [if_pos (by omega), if_pos (by omega), if_pos (by omega), if_pos (by omega), if_pos (by omega), if_pos (by omega)]
      cases few (thV l[j]) with
      | false => simp
      | true =>
        cases (deps l[j]).all fun s => decide (s.txt.size ≤ 100) with
        | false => simp [Nat.beq]; exact ⟨rfl, rfl⟩
        | true =>
          have hw' : IntKind.i64.wrap ((j : Int) + 1) = ((j + 1 : Nat) : Int) := hw
          simp only [S0, S9, S1, S2, if_true, if_false, hw', q3, Bool.not_true, Bool.true_and, true_and, and_self]
  obtain ⟨n0, h0⟩ := hout l.length 0 (by omega)
  refine Does.of n0 fun m hm => ?_
  have q : den Tryd.prog G0 ents m i_L30_Few_o (some p_L30_Few_o_c1) [A.t (T.int 0), A.t (T.node l)] = _ := h0 m hm
  rw [List.drop_zero] at q
  rw [q_L30_Few_o, fewL, decide_eq_true hl, Bool.true_and]
  simp only [S0, S9, S1, S2, if_true, if_false, q]
  rw [if_neg (by omega)]
  cases l.all fewTh <;> rfl
theorem few33_does (l : List T) (hl : l.length ≤ 100000000) : Dz i_L33_Few none [A.t (T.node l)] (1, [A.t (T.bool (fewL (things l)))]) := by
  have hloop : ∀ k j, j + k = l.length → Dz i_L33_Few (some p_L33_Few_c1) [A.t (T.node l), A.t (T.int j), A.t (T.node (things (l.take j)))] (2, [A.t (T.node (things l))]) := by
    intro k
    induction k with
    | zero =>
      intro j hj
      refine Does.now fun m => ?_
      rw [q_L33_Few_c1, List.take_of_length_le (by omega)]
      simp only [S0, S9, S1, S2, if_true, if_false]
      rw [if_neg (by omega)]
    | succ k ih =>
      intro j hj
      have hlt : j < l.length := by omega
      have hw : IntKind.i64.wrap ((j : Int) + 1) = ((j + 1 : Nat) : Int) := i64succ (by omega)
      have hi := ih (j + 1) (by omega)
      have e : things (l.take (j + 1)) = things (l.take j) ++ [l[j].get 1] := by unfold things; rw [take_succ' hlt, List.map_append]; rfl
      rw [e] at hi
      have hsz : Nat.succ (things (l.take j)).length < 1073741824 := by unfold things; rw [List.length_map, List.length_take]; show _ + 1 < _; omega
      obtain ⟨n0, h0⟩ := hi
      refine Does.of n0 fun m hm => ?_
      have q := h0 m hm
      rw [q_L33_Few_c1]
      simp only [S0, S9, S1, S2, if_true, if_false, at_get hlt, hw, hsz]
      rw [if_pos (by omega), if_pos (by omega)]
      exact q
  obtain ⟨n0, h0⟩ := (hloop l.length 0 (by omega)).both (fewLo_does (things l))
  refine Does.of n0 fun m hm => ?_
  have q : den Tryd.prog G0 ents m i_L33_Few (some p_L33_Few_c1) [A.t (T.node l), A.t (T.int 0), A.t (T.node [])] = _ := (h0 m hm).1
  rw [q_L33_Few]
  simp only [S0, S9, S1, S2, if_true, if_false, q, (h0 m hm).2]
def okA (x : T) : Bool := decide (1 ≤ aK x) && (decide (aK x ≤ 3) && nameB (aN x))
def mayF (pre : List ByteArray) : List T → Bool
  | [] => true
  | x :: l => okA x && (!hasB (aN x) pre && mayF (pre ++ [aN x]) l)
theorem mayF_iff : ∀ (l : List T) (pre : List ByteArray), mayF pre l = true ↔ (∀ x ∈ l, okA x = true) ∧ (∀ x ∈ l, aN x ∉ pre) ∧ (l.map aN).Nodup
  | [], pre => by simp [mayF]
  | x :: l, pre => by
    rw [mayF, Bool.and_eq_true, Bool.and_eq_true, Bool.not_eq_true', mayF_iff l]
    constructor
    · rintro ⟨h1, h2, h3, h4, h5⟩
      refine ⟨fun y hy => ?_, fun y hy => ?_, ?_⟩
      · rcases List.mem_cons.1 hy with rfl | hy
        · exact h1
        · exact h3 y hy
      · rcases List.mem_cons.1 hy with rfl | hy
        · intro h; rw [hasB_iff.2 h] at h2; cases h2
        · exact fun h => h4 y hy (List.mem_append_left _ h)
      · rw [List.map_cons, List.nodup_cons]
        refine ⟨fun h => ?_, h5⟩
        obtain ⟨y, hy, e⟩ := List.mem_map.1 h
        exact h4 y hy (List.mem_append_right _ (List.mem_singleton.2 e))
    · rintro ⟨h1, h2, h3⟩
      rw [List.map_cons, List.nodup_cons] at h3
      refine ⟨h1 x List.mem_cons_self, hasB_no (h2 x List.mem_cons_self), fun y hy => h1 y (List.mem_cons_of_mem _ hy), fun y hy h => ?_, h3.2⟩
      rcases List.mem_append.1 h with h | h
      · exact h2 y (List.mem_cons_of_mem _ hy) h
      · exact h3.1 (List.mem_map.2 ⟨y, hy, List.mem_singleton.1 h⟩)
def m2B (ms : List T) (pre : List ByteArray) : Prop := ∀ s, (gZ (.int 0) ms s).num = if hasB s pre then 1 else 0
theorem pmay_loop (l : List T) (hl : l.length ≤ 100000) : ∀ (k j : Nat) (ms : List T) (pre : List ByteArray), j + k = l.length → m2B ms pre →
    Dz i_order_may (some p_order_may_c1) [A.t (T.node l), A.t (T.int (l.length : Nat)), A.t (T.int j), A.t (T.node ms)] (if mayF pre (l.drop j) then (2, []) else (1, [A.t (T.bool false)])) := by
  intro k
  induction k with
  | zero =>
    intro j ms pre hj h
    refine Does.now fun m => ?_
    rw [q_order_may_c1, List.drop_of_length_le (by omega)]
    simp only [S0, S9, S1, S2, if_true, if_false]
    rw [if_neg (by omega)]
    rfl
  | succ k ih =>
    intro j ms pre hj h
    have hlt : j < l.length := by omega
    have hw : IntKind.i64.wrap ((j : Int) + 1) = ((j + 1 : Nat) : Int) := i64succ (by omega)
    rw [List.drop_eq_getElem_cons hlt, mayF]
    have hs := h (aN l[j])
    by_cases h1 : aK l[j] < 1
    · refine Does.now fun m => ?_
      have e : okA l[j] = false := by unfold okA; rw [decide_eq_false (by omega)]; rfl
      rw [q_order_may_c1, e]
      simp only [S0, S9, S1, S2, if_true, if_false, at_get hlt, S6]
      rw [if_pos (by omega), if_pos (by omega), if_neg (by omega)]
      rfl
    by_cases h2 : aK l[j] > 3
    · refine Does.now fun m => ?_
      have e : okA l[j] = false := by unfold okA; rw [decide_eq_false (p := aK l[j] ≤ 3) (by omega)]; simp
      rw [q_order_may_c1, e]
      simp only [S0, S9, S1, S2, if_true, if_false, at_get hlt, S6]
      rw [if_pos (by omega), if_pos (by omega), if_pos (by omega), if_neg (by omega)]
      rfl
    have e : okA l[j] = nameB (aN l[j]) := by unfold okA; rw [decide_eq_true (by omega), decide_eq_true (by omega)]; simp
    rw [e]
    cases hnm : nameB (aN l[j]) with
    | false =>
      obtain ⟨n0, h0⟩ := nameR_does (aN l[j])
      refine Does.of n0 fun m hm => ?_
      have q := h0 m hm
      rw [hnm] at q
      rw [q_order_may_c1]
      simp only [S0, S9, S1, S2, if_true, if_false, at_get hlt, S6, q, Bool.not_false, Bool.false_and, Bool.true_eq_false]
      rw [if_pos (by omega), if_pos (by omega), if_pos (by omega), if_pos (by omega)]
    | true =>
      cases hb : hasB (aN l[j]) pre with
      | true =>
        rw [hb] at hs
        have hs' : (gZ (.int 0) ms (aN l[j])).num = 1 := hs
        have hw2 : IntKind.i64.wrap ((1 : Int) + 1) = 2 := by decide
        obtain ⟨n0, h0⟩ := nameR_does (aN l[j])
        refine Does.of n0 fun m hm => ?_
        have q := h0 m hm
        rw [hnm] at q
        rw [q_order_may_c1]
        simp only [S0, S9, S1, S2, if_true, if_false, at_get hlt, S6, q, Bool.not_true, gI_eq, putI_eq, gZ_self, hs', hw2]
        rw [if_pos (by omega), if_pos (by omega), if_pos (by omega), if_pos (by omega), if_pos (by omega)]
        rfl
      | false =>
        rw [hb] at hs
        have hs' : (gZ (.int 0) ms (aN l[j])).num = 0 := hs
        have hw2 : IntKind.i64.wrap ((0 : Int) + 1) = 1 := by decide
        have hi := ih (j + 1) (putF ms (aN l[j]) (.int 1)) (pre ++ [aN l[j]]) (by omega) (fun s => by
          rw [gZ_put]
          by_cases es : s = aN l[j]
          · rw [if_pos es, hasB_iff.2 (List.mem_append_right _ (List.mem_singleton.2 es))]; rfl
          · rw [if_neg es, h s]
            have : hasB s (pre ++ [aN l[j]]) = hasB s pre := by
              rw [Bool.eq_iff_iff, hasB_iff, hasB_iff, List.mem_append, List.mem_singleton]
              exact ⟨fun h => h.resolve_right es, .inl⟩
            rw [this])
        obtain ⟨n0, h0⟩ := (nameR_does (aN l[j])).both hi
        refine Does.of n0 fun m hm => ?_
        obtain ⟨q1, q2⟩ := h0 m hm
        rw [hnm] at q1
        rw [q_order_may_c1]
        simp only [S0, S9, S1, S2, if_true, if_false, at_get hlt, S6, q1, hw, Bool.not_true, gI_eq, putI_eq, gZ_self, hs', hw2, Bool.not_false, true_and]
        rw [if_pos (by omega), if_pos (by omega), if_pos (by omega), if_pos (by omega), if_neg (by omega)]
        exact q2
theorem pmay_does (l : List T) (hl : l.length ≤ 100000) : Dz i_order_may none [A.t (T.node l)] (1, [A.t (T.bool (mayF [] l))]) := by
  obtain ⟨n0, h0⟩ := pmay_loop l hl l.length 0 [] [] (by omega) (fun s => rfl)
  refine Does.of n0 fun m hm => ?_
  have q : den Tryd.prog G0 ents m i_order_may (some p_order_may_c1) [A.t (T.node l), A.t (T.int (l.length : Nat)), A.t (T.int 0), A.t (T.node [])] = _ := h0 m hm
  rw [List.drop_zero] at q
  rw [q_order_may]
  simp only [S0, S9, S1, S2, if_true, if_false, q]
  cases mayF [] l <;> rfl
end Go.Proofs.YtjnbggianlgjiaaDoorOH
namespace Go.Proofs.YtjnbggianlgjiaaDoorOH
open Go Go.Proofs.YtjnbggianlgjiaaDoorVM
set_option linter.unusedVariables false
set_option linter.unusedSimpArgs false
set_option maxRecDepth 100000

def nmsA (l : List T) : List ByteArray := l.map aN
def zA : T := .node [.int 0, .node [.str ByteArray.empty, .node [.node []], .node []]]
def byN (l : List T) (s : ByteArray) : T := (l.find? fun x => decide (aN x = s)).getD zA
theorem byN_mem {l : List T} {s : ByteArray} (hs : s ∈ nmsA l) : byN l s ∈ l ∧ aN (byN l s) = s := by
  obtain ⟨x, hx, e⟩ := List.mem_map.1 hs
  unfold byN
  cases hf : l.find? fun x => decide (aN x = s) with
  | none =>
    have := List.find?_eq_none.1 hf x hx
    rw [decide_eq_true_eq] at this
    exact absurd e this
  | some y =>
    have h1 := List.find?_some hf
    rw [decide_eq_true_eq] at h1
    exact ⟨List.mem_of_find?_eq_some hf, h1⟩
theorem nms_inj {l : List T} (hn : (nmsA l).Nodup) {x y : T} (hx : x ∈ l) (hy : y ∈ l) (h : aN x = aN y) : x = y := by
  unfold nmsA at hn
  induction l with
  | nil => cases hx
  | cons z l ih =>
    rw [List.map_cons, List.nodup_cons] at hn
    rcases List.mem_cons.1 hx with e1 | h1
    · rcases List.mem_cons.1 hy with e2 | h2
      · rw [e1, e2]
      · exact (hn.1 (List.mem_map.2 ⟨y, h2, by rw [← h, e1]⟩)).elim
    · rcases List.mem_cons.1 hy with e2 | h2
      · exact (hn.1 (List.mem_map.2 ⟨x, h1, by rw [h, e2]⟩)).elim
      · exact ih hn.2 h1 h2
theorem byN_of {l : List T} (hn : (nmsA l).Nodup) {x : T} (hx : x ∈ l) : byN l (aN x) = x := by
  obtain ⟨h1, h2⟩ := byN_mem (l := l) (s := aN x) (List.mem_map.2 ⟨x, hx, rfl⟩)
  exact nms_inj hn h1 hx h2
def ownT (x : T) : T := .node [.int (aK x), actT (x.get 1)]
theorem own_does {x : T} (h : Ac x) : Dz i_order_own none [A.t x] (1, [A.t (ownT x)]) := by
  obtain ⟨n0, h0⟩ := (copy_does 20 (thV (x.get 1)) h.th.v).both (clone_does (l := dpT x) (by have := h.dl; omega))
  refine Does.of n0 fun m hm => ?_
  obtain ⟨q1, q2⟩ := h0 m hm
  have e1 : (x.get 1).get 1 = thV (x.get 1) := rfl
  rw [q_order_own]
  simp only [S0, S9, S1, S2, if_true, if_false, S6, e1, q1, q2]
  rfl
def P0 (l : List T) : List ByteArray := ptsOf (nmsA l) []
theorem mem_P0 {l : List T} {x : ByteArray} : x ∈ P0 l ↔ x ∈ nmsA l := by
  unfold P0
  rw [mem_pts]
  simp
theorem P0_rise (l : List T) : Ri (P0 l) := pts_rise _ _
theorem P0_len {l : List T} (hn : (nmsA l).Nodup) : (P0 l).length = l.length := by
  have h1 := List.Nodup.length_le_of_subset (P0_rise l).nodup (fun x hx => mem_P0.1 hx)
  have h2 := List.Nodup.length_le_of_subset hn (fun x hx => mem_P0.2 hx)
  unfold nmsA at h1 h2
  rw [List.length_map] at h1 h2
  omega
theorem P0_le (l : List T) : (P0 l).length ≤ l.length := by
  have := pts_len (nmsA l) []
  unfold P0
  simp only [nmsA, List.length_map, List.length_nil] at this ⊢
  omega
theorem pts_in {N : List ByteArray} {M : List (ByteArray × ByteArray)} (h : ∀ x ∈ M, x.1 ∈ ptsOf N [] ∧ x.2 ∈ ptsOf N []) : ptsOf N M = ptsOf N [] := by
  refine Ri.ext (pts_rise _ _) (pts_rise _ _) fun x => ?_
  rw [mem_pts]
  constructor
  · rintro (h1 | ⟨y, hy, h1⟩)
    · exact mem_pts.2 (.inl h1)
    · rcases h1 with rfl | rfl
      · exact (h y hy).1
      · exact (h y hy).2
  · intro hx
    rcases mem_pts.1 hx with h1 | ⟨y, hy, _⟩
    · exact .inl h1
    · cases hy
def lk1 (a : T) (s : ByteArray) : ByteArray × ByteArray := (s, aN a)
def lk2 (a : T) (s : ByteArray) : ByteArray × ByteArray := (aN a, s)
def lnsA (lk : T → ByteArray → ByteArray × ByteArray) (p : List ByteArray) (a : T) : List (ByteArray × ByteArray) := ((dp a).filter fun s => hasB s p).map (lk a)
def lnsL (lk : T → ByteArray → ByteArray × ByteArray) (p : List ByteArray) (l : List T) : List (ByteArray × ByteArray) := l.flatMap (lnsA lk p)
theorem lnsA_len (lk : T → ByteArray → ByteArray × ByteArray) (p : List ByteArray) (a : T) : (lnsA lk p a).length ≤ (dp a).length := by
  unfold lnsA
  rw [List.length_map]
  exact List.length_filter_le _ _
theorem gA_eq (fs : List T) (s : ByteArray) : mget keyS (T.node [T.int 0, T.node [T.str ByteArray.empty, T.node [T.node []], T.node []]]) fs (T.str s) = gZ zA fs s := id rfl
structure Lm (l : List T) (ms : List T) (out : List ByteArray) : Prop where
  keys : ms.map ky = lft (nmsA l) out
  sees : ∀ x ∈ l, aN x ∉ out → gZ zA ms (aN x) = x
theorem Lm.del {l ms : List T} {out : List ByteArray} (h : Lm l ms out) (hn : (nmsA l).Nodup) (s : ByteArray) : Lm l (delF ms s) (out ++ [s]) := by
  refine ⟨?_, fun x hx hxo => ?_⟩
  · rw [ky_del ms s (by rw [h.keys]; exact hn.sublist List.filter_sublist), h.keys, lft_snoc]
  · rw [List.mem_append, List.mem_singleton, not_or] at hxo
    rw [gZ_del _ _ _ _ hxo.2]
    exact h.sees x hx hxo.1
theorem lft_sum {nms out : List ByteArray} (hn : nms.Nodup) (ho : out.Nodup) (hs : ∀ x ∈ out, x ∈ nms) : (lft nms out).length + out.length = nms.length := by
  have h1 : (nms.filter fun x => hasB x out).length = out.length := by
    refine Nat.le_antisymm (List.Nodup.length_le_of_subset (hn.sublist List.filter_sublist) fun x hx => hasB_iff.1 (List.mem_filter.1 hx).2) (List.Nodup.length_le_of_subset ho fun x hx => List.mem_filter.2 ⟨hs x hx, hasB_iff.2 hx⟩)
  have h2 : ∀ l : List ByteArray, (l.filter fun x => !hasB x out).length + (l.filter fun x => hasB x out).length = l.length := fun l => by
    induction l with
    | nil => rfl
    | cons x l ih =>
      rw [List.filter_cons, List.filter_cons]
      cases hasB x out <;> simp <;> omega
  have := h2 nms
  unfold lft
  omega
theorem act1_does {fs : List T} {N : List ByteArray} {M : List (ByteArray × ByteArray)} (h : Gr fs (ptsOf N M) (toOf M)) {a : T} {s : ByteArray} (ds : s.size ≤ 100) (ha : (aN a).size ≤ 100) (hl : N.length + 2 * M.length ≤ 190000) :
    ∃ fs', Gr fs' (ptsOf N (M ++ [lk1 a s])) (toOf (M ++ [lk1 a s])) ∧ Dz i_order_Actions_1 none [A.t (a.get 1), A.t (T.str s), A.t (T.node fs)] (1, [A.t (T.node fs')]) := by
  obtain ⟨fs', g, d⟩ := link_on h ds ha hl
  obtain ⟨n0, h0⟩ := d
  refine ⟨fs', g, Does.of n0 fun m hm => ?_⟩
  have q := h0 m hm
  rw [q_order_Actions_1]
  simp only [S0, S9, S1, S2, if_true, if_false, S6, txt_s, q]
theorem line1_c1 (l : List T) (hl : l.length ≤ 12) (ha : ∀ x ∈ l, Ac x) (hn : (nmsA l).Nodup) : ∀ (k j : Nat) (ms fs : List T), j + k = l.length → Gr fs (ptsOf (nmsA (l.take j)) []) (toOf []) → ms.map ky = nmsA (l.take j) → (∀ x ∈ l.take j, gZ zA ms (aN x) = x) →
    ∃ ms' fs', Gr fs' (P0 l) (toOf []) ∧ Lm l ms' [] ∧ Dz i_order_line_Actions1_o (some p_order_line_Actions1_o_c1) [A.t (T.int (l.length : Nat)), A.t (T.int j), A.t (T.node l), A.t (T.node ms), A.t (T.node fs)] (2, [A.t (T.node l), A.t (T.node ms'), A.t (T.node fs')]) := by
  intro k
  induction k with
  | zero =>
    intro j ms fs hj h1 h2 h3
    rw [List.take_of_length_le (by omega)] at h1 h2 h3
    refine ⟨ms, fs, h1, ⟨?_, fun x hx _ => h3 x hx⟩, Does.now fun m => ?_⟩
    · rw [h2]; exact (List.filter_eq_self.2 fun y _ => rfl).symm
    · rw [q_order_line_Actions1_o_c1]
      simp only [S0, S9, S1, S2, if_true, if_false]
      rw [if_neg (by omega)]
  | succ k ih =>
    intro j ms fs hj h1 h2 h3
    have hlt : j < l.length := by omega
    have hw : IntKind.i64.wrap ((j : Int) + 1) = ((j + 1 : Nat) : Int) := i64succ (by omega)
    have htk := take_succ' hlt
    have hnm : nmsA (l.take (j + 1)) = nmsA (l.take j) ++ [aN l[j]] := by unfold nmsA; rw [htk, List.map_append]; rfl
    have hnew : aN l[j] ∉ nmsA (l.take j) := by
      have : (nmsA (l.take (j + 1))).Nodup := hn.sublist ((List.take_sublist _ _).map _)
      rw [hnm, List.nodup_append] at this
      exact fun h => this.2.2 _ h _ (List.mem_singleton.2 rfl) rfl
    have hpl := pts_len (nmsA (l.take j)) []
    obtain ⟨f1, g1, d1⟩ := padd_does h1 (ha _ (List.getElem_mem hlt)).sz (by rw [show (nmsA (l.take j)).length = min j l.length by unfold nmsA; rw [List.length_map, List.length_take]] at hpl; simp only [List.length_nil] at hpl; omega)
    have e : insT (aN l[j]) (ptsOf (nmsA (l.take j)) []) = ptsOf (nmsA (l.take (j + 1))) [] := by
      rw [hnm]
      unfold ptsOf
      rw [List.foldl_append]
      rfl
    rw [e] at g1
    have hks : aN l[j] ∉ ms.map ky := by rw [h2]; exact hnew
    obtain ⟨ms', f2, g2, g3, d2⟩ := ih (j + 1) (putF ms (aN l[j]) l[j]) f1 (by omega) g1 (by rw [put_out hks, h2, hnm]) (fun x hx => by
      rw [gZ_put]
      rw [htk] at hx
      rcases List.mem_append.1 hx with hx | hx
      · rw [if_neg fun e => hnew (by rw [← e]; exact List.mem_map.2 ⟨x, hx, rfl⟩)]
        exact h3 x hx
      · rw [List.mem_singleton.1 hx, if_pos rfl])
    obtain ⟨n0, h0⟩ := d1.both d2
    refine ⟨ms', f2, g2, g3, Does.of n0 fun m hm => ?_⟩
    obtain ⟨q1, q2⟩ := h0 m hm
    rw [q_order_line_Actions1_o_c1]
    simp only [S0, S9, S1, S2, if_true, if_false, at_get hlt, S6, hw, q1, putI_eq, hlt]
    rw [if_pos (by omega), if_pos (by omega)]
    exact q2
theorem line1_c3 (N : List ByteArray) (hN : N.length ≤ 12) (n i : Int) (l ms : List T) {a : T} (ha : Ac a) (hat : Tx a) (hap : aN a ∈ ptsOf N []) : ∀ (k j : Nat) (M : List (ByteArray × ByteArray)) (fs : List T), j + k = (dp a).length → M.length + k ≤ 1000 → (∀ x ∈ M, x.1 ∈ ptsOf N [] ∧ x.2 ∈ ptsOf N []) → Gr fs (ptsOf N M) (toOf M) →
    ∃ fs', Gr fs' (ptsOf N (M ++ (((dp a).drop j).filter fun s => hasB s (ptsOf N [])).map (lk1 a))) (toOf (M ++ (((dp a).drop j).filter fun s => hasB s (ptsOf N [])).map (lk1 a))) ∧ (∀ x ∈ M ++ (((dp a).drop j).filter fun s => hasB s (ptsOf N [])).map (lk1 a), x.1 ∈ ptsOf N [] ∧ x.2 ∈ ptsOf N []) ∧
      Dz i_order_line_Actions1_o (some p_order_line_Actions1_o_c3) [A.t (T.int n), A.t (T.int i), A.t (T.node (tl (dp a))), A.t (T.int ((dp a).length : Nat)), A.t (T.int j), A.t (T.node l), A.t (T.node ms), A.t a, A.t (T.node fs)] (6, [A.t (T.int n), A.t (T.int i), A.t (T.node l), A.t (T.node ms), A.t (T.node fs')]) := by
  intro k
  induction k with
  | zero =>
    intro j M fs hj hM hin h
    rw [List.drop_of_length_le (by omega)]
    refine ⟨fs, by simpa using h, by simpa using hin, Does.now fun m => ?_⟩
    rw [q_order_line_Actions1_o_c3]
    simp only [S0, S9, S1, S2, if_true, if_false]
    rw [if_neg (by omega)]
  | succ k ih =>
    intro j M fs hj hM hin h
    have hlt : j < (dp a).length := by omega
    have hd := ha.dl2
    have hw : IntKind.i64.wrap ((j : Int) + 1) = ((j + 1 : Nat) : Int) := i64succ (by omega)
    rw [List.drop_eq_getElem_cons hlt, List.filter_cons]
    have hh := ph_does fs (dp a)[j]
    rw [h.has, pts_in hin] at hh
    cases hb : hasB (dp a)[j] (ptsOf N []) with
    | true =>
      rw [hb] at hh
      simp only [if_true, List.map_cons]
      have hin' : ∀ x ∈ M ++ [lk1 a (dp a)[j]], x.1 ∈ ptsOf N [] ∧ x.2 ∈ ptsOf N [] := fun x hx => by
        rcases List.mem_append.1 hx with hx | hx
        · exact hin x hx
        · rw [List.mem_singleton.1 hx]
          first | exact ⟨hap, hasB_iff.1 hb⟩ | exact ⟨hasB_iff.1 hb, hap⟩
      obtain ⟨f1, g1, d1⟩ := act1_does h (a := a) (s := (dp a)[j]) (ha.ds _ (List.getElem_mem hlt)) ha.sz (by omega)
      obtain ⟨f2, g2, g3, d2⟩ := ih (j + 1) (M ++ [lk1 a (dp a)[j]]) f1 (by omega) (by rw [List.length_append, List.length_singleton]; omega) hin' g1
      rw [List.append_assoc] at g2 g3
      obtain ⟨n0, h0⟩ := d1.both d2
      obtain ⟨n1, h1⟩ := hh
      refine ⟨f2, g2, g3, Does.of (n0 + n1) fun m hm => ?_⟩
      obtain ⟨q1, q2⟩ := h0 m (by omega)
      have q3 := h1 m (by omega)
      rw [q_order_line_Actions1_o_c3]
      simp only [S0, S9, S1, S2, if_true, if_false, tl_len, tl_get hlt, txt_s, hw, q1, q3]
      rw [if_pos (by omega), if_pos (by omega)]
      exact q2
    | false =>
      rw [hb] at hh
      simp only [Bool.false_eq_true, if_false]
      obtain ⟨f2, g2, g3, d2⟩ := ih (j + 1) M fs (by omega) (by omega) hin h
      obtain ⟨n0, h0⟩ := hh.both d2
      refine ⟨f2, g2, g3, Does.of n0 fun m hm => ?_⟩
      obtain ⟨q1, q2⟩ := h0 m hm
      rw [q_order_line_Actions1_o_c3]
      simp only [S0, S9, S1, S2, if_true, if_false, tl_len, tl_get hlt, txt_s, hw, q1, Bool.false_eq_true]
      rw [if_pos (by omega), if_pos (by omega)]
      exact q2
theorem line1_c2 (l : List T) (hl : l.length ≤ 12) (ha : ∀ x ∈ l, Ac x) (hat : ∀ x ∈ l, Tx x) (ms : List T) : ∀ (k j : Nat) (M : List (ByteArray × ByteArray)) (fs : List T), j + k = l.length → M.length + 20 * k ≤ 500 → (∀ x ∈ M, x.1 ∈ P0 l ∧ x.2 ∈ P0 l) → Gr fs (ptsOf (nmsA l) M) (toOf M) →
    ∃ fs', Gr fs' (ptsOf (nmsA l) (M ++ lnsL lk1 (P0 l) (l.drop j))) (toOf (M ++ lnsL lk1 (P0 l) (l.drop j))) ∧ (∀ x ∈ M ++ lnsL lk1 (P0 l) (l.drop j), x.1 ∈ P0 l ∧ x.2 ∈ P0 l) ∧
      Dz i_order_line_Actions1_o (some p_order_line_Actions1_o_c2) [A.t (T.int (l.length : Nat)), A.t (T.int j), A.t (T.node l), A.t (T.node ms), A.t (T.node fs)] (4, [A.t (T.node l), A.t (T.node ms), A.t (T.node fs')]) := by
  intro k
  induction k with
  | zero =>
    intro j M fs hj hM hin h
    rw [List.drop_of_length_le (by omega)]
    refine ⟨fs, by simpa [lnsL] using h, by simpa [lnsL] using hin, Does.now fun m => ?_⟩
    rw [q_order_line_Actions1_o_c2]
    simp only [S0, S9, S1, S2, if_true, if_false]
    rw [if_neg (by omega)]
  | succ k ih =>
    intro j M fs hj hM hin h
    have hlt : j < l.length := by omega
    have hw : IntKind.i64.wrap ((j : Int) + 1) = ((j + 1 : Nat) : Int) := i64succ (by omega)
    have ham := ha _ (List.getElem_mem hlt)
    have htm := hat _ (List.getElem_mem hlt)
    have hd := ham.dl2
    obtain ⟨f1, g1, g2, d1⟩ := line1_c3 (nmsA l) (by unfold nmsA; rw [List.length_map]; exact hl) (l.length : Nat) (j : Nat) l ms ham htm (mem_P0.2 (List.mem_map.2 ⟨_, List.getElem_mem hlt, rfl⟩)) (dp l[j]).length 0 M fs (by omega) (by omega) hin h
    rw [List.drop_zero] at g1 g2
    have hal := lnsA_len lk1 (P0 l) l[j]
    obtain ⟨f2, g3, g4, d2⟩ := ih (j + 1) (M ++ lnsA lk1 (P0 l) l[j]) f1 (by omega) (by rw [List.length_append]; omega) g2 g1
    have e : M ++ lnsA lk1 (P0 l) l[j] ++ lnsL lk1 (P0 l) (l.drop (j + 1)) = M ++ lnsL lk1 (P0 l) (l.drop j) := by
      rw [List.drop_eq_getElem_cons hlt, List.append_assoc]; rfl
    rw [e] at g3 g4
    obtain ⟨n0, h0⟩ := d1.both d2
    refine ⟨f2, g3, g4, Does.of n0 fun m hm => ?_⟩
    obtain ⟨q1, q2⟩ := h0 m hm
    have q1' : den Tryd.prog G0 ents m i_order_line_Actions1_o (some p_order_line_Actions1_o_c3) [A.t (T.int (l.length : Nat)), A.t (T.int (j : Nat)), A.t (T.node (tl (dp l[j]))), A.t (T.int ((dp l[j]).length : Nat)), A.t (T.int 0), A.t (T.node l), A.t (T.node ms), A.t l[j], A.t (T.node fs)] = _ := q1
    rw [q_order_line_Actions1_o_c2]
    simp only [S0, S9, S1, S2, if_true, if_false, at_get hlt, S6, hw, hlt, show dpT l[j] = tl (dp l[j]) from htm, tl_len, q1', show Nat.beq 6 6 = true from rfl]
    rw [if_pos (by omega), if_pos (by omega)]
    exact q2
theorem line1_c4 (l : List T) (hl : l.length ≤ 12) (ha : ∀ x ∈ l, Ac x) (hn : (nmsA l).Nodup) (out : List ByteArray) (hol : out.length ≤ 12) (hod : out.Nodup) (ho : ∀ x ∈ out, x ∈ nmsA l) : ∀ (k j : Nat) (ms : List T), j + k = out.length → Lm l ms (out.take j) →
    ∃ ms', Lm l ms' out ∧ Dz i_order_line_Actions1_o (some p_order_line_Actions1_o_c4) [A.t (T.int (out.length : Nat)), A.t (T.int j), A.t (T.node l), A.t (T.node ms), A.t (T.node ((out.take j).map fun s => ownT (byN l s))), A.t (T.node (tl out))] (8, [A.t (T.node l), A.t (T.node ms'), A.t (T.node (out.map fun s => ownT (byN l s)))]) := by
  intro k
  induction k with
  | zero =>
    intro j ms hj h
    rw [List.take_of_length_le (by omega)] at h ⊢
    refine ⟨ms, h, Does.now fun m => ?_⟩
    rw [q_order_line_Actions1_o_c4]
    simp only [S0, S9, S1, S2, if_true, if_false]
    rw [if_neg (by omega)]
  | succ k ih =>
    intro j ms hj h
    have hlt : j < out.length := by omega
    have hw : IntKind.i64.wrap ((j : Int) + 1) = ((j + 1 : Nat) : Int) := i64succ (by omega)
    have htk := take_succ' hlt
    have hm := h.del hn out[j]
    rw [← htk] at hm
    obtain ⟨b1, b2⟩ := byN_mem (ho _ (List.getElem_mem hlt))
    have hnot : out[j] ∉ out.take j := by
      intro hx
      obtain ⟨i, hi, e⟩ := List.getElem_of_mem hx
      rw [List.length_take] at hi
      rw [List.getElem_take] at e
      have := (List.getElem_inj hod).1 e
      omega
    have hs : gZ zA ms out[j] = byN l out[j] := by
      have := h.sees _ b1 (by rw [b2]; exact hnot)
      rw [b2] at this
      exact this
    obtain ⟨ms', g, d⟩ := ih (j + 1) (delF ms out[j]) (by omega) hm
    rw [htk, List.map_append] at d
    have hsz : Nat.succ ((out.take j).map fun s => ownT (byN l s)).length < 1073741824 := by rw [List.length_map, List.length_take]; show _ + 1 < _; omega
    obtain ⟨n0, h0⟩ := (own_does (ha _ b1)).both d
    refine ⟨ms', g, Does.of n0 fun m hm => ?_⟩
    obtain ⟨q1, q2⟩ := h0 m hm
    rw [q_order_line_Actions1_o_c4]
    simp only [S0, S9, S1, S2, if_true, if_false, tl_len, tl_get hlt, txt_s, hw, hlt, gA_eq, hs, delI_eq, q1, hsz]
    rw [if_pos (by omega), if_pos (by omega)]
    exact q2
theorem line1_does (l : List T) (hl : l.length ≤ 12) (ha : ∀ x ∈ l, Ac x) (hat : ∀ x ∈ l, Tx x) (hn : (nmsA l).Nodup) :
    ∃ out, out = iterO (P0 l) (toOf (lnsL lk1 (P0 l) l)) (P0 l).length [] ∧ out.Nodup ∧ (∀ x ∈ out, x ∈ nmsA l) ∧
      Dz i_order_line_Actions1_o none [A.t (T.node l)] (1, [A.t (T.bool (Nat.beq (lft (nmsA l) out).length 0)), A.t (T.node l), A.t (T.node (out.map fun s => ownT (byN l s)))]) := by
  obtain ⟨f0, g0, d0⟩ := new_does [] (by simp) (fun x hx => by cases hx)
  obtain ⟨ms, f1, g1, hm1, d1⟩ := line1_c1 l hl ha hn l.length 0 [] f0 (by omega) g0 rfl (fun x hx => by cases hx)
  obtain ⟨f2, g2, gin, d2⟩ := line1_c2 l hl ha hat ms l.length 0 [] f1 (by omega) (by simp only [List.length_nil]; omega) (fun x hx => by cases hx) g1
  rw [List.drop_zero, List.nil_append] at g2 gin
  have hpe : ptsOf (nmsA l) (lnsL lk1 (P0 l) l) = P0 l := pts_in gin
  have hpl := P0_le l
  have hto : ∀ s, (toOf (lnsL lk1 (P0 l) l) s).length ≤ (P0 l).length := fun s => List.Nodup.length_le_of_subset (to_rise _ s).nodup fun x hx => (gin _ (mem_to.1 hx)).2
  have hsw : ∀ s, (toOf (swp (lnsL lk1 (P0 l) l)) s).length ≤ (P0 l).length := fun s => List.Nodup.length_le_of_subset (to_rise _ s).nodup fun x hx => (gin _ (mem_swp.1 (mem_to.1 hx))).1
  obtain ⟨out, o1, o2, o3, o4, d3⟩ := order_gen g2 (by rw [hpe]; omega) (fun s => by have := hto s; omega) (fun s => by have := hsw s; omega)
  rw [hpe] at o1 o2 o3 d3
  have ho : ∀ x ∈ out, x ∈ nmsA l := fun x hx => mem_P0.1 (o3 x hx)
  have hol : out.length ≤ (P0 l).length := List.Nodup.length_le_of_subset o4 o3
  obtain ⟨ms', g4, d4⟩ := line1_c4 l hl ha hn out (by omega) o4 ho out.length 0 ms (by omega) hm1
  obtain ⟨n0, h0⟩ := d0.both d1
  obtain ⟨n1, h1⟩ := d2.both d3
  obtain ⟨n2, h2⟩ := d4
  have hml : ms'.length = (lft (nmsA l) out).length := by rw [← g4.keys, List.length_map]
  refine ⟨out, o1, o4, ho, Does.of (n0 + n1 + n2) fun m hm => ?_⟩
  have q0 : den Tryd.prog G0 ents m i_graph_New_string none [A.t (T.node [])] = _ := (h0 m (by omega)).1
  have q1 : den Tryd.prog G0 ents m i_order_line_Actions1_o (some p_order_line_Actions1_o_c1) [A.t (T.int (l.length : Nat)), A.t (T.int 0), A.t (T.node l), A.t (T.node []), A.t (T.node f0)] = _ := (h0 m (by omega)).2
  have q2 : den Tryd.prog G0 ents m i_order_line_Actions1_o (some p_order_line_Actions1_o_c2) [A.t (T.int (l.length : Nat)), A.t (T.int 0), A.t (T.node l), A.t (T.node ms), A.t (T.node f1)] = _ := (h1 m (by omega)).1
  have q3 := (h1 m (by omega)).2
  have q4 : den Tryd.prog G0 ents m i_order_line_Actions1_o (some p_order_line_Actions1_o_c4) [A.t (T.int (out.length : Nat)), A.t (T.int 0), A.t (T.node l), A.t (T.node ms), A.t (T.node []), A.t (T.node (tl out))] = _ := h2 m (by omega)
  have hbool : (((lft (nmsA l) out).length : Nat) : Int) = 0 ↔ Nat.beq (lft (nmsA l) out).length 0 = true := by rw [Nat.beq_eq]; omega
  rw [q_order_line_Actions1_o]
  simp only [S0, S9, S1, S2, if_true, if_false, q0, q1, q2, q3, tl_len, q4, show Nat.beq 4 4 = true from rfl, show Nat.beq 8 8 = true from rfl, hml]
  congr 1
  cases hc : Nat.beq (lft (nmsA l) out).length 0 with
  | true => rw [beq_iff_eq.2 (hbool.2 hc)]
  | false => rw [show (((((lft (nmsA l) out).length : Nat) : Int) == 0) = false) from by rw [beq_eq_false_iff_ne]; intro e; rw [hbool.1 e] at hc; cases hc]
theorem act2_does {fs : List T} {N : List ByteArray} {M : List (ByteArray × ByteArray)} (h : Gr fs (ptsOf N M) (toOf M)) {a : T} {s : ByteArray} (ds : s.size ≤ 100) (ha : (aN a).size ≤ 100) (hl : N.length + 2 * M.length ≤ 190000) :
    ∃ fs', Gr fs' (ptsOf N (M ++ [lk2 a s])) (toOf (M ++ [lk2 a s])) ∧ Dz i_order_Actions_2 none [A.t (a.get 1), A.t (T.str s), A.t (T.node fs)] (1, [A.t (T.node fs')]) := by
  obtain ⟨fs', g, d⟩ := link_on h ha ds hl
  obtain ⟨n0, h0⟩ := d
  refine ⟨fs', g, Does.of n0 fun m hm => ?_⟩
  have q := h0 m hm
  rw [q_order_Actions_2]
  simp only [S0, S9, S1, S2, if_true, if_false, S6, txt_s, q]
theorem line2_c1 (l : List T) (hl : l.length ≤ 12) (ha : ∀ x ∈ l, Ac x) (hn : (nmsA l).Nodup) : ∀ (k j : Nat) (ms fs : List T), j + k = l.length → Gr fs (ptsOf (nmsA (l.take j)) []) (toOf []) → ms.map ky = nmsA (l.take j) → (∀ x ∈ l.take j, gZ zA ms (aN x) = x) →
    ∃ ms' fs', Gr fs' (P0 l) (toOf []) ∧ Lm l ms' [] ∧ Dz i_order_line_Actions2_o (some p_order_line_Actions2_o_c1) [A.t (T.int (l.length : Nat)), A.t (T.int j), A.t (T.node l), A.t (T.node ms), A.t (T.node fs)] (2, [A.t (T.node l), A.t (T.node ms'), A.t (T.node fs')]) := by
  intro k
  induction k with
  | zero =>
    intro j ms fs hj h1 h2 h3
    rw [List.take_of_length_le (by omega)] at h1 h2 h3
    refine ⟨ms, fs, h1, ⟨?_, fun x hx _ => h3 x hx⟩, Does.now fun m => ?_⟩
    · rw [h2]; exact (List.filter_eq_self.2 fun y _ => rfl).symm
    · rw [q_order_line_Actions2_o_c1]
      simp only [S0, S9, S1, S2, if_true, if_false]
      rw [if_neg (by omega)]
  | succ k ih =>
    intro j ms fs hj h1 h2 h3
    have hlt : j < l.length := by omega
    have hw : IntKind.i64.wrap ((j : Int) + 1) = ((j + 1 : Nat) : Int) := i64succ (by omega)
    have htk := take_succ' hlt
    have hnm : nmsA (l.take (j + 1)) = nmsA (l.take j) ++ [aN l[j]] := by unfold nmsA; rw [htk, List.map_append]; rfl
    have hnew : aN l[j] ∉ nmsA (l.take j) := by
      have : (nmsA (l.take (j + 1))).Nodup := hn.sublist ((List.take_sublist _ _).map _)
      rw [hnm, List.nodup_append] at this
      exact fun h => this.2.2 _ h _ (List.mem_singleton.2 rfl) rfl
    have hpl := pts_len (nmsA (l.take j)) []
    obtain ⟨f1, g1, d1⟩ := padd_does h1 (ha _ (List.getElem_mem hlt)).sz (by rw [show (nmsA (l.take j)).length = min j l.length by unfold nmsA; rw [List.length_map, List.length_take]] at hpl; simp only [List.length_nil] at hpl; omega)
    have e : insT (aN l[j]) (ptsOf (nmsA (l.take j)) []) = ptsOf (nmsA (l.take (j + 1))) [] := by
      rw [hnm]
      unfold ptsOf
      rw [List.foldl_append]
      rfl
    rw [e] at g1
    have hks : aN l[j] ∉ ms.map ky := by rw [h2]; exact hnew
    obtain ⟨ms', f2, g2, g3, d2⟩ := ih (j + 1) (putF ms (aN l[j]) l[j]) f1 (by omega) g1 (by rw [put_out hks, h2, hnm]) (fun x hx => by
      rw [gZ_put]
      rw [htk] at hx
      rcases List.mem_append.1 hx with hx | hx
      · rw [if_neg fun e => hnew (by rw [← e]; exact List.mem_map.2 ⟨x, hx, rfl⟩)]
        exact h3 x hx
      · rw [List.mem_singleton.1 hx, if_pos rfl])
    obtain ⟨n0, h0⟩ := d1.both d2
    refine ⟨ms', f2, g2, g3, Does.of n0 fun m hm => ?_⟩
    obtain ⟨q1, q2⟩ := h0 m hm
    rw [q_order_line_Actions2_o_c1]
    simp only [S0, S9, S1, S2, if_true, if_false, at_get hlt, S6, hw, q1, putI_eq, hlt]
    rw [if_pos (by omega), if_pos (by omega)]
    exact q2
theorem line2_c3 (N : List ByteArray) (hN : N.length ≤ 12) (n i : Int) (l ms : List T) {a : T} (ha : Ac a) (hat : Tx a) (hap : aN a ∈ ptsOf N []) : ∀ (k j : Nat) (M : List (ByteArray × ByteArray)) (fs : List T), j + k = (dp a).length → M.length + k ≤ 1000 → (∀ x ∈ M, x.1 ∈ ptsOf N [] ∧ x.2 ∈ ptsOf N []) → Gr fs (ptsOf N M) (toOf M) →
    ∃ fs', Gr fs' (ptsOf N (M ++ (((dp a).drop j).filter fun s => hasB s (ptsOf N [])).map (lk2 a))) (toOf (M ++ (((dp a).drop j).filter fun s => hasB s (ptsOf N [])).map (lk2 a))) ∧ (∀ x ∈ M ++ (((dp a).drop j).filter fun s => hasB s (ptsOf N [])).map (lk2 a), x.1 ∈ ptsOf N [] ∧ x.2 ∈ ptsOf N []) ∧
      Dz i_order_line_Actions2_o (some p_order_line_Actions2_o_c3) [A.t (T.int n), A.t (T.int i), A.t (T.node (tl (dp a))), A.t (T.int ((dp a).length : Nat)), A.t (T.int j), A.t (T.node l), A.t (T.node ms), A.t a, A.t (T.node fs)] (6, [A.t (T.int n), A.t (T.int i), A.t (T.node l), A.t (T.node ms), A.t (T.node fs')]) := by
  intro k
  induction k with
  | zero =>
    intro j M fs hj hM hin h
    rw [List.drop_of_length_le (by omega)]
    refine ⟨fs, by simpa using h, by simpa using hin, Does.now fun m => ?_⟩
    rw [q_order_line_Actions2_o_c3]
    simp only [S0, S9, S1, S2, if_true, if_false]
    rw [if_neg (by omega)]
  | succ k ih =>
    intro j M fs hj hM hin h
    have hlt : j < (dp a).length := by omega
    have hd := ha.dl2
    have hw : IntKind.i64.wrap ((j : Int) + 1) = ((j + 1 : Nat) : Int) := i64succ (by omega)
    rw [List.drop_eq_getElem_cons hlt, List.filter_cons]
    have hh := ph_does fs (dp a)[j]
    rw [h.has, pts_in hin] at hh
    cases hb : hasB (dp a)[j] (ptsOf N []) with
    | true =>
      rw [hb] at hh
      simp only [if_true, List.map_cons]
      have hin' : ∀ x ∈ M ++ [lk2 a (dp a)[j]], x.1 ∈ ptsOf N [] ∧ x.2 ∈ ptsOf N [] := fun x hx => by
        rcases List.mem_append.1 hx with hx | hx
        · exact hin x hx
        · rw [List.mem_singleton.1 hx]
          first | exact ⟨hap, hasB_iff.1 hb⟩ | exact ⟨hasB_iff.1 hb, hap⟩
      obtain ⟨f1, g1, d1⟩ := act2_does h (a := a) (s := (dp a)[j]) (ha.ds _ (List.getElem_mem hlt)) ha.sz (by omega)
      obtain ⟨f2, g2, g3, d2⟩ := ih (j + 1) (M ++ [lk2 a (dp a)[j]]) f1 (by omega) (by rw [List.length_append, List.length_singleton]; omega) hin' g1
      rw [List.append_assoc] at g2 g3
      obtain ⟨n0, h0⟩ := d1.both d2
      obtain ⟨n1, h1⟩ := hh
      refine ⟨f2, g2, g3, Does.of (n0 + n1) fun m hm => ?_⟩
      obtain ⟨q1, q2⟩ := h0 m (by omega)
      have q3 := h1 m (by omega)
      rw [q_order_line_Actions2_o_c3]
      simp only [S0, S9, S1, S2, if_true, if_false, tl_len, tl_get hlt, txt_s, hw, q1, q3]
      rw [if_pos (by omega), if_pos (by omega)]
      exact q2
    | false =>
      rw [hb] at hh
      simp only [Bool.false_eq_true, if_false]
      obtain ⟨f2, g2, g3, d2⟩ := ih (j + 1) M fs (by omega) (by omega) hin h
      obtain ⟨n0, h0⟩ := hh.both d2
      refine ⟨f2, g2, g3, Does.of n0 fun m hm => ?_⟩
      obtain ⟨q1, q2⟩ := h0 m hm
      rw [q_order_line_Actions2_o_c3]
      simp only [S0, S9, S1, S2, if_true, if_false, tl_len, tl_get hlt, txt_s, hw, q1, Bool.false_eq_true]
      rw [if_pos (by omega), if_pos (by omega)]
      exact q2
theorem line2_c2 (l : List T) (hl : l.length ≤ 12) (ha : ∀ x ∈ l, Ac x) (hat : ∀ x ∈ l, Tx x) (ms : List T) : ∀ (k j : Nat) (M : List (ByteArray × ByteArray)) (fs : List T), j + k = l.length → M.length + 20 * k ≤ 500 → (∀ x ∈ M, x.1 ∈ P0 l ∧ x.2 ∈ P0 l) → Gr fs (ptsOf (nmsA l) M) (toOf M) →
    ∃ fs', Gr fs' (ptsOf (nmsA l) (M ++ lnsL lk2 (P0 l) (l.drop j))) (toOf (M ++ lnsL lk2 (P0 l) (l.drop j))) ∧ (∀ x ∈ M ++ lnsL lk2 (P0 l) (l.drop j), x.1 ∈ P0 l ∧ x.2 ∈ P0 l) ∧
      Dz i_order_line_Actions2_o (some p_order_line_Actions2_o_c2) [A.t (T.int (l.length : Nat)), A.t (T.int j), A.t (T.node l), A.t (T.node ms), A.t (T.node fs)] (4, [A.t (T.node l), A.t (T.node ms), A.t (T.node fs')]) := by
  intro k
  induction k with
  | zero =>
    intro j M fs hj hM hin h
    rw [List.drop_of_length_le (by omega)]
    refine ⟨fs, by simpa [lnsL] using h, by simpa [lnsL] using hin, Does.now fun m => ?_⟩
    rw [q_order_line_Actions2_o_c2]
    simp only [S0, S9, S1, S2, if_true, if_false]
    rw [if_neg (by omega)]
  | succ k ih =>
    intro j M fs hj hM hin h
    have hlt : j < l.length := by omega
    have hw : IntKind.i64.wrap ((j : Int) + 1) = ((j + 1 : Nat) : Int) := i64succ (by omega)
    have ham := ha _ (List.getElem_mem hlt)
    have htm := hat _ (List.getElem_mem hlt)
    have hd := ham.dl2
    obtain ⟨f1, g1, g2, d1⟩ := line2_c3 (nmsA l) (by unfold nmsA; rw [List.length_map]; exact hl) (l.length : Nat) (j : Nat) l ms ham htm (mem_P0.2 (List.mem_map.2 ⟨_, List.getElem_mem hlt, rfl⟩)) (dp l[j]).length 0 M fs (by omega) (by omega) hin h
    rw [List.drop_zero] at g1 g2
    have hal := lnsA_len lk2 (P0 l) l[j]
    obtain ⟨f2, g3, g4, d2⟩ := ih (j + 1) (M ++ lnsA lk2 (P0 l) l[j]) f1 (by omega) (by rw [List.length_append]; omega) g2 g1
    have e : M ++ lnsA lk2 (P0 l) l[j] ++ lnsL lk2 (P0 l) (l.drop (j + 1)) = M ++ lnsL lk2 (P0 l) (l.drop j) := by
      rw [List.drop_eq_getElem_cons hlt, List.append_assoc]; rfl
    rw [e] at g3 g4
    obtain ⟨n0, h0⟩ := d1.both d2
    refine ⟨f2, g3, g4, Does.of n0 fun m hm => ?_⟩
    obtain ⟨q1, q2⟩ := h0 m hm
    have q1' : den Tryd.prog G0 ents m i_order_line_Actions2_o (some p_order_line_Actions2_o_c3) [A.t (T.int (l.length : Nat)), A.t (T.int (j : Nat)), A.t (T.node (tl (dp l[j]))), A.t (T.int ((dp l[j]).length : Nat)), A.t (T.int 0), A.t (T.node l), A.t (T.node ms), A.t l[j], A.t (T.node fs)] = _ := q1
    rw [q_order_line_Actions2_o_c2]
    simp only [S0, S9, S1, S2, if_true, if_false, at_get hlt, S6, hw, hlt, show dpT l[j] = tl (dp l[j]) from htm, tl_len, q1', show Nat.beq 6 6 = true from rfl]
    rw [if_pos (by omega), if_pos (by omega)]
    exact q2
theorem line2_c4 (l : List T) (hl : l.length ≤ 12) (ha : ∀ x ∈ l, Ac x) (hn : (nmsA l).Nodup) (out : List ByteArray) (hol : out.length ≤ 12) (hod : out.Nodup) (ho : ∀ x ∈ out, x ∈ nmsA l) : ∀ (k j : Nat) (ms : List T), j + k = out.length → Lm l ms (out.take j) →
    ∃ ms', Lm l ms' out ∧ Dz i_order_line_Actions2_o (some p_order_line_Actions2_o_c4) [A.t (T.int (out.length : Nat)), A.t (T.int j), A.t (T.node l), A.t (T.node ms), A.t (T.node ((out.take j).map fun s => ownT (byN l s))), A.t (T.node (tl out))] (8, [A.t (T.node l), A.t (T.node ms'), A.t (T.node (out.map fun s => ownT (byN l s)))]) := by
  intro k
  induction k with
  | zero =>
    intro j ms hj h
    rw [List.take_of_length_le (by omega)] at h ⊢
    refine ⟨ms, h, Does.now fun m => ?_⟩
    rw [q_order_line_Actions2_o_c4]
    simp only [S0, S9, S1, S2, if_true, if_false]
    rw [if_neg (by omega)]
  | succ k ih =>
    intro j ms hj h
    have hlt : j < out.length := by omega
    have hw : IntKind.i64.wrap ((j : Int) + 1) = ((j + 1 : Nat) : Int) := i64succ (by omega)
    have htk := take_succ' hlt
    have hm := h.del hn out[j]
    rw [← htk] at hm
    obtain ⟨b1, b2⟩ := byN_mem (ho _ (List.getElem_mem hlt))
    have hnot : out[j] ∉ out.take j := by
      intro hx
      obtain ⟨i, hi, e⟩ := List.getElem_of_mem hx
      rw [List.length_take] at hi
      rw [List.getElem_take] at e
      have := (List.getElem_inj hod).1 e
      omega
    have hs : gZ zA ms out[j] = byN l out[j] := by
      have := h.sees _ b1 (by rw [b2]; exact hnot)
      rw [b2] at this
      exact this
    obtain ⟨ms', g, d⟩ := ih (j + 1) (delF ms out[j]) (by omega) hm
    rw [htk, List.map_append] at d
    have hsz : Nat.succ ((out.take j).map fun s => ownT (byN l s)).length < 1073741824 := by rw [List.length_map, List.length_take]; show _ + 1 < _; omega
    obtain ⟨n0, h0⟩ := (own_does (ha _ b1)).both d
    refine ⟨ms', g, Does.of n0 fun m hm => ?_⟩
    obtain ⟨q1, q2⟩ := h0 m hm
    rw [q_order_line_Actions2_o_c4]
    simp only [S0, S9, S1, S2, if_true, if_false, tl_len, tl_get hlt, txt_s, hw, hlt, gA_eq, hs, delI_eq, q1, hsz]
    rw [if_pos (by omega), if_pos (by omega)]
    exact q2
theorem line2_does (l : List T) (hl : l.length ≤ 12) (ha : ∀ x ∈ l, Ac x) (hat : ∀ x ∈ l, Tx x) (hn : (nmsA l).Nodup) :
    ∃ out, out = iterO (P0 l) (toOf (lnsL lk2 (P0 l) l)) (P0 l).length [] ∧ out.Nodup ∧ (∀ x ∈ out, x ∈ nmsA l) ∧
      Dz i_order_line_Actions2_o none [A.t (T.node l)] (1, [A.t (T.bool (Nat.beq (lft (nmsA l) out).length 0)), A.t (T.node l), A.t (T.node (out.map fun s => ownT (byN l s)))]) := by
  obtain ⟨f0, g0, d0⟩ := new_does [] (by simp) (fun x hx => by cases hx)
  obtain ⟨ms, f1, g1, hm1, d1⟩ := line2_c1 l hl ha hn l.length 0 [] f0 (by omega) g0 rfl (fun x hx => by cases hx)
  obtain ⟨f2, g2, gin, d2⟩ := line2_c2 l hl ha hat ms l.length 0 [] f1 (by omega) (by simp only [List.length_nil]; omega) (fun x hx => by cases hx) g1
  rw [List.drop_zero, List.nil_append] at g2 gin
  have hpe : ptsOf (nmsA l) (lnsL lk2 (P0 l) l) = P0 l := pts_in gin
  have hpl := P0_le l
  have hto : ∀ s, (toOf (lnsL lk2 (P0 l) l) s).length ≤ (P0 l).length := fun s => List.Nodup.length_le_of_subset (to_rise _ s).nodup fun x hx => (gin _ (mem_to.1 hx)).2
  have hsw : ∀ s, (toOf (swp (lnsL lk2 (P0 l) l)) s).length ≤ (P0 l).length := fun s => List.Nodup.length_le_of_subset (to_rise _ s).nodup fun x hx => (gin _ (mem_swp.1 (mem_to.1 hx))).1
  obtain ⟨out, o1, o2, o3, o4, d3⟩ := order_gen g2 (by rw [hpe]; omega) (fun s => by have := hto s; omega) (fun s => by have := hsw s; omega)
  rw [hpe] at o1 o2 o3 d3
  have ho : ∀ x ∈ out, x ∈ nmsA l := fun x hx => mem_P0.1 (o3 x hx)
  have hol : out.length ≤ (P0 l).length := List.Nodup.length_le_of_subset o4 o3
  obtain ⟨ms', g4, d4⟩ := line2_c4 l hl ha hn out (by omega) o4 ho out.length 0 ms (by omega) hm1
  obtain ⟨n0, h0⟩ := d0.both d1
  obtain ⟨n1, h1⟩ := d2.both d3
  obtain ⟨n2, h2⟩ := d4
  have hml : ms'.length = (lft (nmsA l) out).length := by rw [← g4.keys, List.length_map]
  refine ⟨out, o1, o4, ho, Does.of (n0 + n1 + n2) fun m hm => ?_⟩
  have q0 : den Tryd.prog G0 ents m i_graph_New_string none [A.t (T.node [])] = _ := (h0 m (by omega)).1
  have q1 : den Tryd.prog G0 ents m i_order_line_Actions2_o (some p_order_line_Actions2_o_c1) [A.t (T.int (l.length : Nat)), A.t (T.int 0), A.t (T.node l), A.t (T.node []), A.t (T.node f0)] = _ := (h0 m (by omega)).2
  have q2 : den Tryd.prog G0 ents m i_order_line_Actions2_o (some p_order_line_Actions2_o_c2) [A.t (T.int (l.length : Nat)), A.t (T.int 0), A.t (T.node l), A.t (T.node ms), A.t (T.node f1)] = _ := (h1 m (by omega)).1
  have q3 := (h1 m (by omega)).2
  have q4 : den Tryd.prog G0 ents m i_order_line_Actions2_o (some p_order_line_Actions2_o_c4) [A.t (T.int (out.length : Nat)), A.t (T.int 0), A.t (T.node l), A.t (T.node ms), A.t (T.node []), A.t (T.node (tl out))] = _ := h2 m (by omega)
  have hbool : (((lft (nmsA l) out).length : Nat) : Int) = 0 ↔ Nat.beq (lft (nmsA l) out).length 0 = true := by rw [Nat.beq_eq]; omega
  rw [q_order_line_Actions2_o]
  simp only [S0, S9, S1, S2, if_true, if_false, q0, q1, q2, q3, tl_len, q4, show Nat.beq 4 4 = true from rfl, show Nat.beq 8 8 = true from rfl, hml]
  congr 1
  cases hc : Nat.beq (lft (nmsA l) out).length 0 with
  | true => rw [beq_iff_eq.2 (hbool.2 hc)]
  | false => rw [show (((((lft (nmsA l) out).length : Nat) : Int) == 0) = false) from by rw [beq_eq_false_iff_ne]; intro e; rw [hbool.1 e] at hc; cases hc]
end Go.Proofs.YtjnbggianlgjiaaDoorOH
namespace Go.Proofs.YtjnbggianlgjiaaDoorOH
open Go Go.Proofs.YtjnbggianlgjiaaDoorVM
set_option linter.unusedVariables false
set_option linter.unusedSimpArgs false
set_option maxRecDepth 100000

def relA (a b : T) : Bool := if aK a = 1 then hasB (aN a) (dp b) else hasB (aN b) (dp a)
def freeA (l : List T) (out : List ByteArray) (a : T) : Bool := l.all fun b => hasB (aN b) out || !relA a b
theorem freeA_iff {l : List T} {out : List ByteArray} {a : T} : freeA l out a = true ↔ ∀ b ∈ l, relA a b = true → aN b ∈ out := by
  unfold freeA
  rw [List.all_eq_true]
  constructor
  · intro h b hb hr
    have := h b hb
    rw [hr] at this
    exact hasB_iff.1 (by simpa using this)
  · intro h b hb
    cases hr : relA a b with
    | false => simp
    | true => rw [hasB_iff.2 (h b hb hr)]; rfl
theorem mem_lns {lk : T → ByteArray → ByteArray × ByteArray} {p : List ByteArray} {l : List T} {x : ByteArray × ByteArray} : x ∈ lnsL lk p l ↔ ∃ a ∈ l, ∃ s ∈ dp a, s ∈ p ∧ lk a s = x := by
  unfold lnsL lnsA
  rw [List.mem_flatMap]
  constructor
  · rintro ⟨a, ha, hx⟩
    obtain ⟨s, hs, e⟩ := List.mem_map.1 hx
    obtain ⟨h1, h2⟩ := List.mem_filter.1 hs
    exact ⟨a, ha, s, h1, hasB_iff.1 h2, e⟩
  · rintro ⟨a, ha, s, h1, h2, e⟩
    exact ⟨a, ha, List.mem_map.2 ⟨s, List.mem_filter.2 ⟨h1, hasB_iff.2 h2⟩, e⟩⟩
theorem to1 {l : List T} (hk : ∀ x ∈ l, aK x = 1) {a : T} (ha : a ∈ l) {y : ByteArray} : y ∈ toOf (lnsL lk1 (P0 l) l) (aN a) ↔ ∃ b ∈ l, relA a b = true ∧ aN b = y := by
  have hr : ∀ b, relA a b = hasB (aN a) (dp b) := fun b => by unfold relA; rw [if_pos (hk a ha)]
  rw [mem_to, mem_lns]
  constructor
  · rintro ⟨b, hb, s, h1, h2, e⟩
    have e1 : s = aN a := congrArg Prod.fst e
    have e2 : aN b = y := congrArg Prod.snd e
    exact ⟨b, hb, by rw [hr, hasB_iff, ← e1]; exact h1, e2⟩
  · rintro ⟨b, hb, h, e⟩
    rw [hr, hasB_iff] at h
    exact ⟨b, hb, aN a, h, mem_P0.2 (List.mem_map.2 ⟨a, ha, rfl⟩), by unfold lk1; rw [e]⟩
theorem to2 {l : List T} (hk : ∀ x ∈ l, aK x ≠ 1) {a : T} (ha : a ∈ l) {y : ByteArray} (hn : (nmsA l).Nodup) : y ∈ toOf (lnsL lk2 (P0 l) l) (aN a) ↔ ∃ b ∈ l, relA a b = true ∧ aN b = y := by
  have hr : ∀ b, relA a b = hasB (aN b) (dp a) := fun b => by unfold relA; rw [if_neg (hk a ha)]
  rw [mem_to, mem_lns]
  constructor
  · rintro ⟨b, hb, s, h1, h2, e⟩
    have e1 : aN b = aN a := congrArg Prod.fst e
    have e2 : s = y := congrArg Prod.snd e
    have e3 : b = a := nms_inj hn hb ha e1
    subst e3 e2
    obtain ⟨c, hc, e4⟩ := List.mem_map.1 (mem_P0.1 h2)
    exact ⟨c, hc, by rw [hr, hasB_iff, e4]; exact h1, e4⟩
  · rintro ⟨b, hb, h, e⟩
    rw [hr, hasB_iff] at h
    exact ⟨a, ha, aN b, h, mem_P0.2 (List.mem_map.2 ⟨b, hb, rfl⟩), by unfold lk2; rw [e]⟩
theorem free_of {l : List T} {t : ByteArray → List ByteArray} {a : T} (h : ∀ y, y ∈ t (aN a) ↔ ∃ b ∈ l, relA a b = true ∧ aN b = y) (out : List ByteArray) : freeA l out a = Nat.beq (cnt t out (aN a)) 0 := by
  rw [Bool.eq_iff_iff, Nat.beq_eq, cnt_all, freeA_iff]
  constructor
  · intro h2 y hy
    obtain ⟨b, hb, hr, e⟩ := (h y).1 hy
    rw [← e]; exact h2 b hb hr
  · intro h2 b hb hr
    exact h2 _ ((h _).2 ⟨b, hb, hr, rfl⟩)
theorem free1 {l : List T} (hk : ∀ x ∈ l, aK x = 1) (out : List ByteArray) (a : T) (ha : a ∈ l) : freeA l out a = Nat.beq (cnt (toOf (lnsL lk1 (P0 l) l)) out (aN a)) 0 := free_of (fun y => to1 hk ha) out
theorem free2 {l : List T} (hk : ∀ x ∈ l, aK x ≠ 1) (hn : (nmsA l).Nodup) (out : List ByteArray) (a : T) (ha : a ∈ l) : freeA l out a = Nat.beq (cnt (toOf (lnsL lk2 (P0 l) l)) out (aN a)) 0 := free_of (fun y => to2 hk ha hn) out
def cand (l : List T) (out : List ByteArray) (x : T) : Bool := !hasB (aN x) out && freeA l out x
def Bst (l : List T) (out : List ByteArray) (j : Nat) (b : Int) : Prop :=
  (b = -1 ∧ ∀ x ∈ l.take j, cand l out x = false) ∨ ∃ (i : Nat) (h : i < l.length), i < j ∧ b = (i : Nat) ∧ cand l out l[i] = true ∧ ∀ x ∈ l.take j, cand l out x = true → sltB (aN x) (aN l[i]) = false
theorem Bst.zero (l : List T) (out : List ByteArray) : Bst l out 0 (-1) := .inl ⟨rfl, fun x hx => by cases hx⟩
theorem Bst.skip {l : List T} {out : List ByteArray} {j : Nat} {b : Int} (h : Bst l out j b) (hj : j < l.length) (hc : cand l out l[j] = false) : Bst l out (j + 1) b := by
  rcases h with ⟨h1, h2⟩ | ⟨i, hi, h1, h2, h3, h4⟩
  · refine .inl ⟨h1, fun x hx => ?_⟩
    rw [take_succ' hj] at hx
    rcases List.mem_append.1 hx with hx | hx
    · exact h2 x hx
    · rw [List.mem_singleton.1 hx]; exact hc
  · refine .inr ⟨i, hi, by omega, h2, h3, fun x hx hx2 => ?_⟩
    rw [take_succ' hj] at hx
    rcases List.mem_append.1 hx with hx | hx
    · exact h4 x hx hx2
    · rw [List.mem_singleton.1 hx, hc] at hx2; cases hx2
theorem Bst.first {l : List T} {out : List ByteArray} {j : Nat} {b : Int} (h : Bst l out j b) (hb : b < 0) (hj : j < l.length) (hc : cand l out l[j] = true) : Bst l out (j + 1) (j : Nat) := by
  rcases h with ⟨h1, h2⟩ | ⟨i, hi, h1, h2, h3, h4⟩
  · refine .inr ⟨j, hj, by omega, rfl, hc, fun x hx hx2 => ?_⟩
    rw [take_succ' hj] at hx
    rcases List.mem_append.1 hx with hx | hx
    · rw [h2 x hx] at hx2; cases hx2
    · rw [List.mem_singleton.1 hx, lt_irr]
  · omega
theorem Bst.less {l : List T} {out : List ByteArray} {j i : Nat} (h : Bst l out j (i : Nat)) (hi : i < l.length) (hj : j < l.length) (hc : cand l out l[j] = true) (hl : sltB (aN l[j]) (aN l[i]) = true) : Bst l out (j + 1) (j : Nat) := by
  rcases h with ⟨h1, h2⟩ | ⟨i', hi', h1, h2, h3, h4⟩
  · omega
  · have e : i = i' := by omega
    subst e
    refine .inr ⟨j, hj, by omega, rfl, hc, fun x hx hx2 => ?_⟩
    rw [take_succ' hj] at hx
    rcases List.mem_append.1 hx with hx | hx
    · cases hs : sltB (aN x) (aN l[j]) with
      | false => rfl
      | true => rw [← h4 x hx hx2, lt_tr hs hl]
    · rw [List.mem_singleton.1 hx, lt_irr]
theorem Bst.keep {l : List T} {out : List ByteArray} {j i : Nat} (h : Bst l out j (i : Nat)) (hi : i < l.length) (hj : j < l.length) (hl : sltB (aN l[j]) (aN l[i]) = false) : Bst l out (j + 1) (i : Nat) := by
  rcases h with ⟨h1, h2⟩ | ⟨i', hi', h1, h2, h3, h4⟩
  · omega
  · have e : i = i' := by omega
    subst e
    refine .inr ⟨i, hi, by omega, rfl, h3, fun x hx hx2 => ?_⟩
    rw [take_succ' hj] at hx
    rcases List.mem_append.1 hx with hx | hx
    · exact h4 x hx hx2
    · rw [List.mem_singleton.1 hx, hl]
theorem Bst.at {l : List T} {out : List ByteArray} {j : Nat} {b : Int} (h : Bst l out j b) : b < 0 ∨ ∃ i : Nat, i < l.length ∧ b = (i : Nat) := by
  rcases h with ⟨h1, h2⟩ | ⟨i, hi, h1, h2, h3, h4⟩
  · exact .inl (by omega)
  · exact .inr ⟨i, hi, h2⟩
theorem cand_fz {l : List T} {t : ByteArray → List ByteArray} {out : List ByteArray} (H : ∀ a ∈ l, freeA l out a = Nat.beq (cnt t out (aN a)) 0) {x : T} (hx : x ∈ l) : cand l out x = true ↔ aN x ∈ fz (P0 l) out (cnt t out) := by
  rw [mem_fz, mem_P0]
  unfold cand
  rw [H x hx, Bool.and_eq_true, Bool.not_eq_true', Nat.beq_eq]
  constructor
  · rintro ⟨h1, h2⟩
    exact ⟨List.mem_map.2 ⟨x, hx, rfl⟩, fun h => (by rw [hasB_iff.2 h] at h1; cases h1), h2⟩
  · rintro ⟨_, h1, h2⟩
    exact ⟨hasB_no h1, h2⟩
theorem Bst.none {l : List T} {t : ByteArray → List ByteArray} {out : List ByteArray} (H : ∀ a ∈ l, freeA l out a = Nat.beq (cnt t out (aN a)) 0) {b : Int} (h : Bst l out l.length b) (hb : b < 0) : stepO (P0 l) t out = out := by
  rcases h with ⟨h1, h2⟩ | ⟨i, hi, h1, h2, h3, h4⟩
  · have : fz (P0 l) out (cnt t out) = [] := by
      refine List.eq_nil_iff_forall_not_mem.2 fun s hs => ?_
      obtain ⟨x, hx, e⟩ := List.mem_map.1 (mem_P0.1 (mem_fz.1 hs).1)
      rw [← e, ← cand_fz H hx, h2 x (by rw [List.take_of_length_le (Nat.le_refl _)]; exact hx)] at hs
      cases hs
    unfold stepO
    rw [this]
  · omega
theorem Bst.some {l : List T} {t : ByteArray → List ByteArray} {out : List ByteArray} (H : ∀ a ∈ l, freeA l out a = Nat.beq (cnt t out (aN a)) 0) {i : Nat} (hi : i < l.length) (h : Bst l out l.length (i : Nat)) : stepO (P0 l) t out = out ++ [aN l[i]] := by
  rcases h with ⟨h1, h2⟩ | ⟨i', hi', h1, h2, h3, h4⟩
  · omega
  · have e : i = i' := by omega
    subst e
    have hm := (cand_fz H (List.getElem_mem hi)).1 h3
    have hr := fz_rise (out := out) (c := cnt t out) (P0_rise l)
    unfold stepO
    cases hf : fz (P0 l) out (cnt t out) with
    | nil => rw [hf] at hm; cases hm
    | cons s rest =>
      rw [hf] at hm hr
      rcases List.mem_cons.1 hm with e | hm
      · rw [e]
      · have hlt := (List.pairwise_cons.1 hr).1 _ hm
        have hs : s ∈ fz (P0 l) out (cnt t out) := by rw [hf]; exact List.mem_cons_self
        obtain ⟨x, hx, e⟩ := List.mem_map.1 (mem_P0.1 (mem_fz.1 hs).1)
        rw [← e] at hs hlt
        rw [h4 x (by rw [List.take_of_length_le (Nat.le_refl _)]; exact hx) ((cand_fz H hx).2 hs)] at hlt
        cases hlt
end Go.Proofs.YtjnbggianlgjiaaDoorOH
namespace Go.Proofs.YtjnbggianlgjiaaDoorOH
open Go Go.Proofs.YtjnbggianlgjiaaDoorVM
set_option linter.unusedVariables false
set_option linter.unusedSimpArgs false
set_option maxRecDepth 100000

def ordN (lk : T → ByteArray → ByteArray × ByteArray) (l : List T) : List ByteArray := iterO (P0 l) (toOf (lnsL lk (P0 l) l)) (P0 l).length []
def ordL (lk : T → ByteArray → ByteArray × ByteArray) (l : List T) : List T := (ordN lk l).map fun s => byN l s
def goneL (l : List T) : List T := l.filter fun x => decide (aK x = 1)
def madeL (l : List T) : List T := l.filter fun x => !decide (aK x = 1)
def ordA (l : List T) : List T := ordL lk1 (goneL l) ++ ordL lk2 (madeL l)
def actE (l : List T) : Int := if mayF [] l then (if (ordA l).length < l.length then 24 else 0) else 1
def actL (l : List T) : List T := if mayF [] l then (if (ordA l).length < l.length then [] else ordA l) else []
theorem two_len : ∀ l : List T, (goneL l).length + (madeL l).length = l.length
  | [] => rfl
  | x :: l => by
    have ih := two_len l
    unfold goneL madeL at ih ⊢
    rw [List.filter_cons, List.filter_cons]
    by_cases h : aK x = 1
    · simp only [h, decide_true, Bool.not_true, if_true, List.length_cons, Bool.false_eq_true, if_false]; omega
    · simp only [h, decide_false, Bool.not_false, if_true, List.length_cons, Bool.false_eq_true, if_false]; omega
theorem gone_mem {l : List T} {x : T} : x ∈ goneL l ↔ x ∈ l ∧ aK x = 1 := by unfold goneL; rw [List.mem_filter, decide_eq_true_eq]
theorem made_mem {l : List T} {x : T} : x ∈ madeL l ↔ x ∈ l ∧ aK x ≠ 1 := by unfold madeL; rw [List.mem_filter, Bool.not_eq_true', decide_eq_false_iff_not]
theorem gone_nodup {l : List T} (h : (nmsA l).Nodup) : (nmsA (goneL l)).Nodup := h.sublist (List.filter_sublist.map _)
theorem made_nodup {l : List T} (h : (nmsA l).Nodup) : (nmsA (madeL l)).Nodup := h.sublist (List.filter_sublist.map _)
theorem stepO_ok {p : List ByteArray} {t : ByteArray → List ByteArray} {o : List ByteArray} : stepO p t o = o ∨ ∃ s, s ∈ p ∧ s ∉ o ∧ (∀ y ∈ t s, y ∈ o) ∧ stepO p t o = o ++ [s] := by
  unfold stepO
  cases hf : fz p o (cnt t o) with
  | nil => exact .inl rfl
  | cons s r =>
    have hm : s ∈ fz p o (cnt t o) := by rw [hf]; exact List.mem_cons_self
    obtain ⟨h1, h2, h3⟩ := mem_fz.1 hm
    exact .inr ⟨s, h1, h2, cnt_all.1 h3, rfl⟩
structure OkO (p : List ByteArray) (t : ByteArray → List ByteArray) (o : List ByteArray) : Prop where
  sub : ∀ x ∈ o, x ∈ p
  nodup : o.Nodup
  ahead : ∀ (i : Nat) (h : i < o.length), ∀ y ∈ t o[i], y ∈ o.take i
theorem OkO.step {p : List ByteArray} {t : ByteArray → List ByteArray} {o : List ByteArray} (h : OkO p t o) : OkO p t (stepO p t o) := by
  rcases stepO_ok (p := p) (t := t) (o := o) with e | ⟨s, h1, h2, h3, e⟩
  · rw [e]; exact h
  · rw [e]
    refine ⟨fun x hx => ?_, ?_, fun i hi y hy => ?_⟩
    · rcases List.mem_append.1 hx with hx | hx
      · exact h.sub x hx
      · rw [List.mem_singleton.1 hx]; exact h1
    · rw [List.nodup_append]
      refine ⟨h.nodup, List.nodup_cons.2 ⟨fun h => (by cases h), List.nodup_nil⟩, fun a ha b hb e => ?_⟩
      rw [e, List.mem_singleton.1 hb] at ha
      exact h2 ha
    · rw [List.length_append, List.length_singleton] at hi
      by_cases hlt : i < o.length
      · rw [List.getElem_append_left hlt] at hy
        rw [List.take_append_of_le_length (by omega)]
        exact h.ahead i hlt y hy
      · have e2 : i = o.length := by omega
        subst e2
        rw [List.getElem_append_right (Nat.le_refl _)] at hy
        simp only [Nat.sub_self, List.getElem_cons_zero] at hy
        rw [List.take_append_of_le_length (Nat.le_refl _), List.take_of_length_le (Nat.le_refl _)]
        exact h3 y hy
theorem OkO.iter {p : List ByteArray} {t : ByteArray → List ByteArray} : ∀ (k : Nat) (o : List ByteArray), OkO p t o → OkO p t (iterO p t k o)
  | 0, o, h => h
  | k + 1, o, h => OkO.iter k _ h.step
theorem ordN_ok (lk : T → ByteArray → ByteArray × ByteArray) (l : List T) : OkO (P0 l) (toOf (lnsL lk (P0 l) l)) (ordN lk l) :=
  OkO.iter _ _ ⟨fun x hx => (by cases hx), List.nodup_nil, fun i hi => absurd hi (Nat.not_lt_zero _)⟩
theorem ordN_le (lk : T → ByteArray → ByteArray × ByteArray) (l : List T) : (ordN lk l).length ≤ (nmsA l).length :=
  List.Nodup.length_le_of_subset (ordN_ok lk l).nodup fun x hx => mem_P0.1 ((ordN_ok lk l).sub x hx)
theorem ordL_nms (lk : T → ByteArray → ByteArray × ByteArray) (l : List T) : nmsA (ordL lk l) = ordN lk l := by
  unfold nmsA ordL
  rw [List.map_map]
  refine (List.map_congr_left fun x hx => ?_).trans (List.map_id _)
  exact (byN_mem (mem_P0.1 ((ordN_ok lk l).sub x hx))).2
theorem ordL_mem {lk : T → ByteArray → ByteArray × ByteArray} {l : List T} {x : T} (h : x ∈ ordL lk l) : x ∈ l := by
  obtain ⟨s, hs, e⟩ := List.mem_map.1 h
  rw [← e]
  exact (byN_mem (mem_P0.1 ((ordN_ok lk l).sub s hs))).1
theorem lft_zero {lk : T → ByteArray → ByteArray × ByteArray} {l : List T} (hn : (nmsA l).Nodup) : Nat.beq (lft (nmsA l) (ordN lk l)).length 0 = decide ((ordL lk l).length = l.length) := by
  have h := lft_sum hn (ordN_ok lk l).nodup fun x hx => mem_P0.1 ((ordN_ok lk l).sub x hx)
  have e : (nmsA l).length = l.length := List.length_map ..
  have e2 : (ordL lk l).length = (ordN lk l).length := List.length_map ..
  rw [Bool.eq_iff_iff, Nat.beq_eq, decide_eq_true_eq]
  omega
theorem ordL_le (lk : T → ByteArray → ByteArray × ByteArray) (l : List T) : (ordL lk l).length ≤ l.length := by
  have h := ordN_le lk l
  have e : (nmsA l).length = l.length := List.length_map ..
  have e2 : (ordL lk l).length = (ordN lk l).length := List.length_map ..
  omega
theorem ordA_two {l : List T} (hn : (nmsA l).Nodup) : (Nat.beq (lft (nmsA (goneL l)) (ordN lk1 (goneL l))).length 0 && Nat.beq (lft (nmsA (madeL l)) (ordN lk2 (madeL l))).length 0) = !decide ((ordA l).length < l.length) := by
  rw [lft_zero (gone_nodup hn), lft_zero (made_nodup hn)]
  have h1 := ordL_le lk1 (goneL l)
  have h2 := ordL_le lk2 (madeL l)
  have h3 := two_len l
  unfold ordA
  rw [List.length_append, Bool.eq_iff_iff, Bool.and_eq_true, Bool.not_eq_true', decide_eq_true_eq, decide_eq_true_eq, decide_eq_false_iff_not]
  omega
def badA (a b : T) (after : Bool) : Bool :=
  if aK a = 1 then (if aK b = 1 then after && hasB (aN a) (dp b) else false) else (if aK b = 1 then false else after && hasB (aN b) (dp a))
def badI (l : List T) (i k : Nat) : Bool := (decide (aK (tAtD l i) = 1) && (!decide (aK (tAtD l k) = 1) && decide (k < i))) || badA (tAtD l i) (tAtD l k) (decide (i < k))
def earlyI (l : List T) (i : Nat) : Bool := (List.range l.length).any (badI l i)
def earF (l : List T) : Nat → Nat → Int
  | 0, _ => -1
  | k + 1, j => if earlyI l j then (j : Nat) else earF l k (j + 1)
def earA (l : List T) : Int := earF l l.length 0
theorem earF_none {l : List T} : ∀ (k j : Nat), (∀ i, i < j + k → earlyI l i = false) → earF l k j = -1
  | 0, j, _ => rfl
  | k + 1, j, h => by
    unfold earF
    rw [h j (by omega), if_neg (by simp)]
    exact earF_none k (j + 1) fun i hi => h i (by omega)
end Go.Proofs.YtjnbggianlgjiaaDoorOH
namespace Go.Proofs.YtjnbggianlgjiaaDoorOH
open Go Go.Proofs.YtjnbggianlgjiaaDoorVM
set_option linter.unusedVariables false
set_option linter.unusedSimpArgs false
set_option maxRecDepth 100000

theorem gone_snoc {l : List T} {j : Nat} (h : j < l.length) : goneL (l.take (j + 1)) = goneL (l.take j) ++ (if aK l[j] = 1 then [l[j]] else []) := by
  unfold goneL
  rw [take_succ' h, List.filter_append, List.filter_cons]
  by_cases e : aK l[j] = 1 <;> simp [e]
theorem made_snoc {l : List T} {j : Nat} (h : j < l.length) : madeL (l.take (j + 1)) = madeL (l.take j) ++ (if aK l[j] = 1 then [] else [l[j]]) := by
  unfold madeL
  rw [take_succ' h, List.filter_append, List.filter_cons]
  by_cases e : aK l[j] = 1 <;> simp [e]
theorem gone_le (l : List T) : (goneL l).length ≤ l.length := List.length_filter_le _ _
theorem made_le (l : List T) : (madeL l).length ≤ l.length := List.length_filter_le _ _
theorem deletes_does (x : T) : Dz i_order_deletes none [A.t x] (1, [A.t (T.bool (aK x == 1))]) := Does.now fun m => by
  rw [q_order_deletes]
  simp only [S0, S9, S1, S2, if_true, if_false, S6]
theorem pact_loop (l : List T) (hl : l.length ≤ 100000) : ∀ (k j : Nat), j + k = l.length →
    Dz i_order_Actions (some p_order_Actions_c1) [A.t (T.node l), A.t (T.int (l.length : Nat)), A.t (T.int j), A.t (T.node (goneL (l.take j))), A.t (T.node (madeL (l.take j)))] (2, [A.t (T.node (goneL l)), A.t (T.node (madeL l))]) := by
  intro k
  induction k with
  | zero =>
    intro j hj
    refine Does.now fun m => ?_
    rw [q_order_Actions_c1, List.take_of_length_le (by omega)]
    simp only [S0, S9, S1, S2, if_true, if_false]
    rw [if_neg (by omega)]
  | succ k ih =>
    intro j hj
    have hlt : j < l.length := by omega
    have hw : IntKind.i64.wrap ((j : Int) + 1) = ((j + 1 : Nat) : Int) := i64succ (by omega)
    have hi := ih (j + 1) (by omega)
    rw [gone_snoc hlt, made_snoc hlt] at hi
    have h1 := gone_le (l.take j)
    have h2 := made_le (l.take j)
    rw [List.length_take] at h1 h2
    have hs1 : Nat.succ (goneL (l.take j)).length < 1073741824 := by show _ + 1 < _; omega
    have hs2 : Nat.succ (madeL (l.take j)).length < 1073741824 := by show _ + 1 < _; omega
    obtain ⟨n0, h0⟩ := (deletes_does l[j]).both hi
    refine Does.of n0 fun m hm => ?_
    obtain ⟨q1, q2⟩ := h0 m hm
    rw [q_order_Actions_c1]
    simp only [S0, S9, S1, S2, if_true, if_false, at_get hlt, hw, q1, hs1, hs2]
    rw [if_pos (by omega), if_pos (by omega)]
    by_cases e : aK l[j] = 1
    · rw [if_pos e, if_pos e, List.append_nil] at q2
      rw [if_pos e]
      exact q2
    · rw [if_neg e, if_neg e, List.append_nil] at q2
      rw [if_neg e]
      exact q2
theorem pact_does {l : List T} (hl : l.length ≤ 12) (ha : ∀ x ∈ l, Ac x) (ht : ∀ x ∈ l, Tx x) : Dz i_order_Actions none [A.t (T.node l)] (1, [A.t (T.int (actE l)), A.t (T.node ((actL l).map ownT))]) := by
  cases hm : mayF [] l with
  | false =>
    obtain ⟨n0, h0⟩ := pmay_does l (by omega)
    refine Does.of n0 fun m hm2 => ?_
    have q := h0 m hm2
    rw [hm] at q
    rw [q_order_Actions]
    unfold actE actL
    rw [hm]
    simp only [S0, S9, S1, S2, if_true, if_false, q, Bool.not_false, Bool.false_eq_true, List.map_nil]
  | true =>
    have hn : (nmsA l).Nodup := ((mayF_iff l []).1 hm).2.2
    have g1 := gone_le l
    have g2 := made_le l
    obtain ⟨o1, e1, n1, s1, d1⟩ := line1_does (goneL l) (by omega) (fun x hx => ha x (gone_mem.1 hx).1) (fun x hx => ht x (gone_mem.1 hx).1) (gone_nodup hn)
    obtain ⟨o2, e2, n2, s2, d2⟩ := line2_does (madeL l) (by omega) (fun x hx => ha x (made_mem.1 hx).1) (fun x hx => ht x (made_mem.1 hx).1) (made_nodup hn)
    have e1' : o1 = ordN lk1 (goneL l) := e1
    have e2' : o2 = ordN lk2 (madeL l) := e2
    subst e1' e2'
    have hz := ordA_two hn
    have hl1 := ordL_le lk1 (goneL l)
    have hl2 := ordL_le lk2 (madeL l)
    have k1 : ((ordN lk1 (goneL l)).map fun s => ownT (byN (goneL l) s)) = (ordL lk1 (goneL l)).map ownT := by unfold ordL; rw [List.map_map]; rfl
    have k2 : ((ordN lk2 (madeL l)).map fun s => ownT (byN (madeL l) s)) = (ordL lk2 (madeL l)).map ownT := by unfold ordL; rw [List.map_map]; rfl
    rw [k1] at d1
    rw [k2] at d2
    obtain ⟨n3, h3⟩ := (pmay_does l (by omega)).both (pact_loop l (by omega) l.length 0 (by omega))
    obtain ⟨n4, h4⟩ := d1.both d2
    refine Does.of (n3 + n4) fun m hm2 => ?_
    obtain ⟨q1, q2⟩ := h3 m (by omega)
    obtain ⟨q3, q4⟩ := h4 m (by omega)
    have q2' : den Tryd.prog G0 ents m i_order_Actions (some p_order_Actions_c1) [A.t (T.node l), A.t (T.int (l.length : Nat)), A.t (T.int 0), A.t (T.node []), A.t (T.node [])] = _ := q2
    rw [hm] at q1
    have hsz : (ordL lk1 (goneL l)).length + (ordL lk2 (madeL l)).length < 1073741824 := by omega
    have hmap : (ordL lk1 (goneL l)).map ownT ++ (ordL lk2 (madeL l)).map ownT = (ordA l).map ownT := by unfold ordA; rw [List.map_append]
    rw [q_order_Actions]
    unfold actE actL
    rw [hm]
    simp only [S0, S9, S1, S2, if_true, if_false, q1, q2', q3, q4, Bool.not_true, Bool.false_eq_true, List.length_map, hsz, hmap]
    cases hb : decide ((ordA l).length < l.length) with
    | true =>
      rw [hb] at hz
      rw [if_pos (of_decide_eq_true hb), if_pos (of_decide_eq_true hb)]
      cases b1 : Nat.beq (lft (nmsA (goneL l)) (ordN lk1 (goneL l))).length 0 with
      | false => simp
      | true =>
        rw [b1, Bool.true_and] at hz
        rw [hz]
        simp
    | false =>
      rw [hb] at hz
      rw [if_neg (of_decide_eq_false hb), if_neg (of_decide_eq_false hb)]
      rw [Bool.not_false, Bool.and_eq_true] at hz
      rw [hz.1, hz.2]
      simp
theorem dp_has (x : T) (s : ByteArray) (h : Tx x) (hl : (dp x).length ≤ 1000000) : Dz i_R17_Has none [A.t (T.node (dpT x)), A.t (T.str s)] (1, [A.t (T.bool (hasB s (dp x)))]) := by
  have e : dpT x = tl (dp x) := h
  rw [e]
  exact rhas17_does (dp x) s hl
end Go.Proofs.YtjnbggianlgjiaaDoorOH
namespace Go.Proofs.YtjnbggianlgjiaaDoorOH
open Go Go.Proofs.YtjnbggianlgjiaaDoorVM
set_option linter.unusedVariables false
set_option linter.unusedSimpArgs false
set_option maxRecDepth 100000

def idxR (f : T → Bool) : List T → Nat → Option Nat
  | [], _ => none
  | x :: l, j => if f x then some j else idxR f l (j + 1)
def idxI (o : Option Nat) : Int := match o with
  | some i => (i : Nat)
  | none => -1
theorem idxR_any (f : T → Bool) : ∀ (l : List T) (j : Nat), decide (0 ≤ idxI (idxR f l j)) = l.any f
  | [], j => by simp [idxR, idxI]
  | x :: l, j => by
    rw [List.any_cons, idxR]
    cases hf : f x with
    | true => simp [idxI]
    | false => rw [if_neg (by simp), Bool.false_or]; exact idxR_any f l (j + 1)
theorem idxR_at {f : T → Bool} : ∀ {l : List T} {j i : Nat} (h : i < l.length), f l[i] = true → (∀ k (hk : k < i), f (l[k]'(by omega)) = false) → idxR f l j = some (j + i)
  | x :: l, j, 0, h, h1, _ => by
    rw [idxR, if_pos (show f x = true from h1), Nat.add_zero]
  | x :: l, j, i + 1, h, h1, h2 => by
    rw [idxR, if_neg (by rw [show f x = false from h2 0 (by omega)]; simp)]
    have := idxR_at (f := f) (l := l) (j := j + 1) (i := i) (by simpa using h) h1 (fun k hk => h2 (k + 1) (by omega))
    rw [this]
    congr 1
    omega
theorem ix11_loop (f : T → Bool) (y : T) (l : List T) (hl : l.length ≤ 100000) (hf : ∀ x ∈ l, Dz i_order_Early_1_1 none [A.t x, A.t y] (1, [A.t (T.bool (f x)), A.t y])) : ∀ (k j : Nat), j + k = l.length →
    Dz i_slices_IndexFunc_Action_Early11 (some p_slices_IndexFunc_Action_Early11_c1) [A.t (T.node l), A.t (T.int (l.length : Nat)), A.t (T.int j), A.t y] (match idxR f (l.drop j) j with | some i => (1, [A.t (T.int i), A.t y]) | none => (2, [A.t y])) := by
  intro k
  induction k with
  | zero =>
    intro j hj
    refine Does.now fun m => ?_
    rw [q_slices_IndexFunc_Action_Early11_c1, List.drop_of_length_le (by omega)]
    simp only [S0, S9, S1, S2, if_true, if_false]
    rw [if_neg (by omega)]
    rfl
  | succ k ih =>
    intro j hj
    have hlt : j < l.length := by omega
    have hw : IntKind.i64.wrap ((j : Int) + 1) = ((j + 1 : Nat) : Int) := i64succ (by omega)
    obtain ⟨n0, h0⟩ := (hf _ (List.getElem_mem hlt)).both (ih (j + 1) (by omega))
    refine Does.of n0 fun m hm => ?_
    obtain ⟨q1, q2⟩ := h0 m hm
    rw [q_slices_IndexFunc_Action_Early11_c1, List.drop_eq_getElem_cons hlt, idxR]
    simp only [S0, S9, S1, S2, if_true, if_false, at_get hlt, hw, q1]
    rw [if_pos (by omega), if_pos (by omega)]
    cases hb : f l[j] with
    | true => simp
    | false =>
      simp only [Bool.false_eq_true, if_false]
      exact q2
theorem ix11_does (f : T → Bool) (y : T) (l : List T) (hl : l.length ≤ 100000) (hf : ∀ x ∈ l, Dz i_order_Early_1_1 none [A.t x, A.t y] (1, [A.t (T.bool (f x)), A.t y])) : Dz i_slices_IndexFunc_Action_Early11 none [A.t (T.node l), A.t y] (1, [A.t (T.int (idxI (idxR f l 0))), A.t y]) := by
  obtain ⟨n0, h0⟩ := ix11_loop f y l hl hf l.length 0 (by omega)
  refine Does.of n0 fun m hm => ?_
  have q : den Tryd.prog G0 ents m i_slices_IndexFunc_Action_Early11 (some p_slices_IndexFunc_Action_Early11_c1) [A.t (T.node l), A.t (T.int (l.length : Nat)), A.t (T.int 0), A.t y] = _ := h0 m hm
  rw [List.drop_zero] at q
  rw [q_slices_IndexFunc_Action_Early11]
  simp only [S0, S9, S1, S2, if_true, if_false, q]
  cases idxR f l 0 <;> rfl
theorem ix13_loop (f : T → Bool) (y : T) (l : List T) (hl : l.length ≤ 100000) (hf : ∀ x ∈ l, Dz i_order_Early_1_3 none [A.t x, A.t y] (1, [A.t (T.bool (f x)), A.t y])) : ∀ (k j : Nat), j + k = l.length →
    Dz i_slices_IndexFunc_Action_Early13 (some p_slices_IndexFunc_Action_Early13_c1) [A.t (T.node l), A.t (T.int (l.length : Nat)), A.t (T.int j), A.t y] (match idxR f (l.drop j) j with | some i => (1, [A.t (T.int i), A.t y]) | none => (2, [A.t y])) := by
  intro k
  induction k with
  | zero =>
    intro j hj
    refine Does.now fun m => ?_
    rw [q_slices_IndexFunc_Action_Early13_c1, List.drop_of_length_le (by omega)]
    simp only [S0, S9, S1, S2, if_true, if_false]
    rw [if_neg (by omega)]
    rfl
  | succ k ih =>
    intro j hj
    have hlt : j < l.length := by omega
    have hw : IntKind.i64.wrap ((j : Int) + 1) = ((j + 1 : Nat) : Int) := i64succ (by omega)
    obtain ⟨n0, h0⟩ := (hf _ (List.getElem_mem hlt)).both (ih (j + 1) (by omega))
    refine Does.of n0 fun m hm => ?_
    obtain ⟨q1, q2⟩ := h0 m hm
    rw [q_slices_IndexFunc_Action_Early13_c1, List.drop_eq_getElem_cons hlt, idxR]
    simp only [S0, S9, S1, S2, if_true, if_false, at_get hlt, hw, q1]
    rw [if_pos (by omega), if_pos (by omega)]
    cases hb : f l[j] with
    | true => simp
    | false =>
      simp only [Bool.false_eq_true, if_false]
      exact q2
theorem ix13_does (f : T → Bool) (y : T) (l : List T) (hl : l.length ≤ 100000) (hf : ∀ x ∈ l, Dz i_order_Early_1_3 none [A.t x, A.t y] (1, [A.t (T.bool (f x)), A.t y])) : Dz i_slices_IndexFunc_Action_Early13 none [A.t (T.node l), A.t y] (1, [A.t (T.int (idxI (idxR f l 0))), A.t y]) := by
  obtain ⟨n0, h0⟩ := ix13_loop f y l hl hf l.length 0 (by omega)
  refine Does.of n0 fun m hm => ?_
  have q : den Tryd.prog G0 ents m i_slices_IndexFunc_Action_Early13 (some p_slices_IndexFunc_Action_Early13_c1) [A.t (T.node l), A.t (T.int (l.length : Nat)), A.t (T.int 0), A.t y] = _ := h0 m hm
  rw [List.drop_zero] at q
  rw [q_slices_IndexFunc_Action_Early13]
  simp only [S0, S9, S1, S2, if_true, if_false, q]
  cases idxR f l 0 <;> rfl
theorem cf13_does (f : T → Bool) (y : T) (l : List T) (hl : l.length ≤ 100000) (hf : ∀ x ∈ l, Dz i_order_Early_1_3 none [A.t x, A.t y] (1, [A.t (T.bool (f x)), A.t y])) : Dz i_slices_ContainsFunc_Action_Early13 none [A.t (T.node l), A.t y] (1, [A.t (T.bool (l.any f)), A.t y]) := by
  obtain ⟨n0, h0⟩ := ix13_does f y l hl hf
  refine Does.of n0 fun m hm => ?_
  have q := h0 m hm
  rw [q_slices_ContainsFunc_Action_Early13, ← idxR_any f l 0]
  simp only [S0, S9, S1, S2, if_true, if_false, q]
theorem ix14_loop (f : T → Bool) (y : T) (l : List T) (hl : l.length ≤ 100000) (hf : ∀ x ∈ l, Dz i_order_Early_1_4 none [A.t x, A.t y] (1, [A.t (T.bool (f x)), A.t y])) : ∀ (k j : Nat), j + k = l.length →
    Dz i_slices_IndexFunc_Action_Early14 (some p_slices_IndexFunc_Action_Early14_c1) [A.t (T.node l), A.t (T.int (l.length : Nat)), A.t (T.int j), A.t y] (match idxR f (l.drop j) j with | some i => (1, [A.t (T.int i), A.t y]) | none => (2, [A.t y])) := by
  intro k
  induction k with
  | zero =>
    intro j hj
    refine Does.now fun m => ?_
    rw [q_slices_IndexFunc_Action_Early14_c1, List.drop_of_length_le (by omega)]
    simp only [S0, S9, S1, S2, if_true, if_false]
    rw [if_neg (by omega)]
    rfl
  | succ k ih =>
    intro j hj
    have hlt : j < l.length := by omega
    have hw : IntKind.i64.wrap ((j : Int) + 1) = ((j + 1 : Nat) : Int) := i64succ (by omega)
    obtain ⟨n0, h0⟩ := (hf _ (List.getElem_mem hlt)).both (ih (j + 1) (by omega))
    refine Does.of n0 fun m hm => ?_
    obtain ⟨q1, q2⟩ := h0 m hm
    rw [q_slices_IndexFunc_Action_Early14_c1, List.drop_eq_getElem_cons hlt, idxR]
    simp only [S0, S9, S1, S2, if_true, if_false, at_get hlt, hw, q1]
    rw [if_pos (by omega), if_pos (by omega)]
    cases hb : f l[j] with
    | true => simp
    | false =>
      simp only [Bool.false_eq_true, if_false]
      exact q2
theorem ix14_does (f : T → Bool) (y : T) (l : List T) (hl : l.length ≤ 100000) (hf : ∀ x ∈ l, Dz i_order_Early_1_4 none [A.t x, A.t y] (1, [A.t (T.bool (f x)), A.t y])) : Dz i_slices_IndexFunc_Action_Early14 none [A.t (T.node l), A.t y] (1, [A.t (T.int (idxI (idxR f l 0))), A.t y]) := by
  obtain ⟨n0, h0⟩ := ix14_loop f y l hl hf l.length 0 (by omega)
  refine Does.of n0 fun m hm => ?_
  have q : den Tryd.prog G0 ents m i_slices_IndexFunc_Action_Early14 (some p_slices_IndexFunc_Action_Early14_c1) [A.t (T.node l), A.t (T.int (l.length : Nat)), A.t (T.int 0), A.t y] = _ := h0 m hm
  rw [List.drop_zero] at q
  rw [q_slices_IndexFunc_Action_Early14]
  simp only [S0, S9, S1, S2, if_true, if_false, q]
  cases idxR f l 0 <;> rfl
theorem cf14_does (f : T → Bool) (y : T) (l : List T) (hl : l.length ≤ 100000) (hf : ∀ x ∈ l, Dz i_order_Early_1_4 none [A.t x, A.t y] (1, [A.t (T.bool (f x)), A.t y])) : Dz i_slices_ContainsFunc_Action_Early14 none [A.t (T.node l), A.t y] (1, [A.t (T.bool (l.any f)), A.t y]) := by
  obtain ⟨n0, h0⟩ := ix14_does f y l hl hf
  refine Does.of n0 fun m hm => ?_
  have q := h0 m hm
  rw [q_slices_ContainsFunc_Action_Early14, ← idxR_any f l 0]
  simp only [S0, S9, S1, S2, if_true, if_false, q]
theorem ix12_loop (l : List T) (hl : l.length ≤ 100000) : ∀ (k j : Nat), j + k = l.length →
    Dz i_slices_IndexFunc_Action_Early12 (some p_slices_IndexFunc_Action_Early12_c1) [A.t (T.node l), A.t (T.int (l.length : Nat)), A.t (T.int j)] (match idxR (fun x => !(aK x == 1)) (l.drop j) j with | some i => (1, [A.t (T.int i)]) | none => (2, [])) := by
  intro k
  induction k with
  | zero =>
    intro j hj
    refine Does.now fun m => ?_
    rw [q_slices_IndexFunc_Action_Early12_c1, List.drop_of_length_le (by omega)]
    simp only [S0, S9, S1, S2, if_true, if_false]
    rw [if_neg (by omega)]
    rfl
  | succ k ih =>
    intro j hj
    have hlt : j < l.length := by omega
    have hw : IntKind.i64.wrap ((j : Int) + 1) = ((j + 1 : Nat) : Int) := i64succ (by omega)
    have hd : Dz i_order_Early_1_2 none [A.t l[j]] (1, [A.t (T.bool (!(aK l[j] == 1)))]) := by
      obtain ⟨n0, h0⟩ := deletes_does l[j]
      refine Does.of n0 fun m hm => ?_
      have q := h0 m hm
      rw [q_order_Early_1_2]
      simp only [S0, S9, S1, S2, if_true, if_false, q]
    obtain ⟨n0, h0⟩ := hd.both (ih (j + 1) (by omega))
    refine Does.of n0 fun m hm => ?_
    obtain ⟨q1, q2⟩ := h0 m hm
    rw [q_slices_IndexFunc_Action_Early12_c1, List.drop_eq_getElem_cons hlt, idxR]
    simp only [S0, S9, S1, S2, if_true, if_false, at_get hlt, hw, q1]
    rw [if_pos (by omega), if_pos (by omega)]
    cases hb : (aK l[j] == 1) with
    | false => simp
    | true =>
      simp only [Bool.not_true, Bool.false_eq_true, if_false]
      exact q2
theorem cf12_does (l : List T) (hl : l.length ≤ 100000) : Dz i_slices_ContainsFunc_Action_Early12 none [A.t (T.node l)] (1, [A.t (T.bool (l.any fun x => !(aK x == 1)))]) := by
  obtain ⟨n0, h0⟩ := ix12_loop l hl l.length 0 (by omega)
  refine Does.of (n0 + 1) fun m hm => ?_
  obtain ⟨m, rfl⟩ : ∃ k, m = k + 1 := ⟨m - 1, by omega⟩
  have q : den Tryd.prog G0 ents m i_slices_IndexFunc_Action_Early12 (some p_slices_IndexFunc_Action_Early12_c1) [A.t (T.node l), A.t (T.int (l.length : Nat)), A.t (T.int 0)] = _ := h0 m (by omega)
  rw [List.drop_zero] at q
  have q2 : den Tryd.prog G0 ents (m + 1) i_slices_IndexFunc_Action_Early12 none [A.t (T.node l)] = some (1, [A.t (T.int (idxI (idxR (fun x => !(aK x == 1)) l 0)))]) := by
    show den Tryd.prog G0 ents (Nat.succ m) i_slices_IndexFunc_Action_Early12 none [A.t (T.node l)] = _
    rw [q_slices_IndexFunc_Action_Early12]
    simp only [S0, S9, S1, S2, if_true, if_false, q]
    cases idxR (fun x => !(aK x == 1)) l 0 <;> rfl
  rw [q_slices_ContainsFunc_Action_Early12, ← idxR_any _ l 0]
  simp only [S0, S9, S1, S2, if_true, if_false, q2]
theorem ixs_loop (l : List ByteArray) (s : ByteArray) (hl : l.length ≤ 100000) : ∀ (k j : Nat), j + k = l.length →
    ∃ i : Nat, Dz i_slices_Index_string (some p_slices_Index_string_c1) [A.t (T.node (tl l)), A.t (T.str s), A.t (T.int (l.length : Nat)), A.t (T.int j)] (if hasB s (l.drop j) then (1, [A.t (T.int i)]) else (2, [])) := by
  intro k
  induction k with
  | zero =>
    intro j hj
    refine ⟨0, Does.now fun m => ?_⟩
    rw [q_slices_Index_string_c1, List.drop_of_length_le (by omega)]
    simp only [S0, S9, S1, S2, if_true, if_false]
    rw [if_neg (by omega)]
    rfl
  | succ k ih =>
    intro j hj
    have hlt : j < l.length := by omega
    have hw : IntKind.i64.wrap ((j : Int) + 1) = ((j + 1 : Nat) : Int) := i64succ (by omega)
    obtain ⟨i, n0, h0⟩ := ih (j + 1) (by omega)
    refine ⟨if seqB l[j] s then j else i, Does.of n0 fun m hm => ?_⟩
    have q := h0 m hm
    rw [q_slices_Index_string_c1, List.drop_eq_getElem_cons hlt, hasB_cons]
    simp only [S0, S9, S1, S2, if_true, if_false, tl_len, tl_get hlt, txt_s, hw, seq_comm s l[j]]
    rw [if_pos (by omega), if_pos (by omega)]
    cases seqB l[j] s
    · simp only [Bool.false_eq_true, if_false, false_or]; exact q
    · simp only [if_true, true_or]
theorem cons_does (x : T) (hx : Tx x) (hl : (dp x).length ≤ 1000) (s : ByteArray) : Dz i_slices_Contains_string none [A.t (T.node (dpT x)), A.t (T.str s)] (1, [A.t (T.bool (hasB s (dp x)))]) := by
  rw [show dpT x = tl (dp x) from hx]
  obtain ⟨i, n0, h0⟩ := ixs_loop (dp x) s (by omega) (dp x).length 0 (by omega)
  refine Does.of (n0 + 1) fun m hm => ?_
  obtain ⟨m, rfl⟩ : ∃ k, m = k + 1 := ⟨m - 1, by omega⟩
  have q : den Tryd.prog G0 ents m i_slices_Index_string (some p_slices_Index_string_c1) [A.t (T.node (tl (dp x))), A.t (T.str s), A.t (T.int ((dp x).length : Nat)), A.t (T.int 0)] = _ := h0 m (by omega)
  rw [List.drop_zero] at q
  have q2 : den Tryd.prog G0 ents (m + 1) i_slices_Index_string none [A.t (T.node (tl (dp x))), A.t (T.str s)] = some (1, [A.t (T.int (if hasB s (dp x) then (i : Nat) else (-1 : Int)))]) := by
    show den Tryd.prog G0 ents (Nat.succ m) i_slices_Index_string none _ = _
    rw [q_slices_Index_string]
    simp only [S0, S9, S1, S2, if_true, if_false, tl_len, q]
    cases hasB s (dp x) <;> rfl
  rw [q_slices_Contains_string]
  simp only [S0, S9, S1, S2, if_true, if_false, q2]
  cases hasB s (dp x) with
  | true => simp
  | false => simp
theorem e3_does (x y : T) (hx : Ac x) (ht : Tx x) : Dz i_order_Early_1_3 none [A.t x, A.t y] (1, [A.t (T.bool (aK x == 1 && hasB (aN y) (dp x))), A.t y]) := by
  obtain ⟨n0, h0⟩ := (deletes_does x).both (cons_does x ht (by have := hx.dl2; omega) (aN y))
  refine Does.of n0 fun m hm => ?_
  obtain ⟨q1, q2⟩ := h0 m hm
  rw [q_order_Early_1_3]
  simp only [S0, S9, S1, S2, if_true, if_false, S6, q1, q2]
  by_cases h : aK x = 1 <;> simp [h]
theorem e4_does (x y : T) (hy : Ac y) (ht : Tx y) : Dz i_order_Early_1_4 none [A.t x, A.t y] (1, [A.t (T.bool (!(aK x == 1) && hasB (aN x) (dp y))), A.t y]) := by
  obtain ⟨n0, h0⟩ := (deletes_does x).both (cons_does y ht (by have := hy.dl2; omega) (aN x))
  refine Does.of n0 fun m hm => ?_
  obtain ⟨q1, q2⟩ := h0 m hm
  rw [q_order_Early_1_4]
  simp only [S0, S9, S1, S2, if_true, if_false, S6, q1, q2]
  by_cases h : aK x = 1 <;> simp [h]
theorem e1_does (x y : T) : Dz i_order_Early_1_1 none [A.t x, A.t y] (1, [A.t (T.bool (seqB (aN x) (aN y))), A.t y]) := Does.now fun m => by
  rw [q_order_Early_1_1]
  simp only [S0, S9, S1, S2, if_true, if_false, S6]
def progE (l : List T) (i : Nat) (a : T) : Bool :=
  if aK a = 1 then ((l.take i).any fun b => !(aK b == 1)) || (l.drop (i + 1)).any fun b => aK b == 1 && hasB (aN a) (dp b) else (l.drop (i + 1)).any fun b => !(aK b == 1) && hasB (aN b) (dp a)
theorem any_take {l : List T} {f : T → Bool} {i : Nat} : (l.take i).any f = true ↔ ∃ (k : Nat) (h : k < l.length), k < i ∧ f l[k] = true := by
  rw [List.any_eq_true]
  constructor
  · rintro ⟨x, hx, h⟩
    obtain ⟨k, hk, e⟩ := List.getElem_of_mem hx
    rw [List.length_take] at hk
    rw [List.getElem_take] at e
    exact ⟨k, by omega, by omega, by rw [e]; exact h⟩
  · rintro ⟨k, h, hk, hf⟩
    refine ⟨l[k], List.mem_iff_getElem.2 ⟨k, by rw [List.length_take]; omega, by rw [List.getElem_take]⟩, hf⟩
theorem any_drop {l : List T} {f : T → Bool} {i : Nat} : (l.drop (i + 1)).any f = true ↔ ∃ (k : Nat) (h : k < l.length), i < k ∧ f l[k] = true := by
  rw [List.any_eq_true]
  constructor
  · rintro ⟨x, hx, h⟩
    obtain ⟨k, hk, e⟩ := List.getElem_of_mem hx
    rw [List.length_drop] at hk
    rw [List.getElem_drop] at e
    exact ⟨i + 1 + k, by omega, by omega, by rw [e]; exact h⟩
  · rintro ⟨k, h, hk, hf⟩
    refine ⟨l[k], List.mem_iff_getElem.2 ⟨k - (i + 1), by rw [List.length_drop]; omega, ?_⟩, hf⟩
    rw [List.getElem_drop]
    congr 1
    omega
theorem early_prog {l : List T} {i : Nat} (hi : i < l.length) : earlyI l i = progE l i l[i] := by
  have hr : earlyI l i = true ↔ ∃ (k : Nat) (h : k < l.length), badI l i k = true := by
    unfold earlyI
    rw [List.any_eq_true]
    constructor
    · rintro ⟨k, hk, h⟩; exact ⟨k, List.mem_range.1 hk, h⟩
    · rintro ⟨k, hk, h⟩; exact ⟨k, List.mem_range.2 hk, h⟩
  have hb : ∀ k (h : k < l.length), badI l i k = ((decide (aK l[i] = 1) && (!decide (aK l[k] = 1) && decide (k < i))) || badA l[i] l[k] (decide (i < k))) := fun k h => by
    unfold badI
    rw [at_get hi, at_get h]
  rw [Bool.eq_iff_iff, hr]
  unfold progE
  by_cases h1 : aK l[i] = 1
  · rw [if_pos h1, Bool.or_eq_true, any_take, any_drop]
    constructor
    · rintro ⟨k, hk, h⟩
      rw [hb k hk] at h
      unfold badA at h
      by_cases h2 : aK l[k] = 1
      · simp [h1, h2] at h
        exact .inr ⟨k, hk, h.1, by simp [h2, h.2]⟩
      · simp [h1, h2] at h
        exact .inl ⟨k, hk, h, by simp [h2]⟩
    · rintro (⟨k, hk, h, h2⟩ | ⟨k, hk, h, h2⟩)
      · refine ⟨k, hk, ?_⟩
        rw [hb k hk]
        have h3 : aK l[k] ≠ 1 := by simpa using h2
        simp [h1, h3, h]
      · refine ⟨k, hk, ?_⟩
        rw [hb k hk]
        rw [Bool.and_eq_true, beq_iff_eq] at h2
        unfold badA
        simp [h1, h2.1, h2.2, h]
  · rw [if_neg h1, any_drop]
    constructor
    · rintro ⟨k, hk, h⟩
      rw [hb k hk] at h
      unfold badA at h
      by_cases h2 : aK l[k] = 1
      · simp [h1, h2] at h
      · simp [h1, h2] at h
        exact ⟨k, hk, h.1, by simp [h2, h.2]⟩
    · rintro ⟨k, hk, h, h2⟩
      refine ⟨k, hk, ?_⟩
      rw [hb k hk]
      rw [Bool.and_eq_true] at h2
      have h3 : aK l[k] ≠ 1 := by simpa using h2.1
      unfold badA
      simp [h1, h3, h2.2, h]
theorem early1_does {l : List T} (hl : l.length ≤ 12) (ha : ∀ x ∈ l, Ac x) (ht : ∀ x ∈ l, Tx x) (hn : (nmsA l).Nodup) {i : Nat} (hi : i < l.length) : Dz i_order_Early_1 none [A.t l[i], A.t (T.node l)] (1, [A.t (T.bool (earlyI l i)), A.t (T.node l)]) := by
  have hm := List.getElem_mem hi
  have hat : idxR (fun b => seqB (aN b) (aN l[i])) l 0 = some i := by
    have := idxR_at (f := fun b => seqB (aN b) (aN l[i])) (l := l) (j := 0) (i := i) hi (seq_is.2 rfl) (fun k hk => seq_no fun e => by
      have e2 := nms_inj hn (List.getElem_mem (show k < l.length by omega)) hm e
      have hnl : l.Nodup := List.Pairwise.of_map aN (fun a b h e => h (by rw [e])) hn
      have := (List.getElem_inj hnl).1 e2
      omega)
    rw [this, Nat.zero_add]
  obtain ⟨n0, h0⟩ := (ix11_does (fun b => seqB (aN b) (aN l[i])) l[i] l (by omega) (fun x _ => e1_does x l[i])).both (deletes_does l[i])
  obtain ⟨n1, h1⟩ := (cf12_does (l.take i) (by rw [List.length_take]; omega)).both (cf13_does (fun b => aK b == 1 && hasB (aN l[i]) (dp b)) l[i] (l.drop (i + 1)) (by rw [List.length_drop]; omega) (fun x hx => e3_does x l[i] (ha x (List.mem_of_mem_drop hx)) (ht x (List.mem_of_mem_drop hx))))
  obtain ⟨n2, h2⟩ := cf14_does (fun b => !(aK b == 1) && hasB (aN b) (dp l[i])) l[i] (l.drop (i + 1)) (by rw [List.length_drop]; omega) (fun x hx => e4_does x l[i] (ha _ hm) (ht _ hm))
  have hw : IntKind.i64.wrap ((i : Int) + 1) = ((i + 1 : Nat) : Int) := i64succ (by omega)
  refine Does.of (n0 + n1 + n2) fun m hm2 => ?_
  obtain ⟨q1, q2⟩ := h0 m (by omega)
  obtain ⟨q3, q4⟩ := h1 m (by omega)
  have q5 := h2 m (by omega)
  rw [hat] at q1
  have q1' : den Tryd.prog G0 ents m i_slices_IndexFunc_Action_Early11 none [A.t (T.node l), A.t l[i]] = some (1, [A.t (T.int (i : Nat)), A.t l[i]]) := q1
  have g1 : (0 : Int) ≤ (i : Int) := by omega
  have g2 : (i : Int) ≤ ((l.length : Nat) : Int) := by omega
  have g3 : ((i + 1 : Nat) : Int) ≤ ((l.length : Nat) : Int) := by omega
  have g4 : (0 : Int) ≤ ((l.length : Nat) : Int) := by omega
  have g5 : (0 : Int) ≤ ((i + 1 : Nat) : Int) := by omega
  rw [early_prog hi, q_order_Early_1]
  unfold progE
  have e1 : List.drop 0 (List.take (Int.toNat (i : Int)) l) = l.take i := by rw [Int.toNat_natCast, List.drop_zero]
  have e2 : List.drop (Int.toNat ((i + 1 : Nat) : Int)) (List.take (Int.toNat ((l.length : Nat) : Int)) l) = l.drop (i + 1) := by rw [Int.toNat_natCast, Int.toNat_natCast, List.take_of_length_le (Nat.le_refl _)]
  simp only [S0, S9, S1, S2, if_true, if_false, q1', q2, hw, g1, g2, g3, g4, g5, Int.le_refl, decide_true, Bool.and_self, Int.toNat_natCast, List.drop_zero, List.take_length, q3, q4, q5, and_self]
  by_cases hk : aK l[i] = 1
  · simp only [hk, if_true]
    cases (l.take i).any fun b => !(aK b == 1) with
    | true => simp
    | false => simp
  · simp [hk]
end Go.Proofs.YtjnbggianlgjiaaDoorOH
namespace Go.Proofs.YtjnbggianlgjiaaDoorOH
open Go Go.Proofs.YtjnbggianlgjiaaDoorVM
set_option linter.unusedVariables false
set_option linter.unusedSimpArgs false
set_option maxRecDepth 100000

theorem mayF_perm {l l' : List T} (h : l.Perm l') : mayF [] l = mayF [] l' := by
  have hn := (h.map aN).nodup_iff
  rw [Bool.eq_iff_iff, mayF_iff, mayF_iff]
  constructor
  · rintro ⟨h1, h2, h3⟩
    exact ⟨fun x hx => h1 x (h.mem_iff.2 hx), fun x hx => h2 x (h.mem_iff.2 hx), hn.1 h3⟩
  · rintro ⟨h1, h2, h3⟩
    exact ⟨fun x hx => h1 x (h.mem_iff.1 hx), fun x hx => h2 x (h.mem_iff.1 hx), hn.2 h3⟩
theorem P0_perm {l l' : List T} (h : l.Perm l') : P0 l = P0 l' := Ri.ext (P0_rise l) (P0_rise l') fun x => by
  rw [mem_P0, mem_P0]; exact (h.map aN).mem_iff
theorem to_perm (lk : T → ByteArray → ByteArray × ByteArray) {l l' : List T} (h : l.Perm l') : toOf (lnsL lk (P0 l) l) = toOf (lnsL lk (P0 l') l') := by
  funext s
  refine Ri.ext (to_rise _ s) (to_rise _ s) fun x => ?_
  rw [mem_to, mem_to, mem_lns, mem_lns, P0_perm h]
  constructor
  · rintro ⟨a, ha, r⟩; exact ⟨a, h.mem_iff.1 ha, r⟩
  · rintro ⟨a, ha, r⟩; exact ⟨a, h.mem_iff.2 ha, r⟩
theorem ordL_perm (lk : T → ByteArray → ByteArray × ByteArray) {l l' : List T} (h : l.Perm l') (hn : (nmsA l).Nodup) : ordL lk l = ordL lk l' := by
  have e : ordN lk l = ordN lk l' := by unfold ordN; rw [to_perm lk h, P0_perm h]
  unfold ordL
  rw [← e]
  refine List.map_congr_left fun s hs => ?_
  have hm := mem_P0.1 ((ordN_ok lk l).sub s hs)
  obtain ⟨h1, h2⟩ := byN_mem hm
  have h3 := byN_of ((h.map aN).nodup_iff.1 hn) (h.mem_iff.1 h1)
  rw [h2] at h3
  exact h3.symm
theorem act_perm {l l' : List T} (h : l.Perm l') : actE l = actE l' ∧ actL l = actL l' := by
  unfold actE actL
  rw [← mayF_perm h]
  cases hm : mayF [] l with
  | false => exact ⟨rfl, rfl⟩
  | true =>
    have hn : (nmsA l).Nodup := ((mayF_iff l []).1 hm).2.2
    have e : ordA l = ordA l' := by
      unfold ordA
      rw [ordL_perm lk1 (l := goneL l) (l' := goneL l') (h.filter _) (gone_nodup hn), ordL_perm lk2 (l := madeL l) (l' := madeL l') (h.filter _) (made_nodup hn)]
    rw [e, h.length_eq]
    exact ⟨rfl, rfl⟩
theorem ordL_at {lk : T → ByteArray → ByteArray × ByteArray} {l : List T} {i : Nat} (h : i < (ordL lk l).length) : aN (ordL lk l)[i] = (ordN lk l)[i]'(by rw [← ordL_nms]; unfold nmsA; rw [List.length_map]; exact h) := by
  have e := ordL_nms lk l
  have h2 : i < (nmsA (ordL lk l)).length := by unfold nmsA; rw [List.length_map]; exact h
  have : (nmsA (ordL lk l))[i] = aN (ordL lk l)[i] := List.getElem_map ..
  rw [← this]
  congr 1
theorem none_early {lk : T → ByteArray → ByteArray × ByteArray} {l : List T} (H : ∀ a ∈ l, ∀ y, y ∈ toOf (lnsL lk (P0 l) l) (aN a) ↔ ∃ b ∈ l, relA a b = true ∧ aN b = y) {i k : Nat} (hi : i < (ordL lk l).length) (hk : k < (ordL lk l).length) (hik : i < k) : relA (ordL lk l)[i] (ordL lk l)[k] = false := by
  cases hr : relA (ordL lk l)[i] (ordL lk l)[k] with
  | false => rfl
  | true =>
    have ok := ordN_ok lk l
    have hmi := ordL_mem (List.getElem_mem hi)
    have hmk := ordL_mem (List.getElem_mem hk)
    have hy := (H _ hmi (aN (ordL lk l)[k])).2 ⟨_, hmk, hr, rfl⟩
    rw [ordL_at hi, ordL_at hk] at hy
    have := ok.ahead i _ _ hy
    obtain ⟨j, hj, e⟩ := List.getElem_of_mem this
    rw [List.length_take] at hj
    rw [List.getElem_take] at e
    have := (List.getElem_inj ok.nodup).1 e
    omega
theorem badA_rel (a b : T) (after : Bool) : badA a b after = ((decide (aK a = 1) == decide (aK b = 1)) && (after && relA a b)) := by
  unfold badA relA
  by_cases h1 : aK a = 1 <;> by_cases h2 : aK b = 1 <;> simp [h1, h2]
theorem gone_K {l : List T} {x : T} (h : x ∈ ordL lk1 (goneL l)) : aK x = 1 := (gone_mem.1 (ordL_mem h)).2
theorem made_K {l : List T} {x : T} (h : x ∈ ordL lk2 (madeL l)) : aK x ≠ 1 := (made_mem.1 (ordL_mem h)).2
theorem bad_no {l : List T} (hn : (nmsA l).Nodup) (i k : Nat) (hi : i < (ordA l).length) (hk : k < (ordA l).length) : badI (ordA l) i k = false := by
  unfold badI
  rw [at_get hi, at_get hk, badA_rel]
  have side : ∀ (j : Nat) (hj : j < (ordA l).length), (∃ h : j < (ordL lk1 (goneL l)).length, (ordA l)[j] = (ordL lk1 (goneL l))[j]) ∨ (∃ h : j - (ordL lk1 (goneL l)).length < (ordL lk2 (madeL l)).length, (ordL lk1 (goneL l)).length ≤ j ∧ (ordA l)[j] = (ordL lk2 (madeL l))[j - (ordL lk1 (goneL l)).length]) := by
    intro j hj
    by_cases h : j < (ordL lk1 (goneL l)).length
    · exact .inl ⟨h, List.getElem_append_left h⟩
    · have h2 : j < (ordL lk1 (goneL l) ++ ordL lk2 (madeL l)).length := hj
      rw [List.length_append] at h2
      exact .inr ⟨by omega, by omega, List.getElem_append_right (by omega)⟩
  have H1 : ∀ a ∈ goneL l, ∀ y, y ∈ toOf (lnsL lk1 (P0 (goneL l)) (goneL l)) (aN a) ↔ ∃ b ∈ goneL l, relA a b = true ∧ aN b = y := fun a ha y => to1 (fun x hx => (gone_mem.1 hx).2) ha
  have H2 : ∀ a ∈ madeL l, ∀ y, y ∈ toOf (lnsL lk2 (P0 (madeL l)) (madeL l)) (aN a) ↔ ∃ b ∈ madeL l, relA a b = true ∧ aN b = y := fun a ha y => to2 (fun x hx => (made_mem.1 hx).2) ha (made_nodup hn)
  rcases side i hi with ⟨a1, e1⟩ | ⟨a1, b1, e1⟩ <;> rcases side k hk with ⟨a2, e2⟩ | ⟨a2, b2, e2⟩ <;> rw [e1, e2]
  · have k1 := gone_K (List.getElem_mem a1)
    have k2 := gone_K (List.getElem_mem a2)
    by_cases hik : i < k
    · rw [none_early H1 a1 a2 hik]; simp [k1, k2]
    · simp [k1, k2, hik]
  · have k1 := gone_K (List.getElem_mem a1)
    have k2 := made_K (List.getElem_mem a2)
    have : ¬ k < i := by omega
    simp [k1, k2, this]
  · have k1 := made_K (List.getElem_mem a1)
    have k2 := gone_K (List.getElem_mem a2)
    simp [k1, k2]
  · have k1 := made_K (List.getElem_mem a1)
    have k2 := made_K (List.getElem_mem a2)
    by_cases hik : i < k
    · rw [none_early H2 a1 a2 (by omega)]; simp [k1, k2]
    · simp [k1, k2, hik]
theorem own_K (x : T) : aK (ownT x) = aK x := rfl
theorem own_N (x : T) : aN (ownT x) = aN x := rfl
theorem own_dp (x : T) : dp (ownT x) = dp x := rfl
theorem early_no {l : List T} (hn : (nmsA l).Nodup) : earA ((ordA l).map ownT) = -1 := by
  refine earF_none _ _ fun i hi => ?_
  rw [List.length_map] at hi
  unfold earlyI
  rw [List.any_eq_false]
  intro k hk
  rw [List.mem_range, List.length_map] at hk
  have h := bad_no hn i k (by omega) hk
  unfold badI at h ⊢
  rw [at_get (by rw [List.length_map]; omega), at_get (by rw [List.length_map]; exact hk), List.getElem_map, List.getElem_map]
  rw [at_get (by omega), at_get hk] at h
  have e : ∀ a b c, badA (ownT a) (ownT b) c = badA a b c := fun a b c => rfl
  rw [own_K, own_K, e, h]
  simp
end Go.Proofs.YtjnbggianlgjiaaDoorOH
namespace Go.Proofs.YtjnbggianlgjiaaDoorOH
open Go Go.Proofs.YtjnbggianlgjiaaDoorVM
set_option linter.unusedVariables false
set_option linter.unusedSimpArgs false
set_option maxRecDepth 100000

theorem acts_of {t : T} (h : TOk Tryd.prog 22 t) : ∀ x ∈ t.kids, Tx x := by
  obtain ⟨l, rfl, _, hl⟩ := TOk.row_of Tryd.underlying22 h
  intro x hx
  obtain ⟨xs, rfl, hxs⟩ := TOk.struct_of (fs := [(3, 1), (39, 3)]) (by kernel_rfl) (hl x hx)
  match xs, hxs with
  | [k, th], ⟨_, h2, _⟩ =>
    obtain ⟨ys, rfl, hys⟩ := TOk.struct_of (fs := [(9, 1), (36, 1), (37, 1)]) (by kernel_rfl) h2
    match ys, hys with
    | [n, v, d], ⟨_, _, h3, _⟩ =>
      obtain ⟨ds, rfl, _, hds⟩ := TOk.row_of Tryd.underlying37 h3
      show ds = tl (ds.map T.txt)
      unfold tl
      rw [List.map_map]
      refine (List.map_id ds).symm.trans (List.map_congr_left fun s hs => ?_)
      obtain ⟨b, rfl, _⟩ := TOk.str_of Tryd.underlying9 (hds s hs)
      rfl
theorem pearly_loop {l : List T} (hl : l.length ≤ 12) (ha : ∀ x ∈ l, Ac x) (ht : ∀ x ∈ l, Tx x) (hn : (nmsA l).Nodup) : ∀ (k j : Nat), j + k = l.length →
    ∃ R, Dz i_slices_IndexFunc_Action_Early1 (some p_slices_IndexFunc_Action_Early1_c1) [A.t (T.node l), A.t (T.int (l.length : Nat)), A.t (T.int j), A.t (T.node l)] R ∧ ((R = (2, [A.t (T.node l)]) ∧ earF l k j = -1) ∨ ∃ i : Nat, R = (1, [A.t (T.int i), A.t (T.node l)]) ∧ earF l k j = (i : Nat)) := by
  intro k
  induction k with
  | zero =>
    intro j hj
    refine ⟨_, Does.now fun m => ?_, .inl ⟨rfl, rfl⟩⟩
    rw [q_slices_IndexFunc_Action_Early1_c1]
    simp only [S0, S9, S1, S2, if_true, if_false]
    rw [if_neg (by omega)]
  | succ k ih =>
    intro j hj
    have hlt : j < l.length := by omega
    have hw : IntKind.i64.wrap ((j : Int) + 1) = ((j + 1 : Nat) : Int) := i64succ (by omega)
    have d1 := early1_does hl ha ht hn hlt
    unfold earF
    cases hb : earlyI l j with
    | true =>
      rw [hb] at d1
      obtain ⟨n0, h0⟩ := d1
      refine ⟨_, Does.of n0 fun m hm => ?_, .inr ⟨j, rfl, rfl⟩⟩
      have q1 := h0 m hm
      rw [q_slices_IndexFunc_Action_Early1_c1]
      simp only [S0, S9, S1, S2, if_true, if_false, at_get hlt, q1]
      rw [if_pos (by omega), if_pos (by omega)]
    | false =>
      rw [hb] at d1
      obtain ⟨R, d2, h2⟩ := ih (j + 1) (by omega)
      obtain ⟨n0, h0⟩ := d1.both d2
      refine ⟨R, Does.of n0 fun m hm => ?_, h2⟩
      obtain ⟨q1, q2⟩ := h0 m hm
      rw [q_slices_IndexFunc_Action_Early1_c1]
      simp only [S0, S9, S1, S2, if_true, if_false, at_get hlt, hw, q1, Bool.false_eq_true]
      rw [if_pos (by omega), if_pos (by omega)]
      exact q2
theorem pearly_does {l : List T} (hl : l.length ≤ 12) (ha : ∀ x ∈ l, Ac x) (ht : ∀ x ∈ l, Tx x) (hn : (nmsA l).Nodup) : Dz i_order_Early none [A.t (T.node l)] (1, [A.t (T.int (earA l))]) := by
  obtain ⟨R, ⟨n0, h0⟩, h⟩ := pearly_loop hl ha ht hn l.length 0 (by omega)
  have hx : Dz i_slices_IndexFunc_Action_Early1 none [A.t (T.node l), A.t (T.node l)] (1, [A.t (T.int (earA l)), A.t (T.node l)]) := by
    refine Does.of n0 fun m hm => ?_
    have q : den Tryd.prog G0 ents m i_slices_IndexFunc_Action_Early1 (some p_slices_IndexFunc_Action_Early1_c1) [A.t (T.node l), A.t (T.int (l.length : Nat)), A.t (T.int 0), A.t (T.node l)] = _ := h0 m hm
    rw [q_slices_IndexFunc_Action_Early1]
    unfold earA
    rcases h with ⟨rfl, e⟩ | ⟨i, rfl, e⟩ <;> rw [e] <;> simp only [S0, S9, S1, S2, if_true, if_false, q]
  obtain ⟨n1, h1⟩ := hx
  refine Does.of n1 fun m hm => ?_
  have q := h1 m hm
  rw [q_order_Early]
  simp only [S0, S9, S1, S2, if_true, if_false, q]
theorem rearly2_loop {l : List T} (hl : l.length ≤ 12) (ha : ∀ x ∈ l, Ac x) (ht : ∀ x ∈ l, Tx x) {i : Nat} (hi : i < l.length) : ∀ (k j : Nat), j + k = l.length →
    Dz i_R33_Early (some p_R33_Early_c2) [A.t (T.node l), A.t (T.int i), A.t (T.int j)] (if (List.range' j k).any (badI l i) then (1, [A.t (T.int i)]) else (4, [A.t (T.node l), A.t (T.int i)])) := by
  intro k
  induction k with
  | zero =>
    intro j hj
    refine Does.now fun m => ?_
    rw [q_R33_Early_c2]
    simp only [S0, S9, S1, S2, if_true, if_false]
    rw [if_neg (by omega)]
    rfl
  | succ k ih =>
    intro j hj
    have hlt : j < l.length := by omega
    have hw : IntKind.i64.wrap ((j : Int) + 1) = ((j + 1 : Nat) : Int) := i64succ (by omega)
    have m1 := List.getElem_mem hi
    have m2 := List.getElem_mem hlt
    have b1 := (ha _ m1).dl2
    have b2 := (ha _ m2).dl2
    obtain ⟨n0, h0⟩ := (dp_has l[j] (aN l[i]) (ht _ m2) (by omega)).both (dp_has l[i] (aN l[j]) (ht _ m1) (by omega))
    obtain ⟨n1, h1⟩ := ih (j + 1) (by omega)
    refine Does.of (n0 + n1) fun m hm => ?_
    obtain ⟨q1, q2⟩ := h0 m (by omega)
    have q3 := h1 m (by omega)
    have g1 : (0 : Int) ≤ (i : Int) := by omega
    have g2 : (i : Int) < ((l.length : Nat) : Int) := by omega
    have g3 : (0 : Int) ≤ (j : Int) := by omega
    have g4 : (j : Int) < ((l.length : Nat) : Int) := by omega
    have g5 : ((j : Int) < (i : Int)) ↔ j < i := by omega
    have g6 : ((i : Int) < (j : Int)) ↔ i < j := by omega
    have e : badI l i j = ((decide (aK l[i] = 1) && (!decide (aK l[j] = 1) && decide (j < i))) || (if aK l[i] = 1 then (if aK l[j] = 1 then decide (i < j) && hasB (aN l[i]) (dp l[j]) else false) else (if aK l[j] = 1 then false else decide (i < j) && hasB (aN l[j]) (dp l[i])))) := by
      unfold badI badA
      rw [at_get hi, at_get hlt]
    rw [q_R33_Early_c2, List.range'_succ, List.any_cons, e]
    generalize (List.range' (j + 1) k).any (badI l i) = B at q3 ⊢
    simp only [S0, S9, S1, S2, if_true, if_false, at_get hlt, at_get hi, S6, hw, q1, q2, g1, g2, g3, g4, and_self]
    by_cases k1 : aK l[i] = 1 <;> by_cases k2 : aK l[j] = 1 <;> by_cases c1 : j < i <;> by_cases c2 : i < j <;> simp only [k1, k2, g5, g6, c1, c2, decide_true, decide_false, if_true, if_false, Bool.not_true, Bool.not_false, Bool.true_and, Bool.false_and, Bool.and_true, Bool.and_false, Bool.or_false, Bool.false_or, Bool.true_or, beq_self_eq_true, true_and, false_and, and_false, and_true, or_false, false_or, true_or, or_true, not_true_eq_false, not_false_eq_true, Bool.false_eq_true, Bool.true_eq_false, reduceCtorEq, eq_self_iff_true] <;> first | exact q3 | (cases hasB (aN l[i]) (dp l[j]) <;> simp <;> exact q3) | (cases hasB (aN l[j]) (dp l[i]) <;> simp <;> exact q3) | (simp [k1, k2]; done) | (simp [k1, k2]; exact q3) | (cases hasB (aN l[j]) (dp l[i]) <;> simp [k1, k2] <;> exact q3) | (cases hasB (aN l[i]) (dp l[j]) <;> simp [k1, k2] <;> exact q3) | (exfalso; omega)
theorem range_any (l : List T) (i : Nat) : (List.range' 0 l.length).any (badI l i) = earlyI l i := by
  unfold earlyI
  rw [List.range_eq_range']
theorem rearly1_loop {l : List T} (hl : l.length ≤ 12) (ha : ∀ x ∈ l, Ac x) (ht : ∀ x ∈ l, Tx x) : ∀ (k j : Nat), j + k = l.length →
    ∃ R, Dz i_R33_Early (some p_R33_Early_c1) [A.t (T.node l), A.t (T.int j)] R ∧ ((R = (2, []) ∧ earF l k j = -1) ∨ ∃ i : Nat, R = (1, [A.t (T.int i)]) ∧ earF l k j = (i : Nat)) := by
  intro k
  induction k with
  | zero =>
    intro j hj
    refine ⟨_, Does.now fun m => ?_, .inl ⟨rfl, rfl⟩⟩
    rw [q_R33_Early_c1]
    simp only [S0, S9, S1, S2, if_true, if_false]
    rw [if_neg (by omega)]
  | succ k ih =>
    intro j hj
    have hlt : j < l.length := by omega
    have hw : IntKind.i64.wrap ((j : Int) + 1) = ((j + 1 : Nat) : Int) := i64succ (by omega)
    have d1 := rearly2_loop hl ha ht hlt l.length 0 (by omega)
    rw [range_any] at d1
    unfold earF
    cases hb : earlyI l j with
    | true =>
      rw [hb] at d1
      obtain ⟨n0, h0⟩ := d1
      refine ⟨_, Does.of n0 fun m hm => ?_, .inr ⟨j, rfl, rfl⟩⟩
      have q1 : den Tryd.prog G0 ents m i_R33_Early (some p_R33_Early_c2) [A.t (T.node l), A.t (T.int j), A.t (T.int 0)] = some (1, [A.t (T.int j)]) := h0 m hm
      rw [q_R33_Early_c1]
      simp only [S0, S9, S1, S2, if_true, if_false, q1]
      rw [if_pos (by omega)]
    | false =>
      rw [hb] at d1
      obtain ⟨R, d2, h2⟩ := ih (j + 1) (by omega)
      obtain ⟨n0, h0⟩ := d1.both d2
      refine ⟨R, Does.of n0 fun m hm => ?_, h2⟩
      obtain ⟨q1, q2⟩ := h0 m hm
      have q1' : den Tryd.prog G0 ents m i_R33_Early (some p_R33_Early_c2) [A.t (T.node l), A.t (T.int j), A.t (T.int 0)] = some (4, [A.t (T.node l), A.t (T.int j)]) := q1
      rw [q_R33_Early_c1]
      simp only [S0, S9, S1, S2, if_true, if_false, hw, q1', show Nat.beq 4 4 = true from rfl]
      rw [if_pos (by omega)]
      exact q2
theorem rearly_does {l : List T} (hl : l.length ≤ 12) (ha : ∀ x ∈ l, Ac x) (ht : ∀ x ∈ l, Tx x) : Dz i_R33_Early none [A.t (T.node l)] (1, [A.t (T.int (earA l))]) := by
  obtain ⟨R, ⟨n0, h0⟩, h⟩ := rearly1_loop hl ha ht l.length 0 (by omega)
  refine Does.of n0 fun m hm => ?_
  have q : den Tryd.prog G0 ents m i_R33_Early (some p_R33_Early_c1) [A.t (T.node l), A.t (T.int 0)] = _ := h0 m hm
  rw [q_R33_Early]
  unfold earA
  rcases h with ⟨rfl, e⟩ | ⟨i, rfl, e⟩ <;> rw [e] <;> simp only [S0, S9, S1, S2, if_true, if_false, q]
theorem actL_mem {l : List T} {x : T} (h : x ∈ actL l) : x ∈ l := by
  unfold actL at h
  cases hm : mayF [] l with
  | false => rw [hm] at h; cases h
  | true =>
    rw [hm, if_pos rfl] at h
    split at h
    · cases h
    · unfold ordA at h
      rcases List.mem_append.1 h with h | h
      · exact (gone_mem.1 (ordL_mem h)).1
      · exact (made_mem.1 (ordL_mem h)).1
theorem actL_le (l : List T) : (actL l).length ≤ l.length := by
  unfold actL
  split
  · split
    · exact Nat.zero_le _
    · unfold ordA
      rw [List.length_append]
      have h1 := ordL_le lk1 (goneL l)
      have h2 := ordL_le lk2 (madeL l)
      have h3 := two_len l
      omega
  · exact Nat.zero_le _
theorem awake33_does : Dz i_L33_awake none [] (1, [A.t (T.bool true)]) := run_of 100 fun n => by kernel_rfl
end Go.Proofs.YtjnbggianlgjiaaDoorOH
namespace Go.Proofs.YtjnbggianlgjiaaDoorOH
open Go Go.Proofs.YtjnbggianlgjiaaDoorVM
set_option linter.unusedVariables false
set_option linter.unusedSimpArgs false
set_option maxRecDepth 100000

theorem cmpL_same {f : T → T → Int} : ∀ {l : List T}, (∀ x ∈ l, f x x = 0) → cmpL f l l = 0
  | [], _ => rfl
  | x :: l, h => by rw [cmpL_cons, h x List.mem_cons_self, fst_zero]; exact cmpL_same fun y hy => h y (List.mem_cons_of_mem _ hy)
theorem plainC_same (t : T) : plainC t t = 0 := by
  unfold plainC
  simp only [cmpI_zero.2, cmpB_zero.2, cmpF1_zero.2, fst_zero]
theorem cmpV_same : ∀ (d : Nat) (v : T), cmpV d v v = 0
  | 0, v => rfl
  | d + 1, v => by
    rw [cmpV_succ]
    refine cmpL_same fun t _ => ?_
    unfold cmpT
    rw [plainC_same, fst_zero]
    refine cmpL_same fun f _ => ?_
    unfold cmpG
    rw [cmpB_zero.2 rfl, fst_zero]
    exact cmpV_same d (val f)
theorem same29_self {t : T} (h : SmTh t) : Dz i_R29_Same none [A.t (actT t), A.t (actT t)] (1, [A.t (T.bool true)]) := by
  obtain ⟨n0, h0⟩ := (r08same_does (copy_Sm h.v) (copy_Sm h.v)).both (rsameL_does (deps t) (deps t) (by have := h.d; omega))
  refine Does.of n0 fun m hm => ?_
  obtain ⟨q1, q2⟩ := h0 m hm
  rw [decide_eq_true (cmpV_same 20 (copyV 20 (thV t)))] at q1
  rw [show sameL (deps t) (deps t) = true from decide_eq_true rfl] at q2
  have e1 : (actT t).get 0 = .str (nm t) := rfl
  have e2 : (actT t).get 1 = copyV 20 (thV t) := rfl
  have e3 : (actT t).get 2 = .node (deps t) := rfl
  have e4 : seqB (nm t) (nm t) = true := (seqB_iff _ _).2 rfl
  rw [q_R29_Same]
  simp only [S0, S9, S1, S2, if_true, if_false, e1, e2, e3, S3, e4, q1, q2]
theorem own_Ac {x : T} (h : Ac x) : Ac (ownT x) := ⟨⟨copy_Sm h.th.v, h.th.d⟩, h.sz, h.ds⟩
theorem own_Tx {x : T} (h : Tx x) : Tx (ownT x) := h
theorem tmod_at (z : Int) {n : Nat} (h0 : 0 < n) (h : n < 1000000) : ∃ i : Nat, i < n ∧ IntKind.i64.wrap (Int.tmod (IntKind.u64.wrap z) (IntKind.u64.wrap ((n : Nat) : Int))) = (i : Nat) := by
  have e : IntKind.u64.wrap ((n : Nat) : Int) = ((n : Nat) : Int) := by rw [wu64, Nat.mod_eq_of_lt (by omega)]
  have hz : 0 ≤ IntKind.u64.wrap z := by
    simp only [IntKind.wrap, IntKind.bits, IntKind.signed, Bool.false_and]
    simp
    omega
  obtain ⟨k, hk⟩ := Int.eq_ofNat_of_zero_le hz
  rw [e, hk]
  refine ⟨k % n, Nat.mod_lt _ h0, ?_⟩
  have : Int.tmod (k : Int) (n : Int) = ((k % n : Nat) : Int) := rfl
  rw [this, i64nat (by have := Nat.mod_lt k h0; omega)]
theorem mix_loop (l p : List T) (a : List T) (e : Int) : ∀ (k j : Nat) (ml : List T), j + k = ml.length → ml.length ≤ 12 → ml.Perm l →
    ∃ ml', ml'.Perm l ∧ Dz i_L33_OrderHolds (some p_L33_OrderHolds_c1) [A.t (T.node l), A.t (T.node p), A.t (T.int e), A.t (T.int j), A.t (T.node a), A.t (T.node ml)] (2, [A.t (T.node l), A.t (T.node a), A.t (T.int e), A.t (T.node ml')]) := by
  intro k
  induction k with
  | zero =>
    intro j ml hj hl hp
    refine ⟨ml, hp, Does.now fun m => ?_⟩
    rw [q_L33_OrderHolds_c1]
    simp only [S0, S9, S1, S2, if_true, if_false]
    rw [if_neg (by omega)]
  | succ k ih =>
    intro j ml hj hl hp
    have hlt : j < ml.length := by omega
    have hw : IntKind.i64.wrap ((j : Int) + 1) = ((j + 1 : Nat) : Int) := i64succ (by omega)
    have g1 : (0 : Int) ≤ (j : Int) := by omega
    have g2 : (j : Int) < ((ml.length : Nat) : Int) := by omega
    by_cases hpj : j < p.length
    · obtain ⟨i, hi, ei⟩ := tmod_at (tAtD p j).num (n := ml.length) (by omega) (by omega)
      have hp2 := (@List.set_set_perm T ml j i hlt hi).trans hp
      obtain ⟨ml', h1, d⟩ := ih (j + 1) ((ml.set j ml[i]).set i ml[j]) (by rw [List.length_set, List.length_set]; omega) (by rw [List.length_set, List.length_set]; omega) hp2
      obtain ⟨n0, h0⟩ := d
      refine ⟨ml', h1, Does.of n0 fun m hm => ?_⟩
      have q := h0 m hm
      have g3 : (j : Int) < ((p.length : Nat) : Int) := by omega
      have g4 : (0 : Int) ≤ (i : Int) := by omega
      have g5 : (i : Int) < ((ml.length : Nat) : Int) := by omega
      have eu : IntKind.u64.wrap ((ml.length : Nat) : Int) = ((ml.length : Nat) : Int) := by rw [wu64, Nat.mod_eq_of_lt (by omega)]
      have eu2 : (IntKind.u64.wrap ((ml.length : Nat) : Int) != 0) = true := by rw [eu, bne_iff_ne]; omega
      rw [q_L33_OrderHolds_c1]
      simp only [S0, S9, S1, S2, if_true, if_false, at_get hlt, hw, g1, g2, g3, eu2, ei, g4, g5, and_self, Int.toNat_natCast, hlt, hi, at_get hi, List.length_set, decide_true]
      exact q
    · have h0l : 0 < ml.length := by omega
      have hp2 := (@List.set_set_perm T ml j 0 hlt h0l).trans hp
      obtain ⟨ml', h1, d⟩ := ih (j + 1) ((ml.set j ml[0]).set 0 ml[j]) (by rw [List.length_set, List.length_set]; omega) (by rw [List.length_set, List.length_set]; omega) hp2
      obtain ⟨n0, h0⟩ := d
      refine ⟨ml', h1, Does.of n0 fun m hm => ?_⟩
      have q := h0 m hm
      have g3 : ¬ (j : Int) < ((p.length : Nat) : Int) := by omega
      have g5 : (0 : Int) < ((ml.length : Nat) : Int) := by omega
      rw [q_L33_OrderHolds_c1]
      simp only [S0, S9, S1, S2, if_true, if_false, at_get hlt, hw, g1, g2, g3, g5, and_self, Int.toNat_natCast, hlt, h0l, at_get h0l, List.length_set, decide_true]
      exact q
theorem same31h_loop (a b : List T) (hlen : a.length = b.length) (hl : a.length ≤ 1000) (h : ∀ (j : Nat) (h1 : j < a.length) (h2 : j < b.length), aK a[j] = aK b[j] ∧ Dz i_R29_Same none [A.t (a[j].get 1), A.t (b[j].get 1)] (1, [A.t (T.bool true)])) : ∀ (k j : Nat), j + k = a.length →
    Dz i_R31_Same_o (some p_R31_Same_o_c1) [A.t (T.node a), A.t (T.int j), A.t (T.node b)] (2, [A.t (T.node b)]) := by
  intro k
  induction k with
  | zero =>
    intro j hj
    refine Does.now fun m => ?_
    rw [q_R31_Same_o_c1]
    simp only [S0, S9, S1, S2, if_true, if_false]
    rw [if_neg (by omega)]
  | succ k ih =>
    intro j hj
    have hlt : j < a.length := by omega
    have hlt2 : j < b.length := by omega
    have hw : IntKind.i64.wrap ((j : Int) + 1) = ((j + 1 : Nat) : Int) := i64succ (by omega)
    obtain ⟨e1, d1⟩ := h j hlt hlt2
    obtain ⟨n0, h0⟩ := d1.both (ih (j + 1) (by omega))
    refine Does.of n0 fun m hm => ?_
    obtain ⟨q1, q2⟩ := h0 m hm
    have g1 : (0 : Int) ≤ (j : Int) := by omega
    have g2 : (j : Int) < ((a.length : Nat) : Int) := by omega
    have g3 : (j : Int) < ((b.length : Nat) : Int) := by omega
    rw [q_R31_Same_o_c1]
    simp only [S0, S9, S1, S2, if_true, if_false, at_get hlt, at_get hlt2, S6, hw, q1, g1, g2, g3, hlt, hlt2, and_self, Int.toNat_natCast, decide_true, e1, bne_self_eq_false, Bool.not_true, Bool.false_eq_true]
    exact q2
theorem same31h_does (a b : List T) (hlen : a.length = b.length) (hl : a.length ≤ 1000) (h : ∀ (j : Nat) (h1 : j < a.length) (h2 : j < b.length), aK a[j] = aK b[j] ∧ Dz i_R29_Same none [A.t (a[j].get 1), A.t (b[j].get 1)] (1, [A.t (T.bool true)])) : Dz i_R31_Same_o none [A.t (T.node a), A.t (T.node b)] (1, [A.t (T.bool true), A.t (T.node b)]) := by
  obtain ⟨n0, h0⟩ := same31h_loop a b hlen hl h a.length 0 (by omega)
  refine Does.of n0 fun m hm => ?_
  have q : den Tryd.prog G0 ents m i_R31_Same_o (some p_R31_Same_o_c1) [A.t (T.node a), A.t (T.int 0), A.t (T.node b)] = _ := h0 m hm
  rw [q_R31_Same_o]
  simp only [S0, S9, S1, S2, if_true, if_false, hlen, q, bne_self_eq_false, Bool.false_eq_true, show Nat.beq 2 2 = true from rfl]
theorem ordA_nodup {l : List T} (hn : (nmsA l).Nodup) : (nmsA (ordA l)).Nodup := by
  have e : nmsA (ordA l) = ordN lk1 (goneL l) ++ ordN lk2 (madeL l) := by
    unfold ordA
    rw [← ordL_nms lk1 (goneL l), ← ordL_nms lk2 (madeL l)]
    exact List.map_append
  rw [e, List.nodup_append]
  refine ⟨(ordN_ok lk1 (goneL l)).nodup, (ordN_ok lk2 (madeL l)).nodup, fun x hx y hy exy => ?_⟩
  obtain ⟨a1, a2⟩ := byN_mem (mem_P0.1 ((ordN_ok lk1 (goneL l)).sub x hx))
  obtain ⟨b1, b2⟩ := byN_mem (mem_P0.1 ((ordN_ok lk2 (madeL l)).sub y hy))
  have e2 := nms_inj hn (gone_mem.1 a1).1 (made_mem.1 b1).1 (by rw [a2, b2, exy])
  have k1 := (gone_mem.1 a1).2
  have k2 := (made_mem.1 b1).2
  rw [← e2] at k2
  exact k2 k1
theorem law_does (x y : T) (hbig : x.kids.length ≤ 1048576) (hx : ∀ z ∈ x.kids, Tx z) : Dz i_L33_OrderHolds none [A.t x, A.t y] (1, [A.t (T.bool true)]) := by
  obtain ⟨n1, h1⟩ := awake33_does
  obtain ⟨n0, h0⟩ := few33_does x.kids (by omega)
  cases hf : fewL (things x.kids) with
  | false =>
    rw [hf] at h0
    refine Does.of (n0 + n1) fun m hm => ?_
    have q1 := h0 m (by omega)
    have q2 := h1 m (by omega)
    rw [q_L33_OrderHolds]
    simp only [S0, S9, S1, S2, if_true, if_false, q1, q2, Bool.not_false]
  | true =>
    rw [hf] at h0
    obtain ⟨hl, ha⟩ := fewL_ac hf
    generalize hxk : x.kids = l at *
    obtain ⟨ml, hp, d2⟩ := mix_loop l y.kids ((actL l).map ownT) (actE l) l.length 0 l (by omega) hl (List.Perm.refl _)
    have hml : ml.length ≤ 12 := by rw [hp.length_eq]; exact hl
    obtain ⟨p1, p2⟩ := act_perm hp
    have d3 := pact_does hml (fun z hz => ha z (hp.mem_iff.1 hz)) (fun z hz => hx z (hp.mem_iff.1 hz))
    rw [p1, p2] at d3
    have hal := actL_le l
    have d4 := same31h_does ((actL l).map ownT) ((actL l).map ownT) rfl (by rw [List.length_map]; omega) (fun j j1 j2 => by
      rw [List.getElem_map]
      rw [List.length_map] at j1
      exact ⟨rfl, same29_self (ha _ (actL_mem (List.getElem_mem j1))).th⟩)
    obtain ⟨n2, h2⟩ := (pact_does hl ha hx).both d2
    obtain ⟨n3, h3⟩ := d3.both d4
    have hAo : ∀ z ∈ (actL l).map ownT, Ac z := fun z hz => by
      obtain ⟨w, hw, rfl⟩ := List.mem_map.1 hz
      exact own_Ac (ha _ (actL_mem hw))
    have hTo : ∀ z ∈ (actL l).map ownT, Tx z := fun z hz => by
      obtain ⟨w, hw, rfl⟩ := List.mem_map.1 hz
      exact own_Tx (hx _ (actL_mem hw))
    have hlo : ((actL l).map ownT).length ≤ 12 := by rw [List.length_map]; omega
    have hsz : 0 + l.length < 1073741824 := by omega
    by_cases h00 : actE l = 0
    · have hmay : mayF [] l = true := by
        cases hm : mayF [] l with
        | true => rfl
        | false => unfold actE at h00; rw [hm] at h00; simp at h00
      have hn : (nmsA l).Nodup := ((mayF_iff l []).1 hmay).2.2
      have hnl : ¬ (ordA l).length < l.length := fun h => by
        unfold actE at h00
        rw [hmay, if_pos rfl, if_pos h] at h00
        omega
      have eL : actL l = ordA l := by unfold actL; rw [hmay, if_pos rfl, if_neg hnl]
      have elen : (actL l).length = l.length := by rw [eL] at hal ⊢; omega
      have hno : (nmsA ((actL l).map ownT)).Nodup := by
        have e : nmsA ((actL l).map ownT) = nmsA (actL l) := by
          unfold nmsA
          rw [List.map_map]
          exact List.map_congr_left fun z _ => own_N z
        rw [e, eL]
        exact ordA_nodup hn
      have hea : earA ((actL l).map ownT) = -1 := by rw [eL]; exact early_no hn
      have d5 := rearly_does hlo hAo hTo
      have d6 := pearly_does hlo hAo hTo hno
      rw [hea] at d5 d6
      obtain ⟨n5, h5⟩ := d5.both d6
      refine Does.of (n0 + n1 + n2 + n3 + n5) fun m hm => ?_
      have q1 := h0 m (by omega)
      have q2 := h1 m (by omega)
      obtain ⟨q3, q4⟩ := h2 m (by omega)
      obtain ⟨q5, q6⟩ := h3 m (by omega)
      obtain ⟨q7, q8⟩ := h5 m (by omega)
      have q4' : den Tryd.prog G0 ents m i_L33_OrderHolds (some p_L33_OrderHolds_c1) [A.t (T.node l), A.t (T.node y.kids), A.t (T.int (actE l)), A.t (T.int 0), A.t (T.node ((actL l).map ownT)), A.t (T.node l)] = _ := q4
      rw [h00] at q3 q4' q5
      rw [q_L33_OrderHolds]
      simp only [S0, S9, S1, S2, if_true, if_false, hxk, q1, q2, q3, q4', q5, q6, q7, q8, hsz, decide_true, Bool.not_true, Bool.not_false, bne_self_eq_false, Bool.false_eq_true, Bool.true_eq_false, beq_self_eq_true, not_true_eq_false, List.length_map, elen, show Nat.beq 2 2 = true from rfl]
    · refine Does.of (n0 + n1 + n2 + n3) fun m hm => ?_
      have q1 := h0 m (by omega)
      have q2 := h1 m (by omega)
      obtain ⟨q3, q4⟩ := h2 m (by omega)
      obtain ⟨q5, q6⟩ := h3 m (by omega)
      have q4' : den Tryd.prog G0 ents m i_L33_OrderHolds (some p_L33_OrderHolds_c1) [A.t (T.node l), A.t (T.node y.kids), A.t (T.int (actE l)), A.t (T.int 0), A.t (T.node ((actL l).map ownT)), A.t (T.node l)] = _ := q4
      have hb : (actE l != 0) = true := bne_iff_ne.2 h00
      rw [q_L33_OrderHolds]
      simp only [S0, S9, S1, S2, if_true, if_false, hxk, q1, q2, q3, q4', q5, q6, hsz, decide_true, Bool.not_true, Bool.not_false, bne_self_eq_false, Bool.false_eq_true, Bool.true_eq_false, beq_self_eq_true, not_true_eq_false, hb, show Nat.beq 2 2 = true from rfl]
end Go.Proofs.YtjnbggianlgjiaaDoorOH
