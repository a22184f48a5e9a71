/- A law's proof, a part: what the code answers. -/
import Derived.Test.YtoekafpmpopigaaGreatDoorFPA
namespace Go.Proofs.YtoekafpmpopigaaGreatDoorFP
open Go Go.Proofs.YtoekafpmpopigaaGreatDoorVM
set_option linter.unusedVariables false
set_option linter.unusedSimpArgs false
set_option maxRecDepth 100000

theorem nameR_eq (n : Nat) (a : ByteArray) : den Tryz.prog G0 ents (Nat.succ n) i_name_Right none [A.t (T.str a)] = some (1, [A.t (T.bool (nameB a))]) := by kernel_rfl
theorem nameR_does (a : ByteArray) : Dz i_name_Right none [A.t (T.str a)] (1, [A.t (T.bool (nameB a))]) := Does.now fun n => nameR_eq n a
theorem collI (p : Prop) [Decidable p] (b c : Int) : (if p then some ((1 : Nat), [A.t (T.int b)]) else some (1, [A.t (T.int c)])) = some (1, [A.t (T.int (if p then b else c))]) := by split <;> rfl
theorem ansI {b c : Int} (h : b = c) : some ((1 : Nat), [A.t (T.int b)]) = some (1, [A.t (T.int c)]) := by rw [h]
theorem seq_comm (a b : ByteArray) : seqB a b = seqB b a := by
  rw [seq_dec, seq_dec]
  exact decide_eq_decide.2 ⟨Eq.symm, Eq.symm⟩
def wordN (s : ByteArray) : Int := if seqB s ⟨#[97, 110, 121]⟩ = true then 1 else if seqB s ⟨#[98, 111, 111, 108]⟩ = true then 2 else if seqB s ⟨#[99, 111, 109, 112, 117, 116, 101, 100]⟩ = true then 3 else if seqB s ⟨#[102, 97, 108, 115, 101]⟩ = true then 4 else if seqB s ⟨#[105, 110, 116]⟩ = true then 5 else if seqB s ⟨#[110, 111, 110, 101]⟩ = true then 6 else if seqB s ⟨#[114, 101, 115, 111, 117, 114, 99, 101]⟩ = true then 7 else if seqB s ⟨#[115, 116, 114, 105, 110, 103]⟩ = true then 8 else if seqB s ⟨#[116, 114, 117, 101]⟩ = true then 9 else 0
theorem word_does (s : ByteArray) : Dz i_R02_Word none [A.t (T.str s)] (1, [A.t (T.int (wordN s))]) := by
  refine Does.now fun n => ?_
  rw [q_R02_Word]
  simp only [S9, S1, txt_str, Bool.cond_eq_ite, collI]
  rfl
theorem wordN_pos (s : ByteArray) : decide (wordN s > 0) = wordsL.any fun w => seqB w s := by
  simp only [wordsL, List.any_cons, List.any_nil, Bool.or_false]
  rw [seq_comm ⟨#[97, 110, 121]⟩ s, seq_comm ⟨#[98, 111, 111, 108]⟩ s, seq_comm ⟨#[99, 111, 109, 112, 117, 116, 101, 100]⟩ s, seq_comm ⟨#[102, 97, 108, 115, 101]⟩ s, seq_comm ⟨#[105, 110, 116]⟩ s, seq_comm ⟨#[110, 111, 110, 101]⟩ s, seq_comm ⟨#[114, 101, 115, 111, 117, 114, 99, 101]⟩ s, seq_comm ⟨#[115, 116, 114, 105, 110, 103]⟩ s, seq_comm ⟨#[116, 114, 117, 101]⟩ s]
  unfold wordN
  generalize seqB s ⟨#[97, 110, 121]⟩ = b0
  generalize seqB s ⟨#[98, 111, 111, 108]⟩ = b1
  generalize seqB s ⟨#[99, 111, 109, 112, 117, 116, 101, 100]⟩ = b2
  generalize seqB s ⟨#[102, 97, 108, 115, 101]⟩ = b3
  generalize seqB s ⟨#[105, 110, 116]⟩ = b4
  generalize seqB s ⟨#[110, 111, 110, 101]⟩ = b5
  generalize seqB s ⟨#[114, 101, 115, 111, 117, 114, 99, 101]⟩ = b6
  generalize seqB s ⟨#[115, 116, 114, 105, 110, 103]⟩ = b7
  generalize seqB s ⟨#[116, 114, 117, 101]⟩ = b8
  grind
theorem rname_loop (s : ByteArray) (hs : s.size ≤ 1000) : ∀ (k j : Nat), j + k = s.size →
    Dz i_R02_Right (some p_R02_Right_c1) [A.t (T.str s), A.t (T.int j)] (if (s.data.toList.drop j).all inner then (2, []) else (1, [A.t (T.bool false)])) := by
  have hl : s.data.toList.length = s.size := by rw [Array.length_toList]; rfl
  intro k
  induction k with
  | zero =>
    intro j hj
    refine Does.now fun m => ?_
    rw [q_R02_Right_c1, List.drop_of_length_le (by omega)]
    simp only [S0, S9, S1, S2, if_true, if_false]
    rw [if_neg (by omega)]
    rfl
  | succ k ih =>
    intro j hj
    have hlt : j < s.data.toList.length := by omega
    have hw : IntKind.i64.wrap ((j : Int) + 1) = ((j + 1 : Nat) : Int) := i64succ (by omega)
    obtain ⟨n0, h0⟩ := ih (j + 1) (by omega)
    refine Does.of n0 fun m hm => ?_
    have q := h0 m hm
    have hg : Array.getD s.data j (0 : UInt8) = s.data.toList[j] := by
      have : j < s.data.size := by simpa using hlt
      rw [Array.getD, dif_pos this, Array.getInternal_eq_getElem, Array.getElem_toList]
    rw [q_R02_Right_c1, List.drop_eq_getElem_cons hlt, List.all_cons]
    simp only [S0, S9, S1, S2, if_true, if_false, hw, hg, q, Bool.beq_eq_decide_eq, Bool.not_eq_true', Bool.not_eq_false']
    generalize (s.data.toList.drop (j + 1)).all inner = r
    unfold inner small
    generalize hb : (s.data.toList[j]).toNat = b
    rw [if_pos (by omega), if_pos (by omega)]
    have h1 : (((b : Nat) : Int) ≥ 97) = (97 ≤ b) := by apply propext; omega
    have h2 : (((b : Nat) : Int) ≤ 122) = (b ≤ 122) := by apply propext; omega
    have h3 : (((b : Nat) : Int) ≥ 48) = (48 ≤ b) := by apply propext; omega
    have h4 : (((b : Nat) : Int) ≤ 57) = (b ≤ 57) := by apply propext; omega
    have h5 : (((b : Nat) : Int) = 95) = (b = 95) := by apply propext; omega
    have h6 : ((0 : Int) ≤ (j : Int) ∧ (j : Int) < (s.size : Nat)) = True := by apply propext; constructor <;> intro <;> first | trivial | omega
    simp only [h1, h2, h3, h4, h5, h6, if_true]
    by_cases g1 : 97 ≤ b <;> by_cases g2 : b ≤ 122 <;> by_cases g3 : 48 ≤ b <;> by_cases g4 : b ≤ 57 <;> by_cases g5 : b = 95 <;> cases r <;> simp [g1, g2, g3, g4, g5] <;> omega
theorem rname_does (s : ByteArray) : Dz i_R02_Right none [A.t (T.str s)] (1, [A.t (T.bool (nameB s))]) := by
  have hl : s.data.toList.length = s.size := by rw [Array.length_toList]; rfl
  by_cases h16 : s.size ≤ 16
  · obtain ⟨n1, h1⟩ := word_does s
    cases he : s.data.toList with
    | nil =>
      refine Does.now fun m => ?_
      rw [q_R02_Right]
      have h0 : s.size = 0 := by rw [← hl, he]; rfl
      simp only [S0, S9, S1, S2, if_true, if_false, h0, nameB, he, nameL, Bool.and_false]
      rfl
    | cons c l =>
      obtain ⟨n2, h2⟩ := rname_loop s (by omega) (s.size - 1) 1 (by rw [← hl, he]; simp; omega)
      refine Does.of (n1 + n2) fun m hm => ?_
      have q1 := h1 m (by omega)
      have q2 : den Tryz.prog G0 ents m i_R02_Right (some p_R02_Right_c1) [A.t (T.str s), A.t (T.int 1)] = _ := h2 m (by omega)
      have hsz : 0 < s.size := by rw [← hl, he]; simp
      have hg : Array.getD s.data 0 (0 : UInt8) = c := by
        have : 0 < s.data.size := hsz
        have h3 : s.data[0] = s.data.toList[0]'(by omega) := (Array.getElem_toList _).symm
        rw [Array.getD, dif_pos this, Array.getInternal_eq_getElem, h3]
        simp only [he, List.getElem_cons_zero]
      rw [q_R02_Right]
      have hd : s.data.toList.drop 1 = l := by rw [he]; rfl
      rw [hd] at q2
      have hw := wordN_pos s
      simp only [S0, S9, S1, S2, if_true, if_false, q1, q2, hg, nameB, he, nameL, ← hw, Bool.beq_eq_decide_eq]
      unfold small
      generalize wordN s = w
      generalize l.all inner = r
      generalize c.toNat = b
      rw [if_pos (by omega), if_pos (by omega), decide_eq_true h16]
      by_cases hw : w > 0
      · rw [if_neg (by omega), decide_eq_true hw]; rfl
      rw [if_pos hw, if_pos (by omega), decide_eq_false hw]
      by_cases hb1 : 97 ≤ b
      · by_cases hb2 : b ≤ 122
        · rw [if_pos (by omega), if_pos (by omega), if_neg (by omega), decide_eq_true hb1, decide_eq_true hb2]
          cases r <;> rfl
        · rw [if_pos (by omega), if_pos (by omega), if_pos (by omega), decide_eq_true hb1, decide_eq_false hb2]; rfl
      · rw [if_neg (by omega), decide_eq_false hb1]; rfl
  · refine Does.now fun m => ?_
    rw [q_R02_Right]
    simp only [S0, S9, S1, S2, if_true, if_false, nameB, decide_eq_false h16, Bool.false_and]
    repeat (first | rw [if_pos (by omega)] | rw [if_neg (by omega)])
def okAt (l : List T) (j : Nat) : Bool := nameB (nm (tAtD l j)) && (j == 0 || sltB (nm (tAtD l (j - 1))) (nm (tAtD l j)))
def riseFrom (l : List T) : Nat → Nat → Bool
  | 0, _ => true
  | k + 1, j => okAt l j && riseFrom l k (j + 1)
def names (l : List T) : Bool := riseFrom l l.length 0
theorem nle_iff (a b : ByteArray) : (sltB a b || seqB a b) = !sltB b a := by
  rcases slt_tri a b with h | h | h
  · rw [h, slt_asymm h]; rfl
  · rw [h, slt_asymm h, seq_dec]
    have : a ≠ b := fun e => by subst e; rw [slt_irrefl] at h; cases h
    rw [decide_eq_false this]; rfl
  · subst h; rw [slt_irrefl, seq_dec, decide_eq_true rfl]; rfl
theorem rising_loop (l : List T) (hl : l.length ≤ 1000) : ∀ (k j : Nat), j + k = l.length →
    Dz i_lat_rising (some p_lat_rising_c1) [A.t (T.node l), A.t (T.node l), A.t (T.int (l.length : Nat)), A.t (T.int j)] (if riseFrom l k j then (2, []) else (1, [A.t (T.bool false)])) := by
  intro k
  induction k with
  | zero =>
    intro j hj
    refine Does.now fun m => ?_
    rw [q_lat_rising_c1, riseFrom]
    simp only [S0, S9, S1, S2, if_true, if_false]
    rw [if_neg (by omega)]
  | succ k ih =>
    intro j hj
    have hlt : j < l.length := by omega
    have hw : IntKind.i64.wrap ((j : Int) + 1) = ((j + 1 : Nat) : Int) := i64succ (by omega)
    obtain ⟨n0, h0⟩ := (nameR_does (nm (tAtD l j))).both (ih (j + 1) (by omega))
    refine Does.of n0 fun m hm => ?_
    obtain ⟨q1, q2⟩ := h0 m hm
    rw [q_lat_rising_c1, riseFrom]
    simp only [S0, S9, S1, S2, if_true, if_false, nm_eq, q1, q2, hw, Bool.not_eq_false', Bool.not_eq_true']
    rw [if_pos (by omega), if_pos (by omega)]
    cases hb : nameB (nm (tAtD l j)) with
    | false => simp [okAt, hb]
    | true =>
      rw [if_pos rfl]
      by_cases h0 : j = 0
      · subst h0; simp [okAt, hb]
      · have hp : IntKind.i64.wrap ((j : Int) - 1) = ((j - 1 : Nat) : Int) := by rw [w64 (by omega) (by omega)]; omega
        rw [if_pos (by omega)]
        simp only [hp, Int.toNat_natCast]
        rw [if_pos (by omega)]
        have hj0 : (j == 0) = false := by simp [h0]
        have hn := nle_iff (nm (tAtD l j)) (nm (tAtD l (j - 1)))
        have hok : okAt l j = sltB (nm (tAtD l (j - 1))) (nm (tAtD l j)) := by rw [okAt, hb, hj0]; rfl
        rw [hok]
        simp only [← Bool.or_eq_true, hn]
        cases sltB (nm (tAtD l (j - 1))) (nm (tAtD l j)) <;> simp
theorem rising_does (l : List T) (hl : l.length ≤ 1000) : Dz i_lat_rising none [A.t (T.node l)] (1, [A.t (T.bool (names l))]) := by
  obtain ⟨n0, h0⟩ := rising_loop l hl l.length 0 (by omega)
  refine Does.of n0 fun m hm => ?_
  have q : den Tryz.prog G0 ents m i_lat_rising (some p_lat_rising_c1) [A.t (T.node l), A.t (T.node l), A.t (T.int (l.length : Nat)), A.t (T.int 0)] = _ := h0 m hm
  rw [q_lat_rising]
  unfold names
  simp only [S0, S9, S1, S2, if_true, if_false, q]
  cases riseFrom l l.length 0 <;> rfl
theorem rrising_loop (l : List T) (hl : l.length ≤ 1000) : ∀ (k j : Nat), j + k = l.length →
    Dz i_R02_Rising_o (some p_R02_Rising_o_c1) [A.t (T.int j), A.t (T.node (l.map fun f => T.str (nm f)))] (if riseFrom l k j then (2, [A.t (T.node (l.map fun f => T.str (nm f)))]) else (1, [A.t (T.bool false), A.t (T.node (l.map fun f => T.str (nm f)))])) := by
  have hat : ∀ j, j < l.length → tAtD (l.map fun f => T.str (nm f)) j = T.str (nm (tAtD l j)) := fun j hj => by
    rw [at_get (by simpa using hj), at_get hj, List.getElem_map]
  intro k
  induction k with
  | zero =>
    intro j hj
    refine Does.now fun m => ?_
    rw [q_R02_Rising_o_c1, riseFrom]
    simp only [S0, S9, S1, S2, if_true, if_false, List.length_map]
    rw [if_neg (by omega)]
  | succ k ih =>
    intro j hj
    have hlt : j < l.length := by omega
    have hw : IntKind.i64.wrap ((j : Int) + 1) = ((j + 1 : Nat) : Int) := i64succ (by omega)
    obtain ⟨n0, h0⟩ := (rname_does (nm (tAtD l j))).both (ih (j + 1) (by omega))
    refine Does.of n0 fun m hm => ?_
    obtain ⟨q1, q2⟩ := h0 m hm
    rw [q_R02_Rising_o_c1, riseFrom]
    simp only [S0, S9, S1, S2, if_true, if_false, List.length_map, hat j hlt, q1, q2, hw, Bool.not_eq_false', Bool.not_eq_true']
    rw [if_pos (by omega), if_pos (by omega), if_pos (by omega)]
    cases hb : nameB (nm (tAtD l j)) with
    | false => simp [okAt, hb]
    | true =>
      rw [if_pos rfl]
      by_cases h0 : j = 0
      · subst h0; simp [okAt, hb]
      · have hp : IntKind.i64.wrap ((j : Int) - 1) = ((j - 1 : Nat) : Int) := by rw [w64 (by omega) (by omega)]; omega
        rw [if_pos (by omega)]
        simp only [hp, Int.toNat_natCast, hat (j - 1) (by omega), txt_str]
        rw [if_pos (by omega), if_pos (by omega), if_pos (by omega), if_pos (by omega)]
        have hj0 : (j == 0) = false := by simp [h0]
        have hok : okAt l j = sltB (nm (tAtD l (j - 1))) (nm (tAtD l j)) := by rw [okAt, hb, hj0]; rfl
        rw [hok]
        cases sltB (nm (tAtD l (j - 1))) (nm (tAtD l j)) <;> simp
theorem rnames_loop (l : List T) (hl : l.length ≤ 1000) : ∀ (k j : Nat), j + k = l.length →
    Dz i_R09_names (some p_R09_names_c1) [A.t (T.node l), A.t (T.int j), A.t (T.node ((l.take j).map fun f => T.str (nm f)))] (2, [A.t (T.node (l.map fun f => T.str (nm f)))]) := by
  intro k
  induction k with
  | zero =>
    intro j hj
    refine Does.now fun m => ?_
    rw [q_R09_names_c1, List.take_of_length_le (by omega)]
    simp only [S0, S9, S1, S2, if_true, if_false]
    rw [if_neg (by omega)]
  | succ k ih =>
    intro j hj
    have hlt : j < l.length := by omega
    have hw : IntKind.i64.wrap ((j : Int) + 1) = ((j + 1 : Nat) : Int) := i64succ (by omega)
    have ht : (l.take (j + 1)).map (fun f => T.str (nm f)) = (l.take j).map (fun f => T.str (nm f)) ++ [T.str (nm (tAtD l j))] := by
      rw [at_get hlt, List.take_add_one, List.getElem?_eq_getElem hlt, List.map_append]; rfl
    obtain ⟨n0, h0⟩ := ih (j + 1) (by omega)
    refine Does.of n0 fun m hm => ?_
    have q2 := h0 m hm
    rw [ht] at q2
    rw [q_R09_names_c1]
    simp only [S0, S9, S1, S2, if_true, if_false, List.length_map, nm_eq, hw, q2, List.length_take]
    rw [if_pos (by omega), if_pos (by omega), if_pos (by omega)]
theorem rnames_does (l : List T) (hl : l.length ≤ 1000) : Dz i_R09_names none [A.t (T.node l)] (1, [A.t (T.bool (names l))]) := by
  have hr : Dz i_R02_Rising_o none [A.t (T.node (l.map fun f => T.str (nm f)))] (1, [A.t (T.bool (names l)), A.t (T.node (l.map fun f => T.str (nm f)))]) := by
    obtain ⟨n0, h0⟩ := rrising_loop l hl l.length 0 (by omega)
    refine Does.of n0 fun m hm => ?_
    have q : den Tryz.prog G0 ents m i_R02_Rising_o (some p_R02_Rising_o_c1) [A.t (T.int 0), A.t (T.node (l.map fun f => T.str (nm f)))] = _ := h0 m hm
    rw [q_R02_Rising_o]
    unfold names
    simp only [S0, S9, S1, S2, if_true, if_false, q]
    cases riseFrom l l.length 0 <;> rfl
  obtain ⟨n0, h0⟩ := (rnames_loop l hl l.length 0 (by omega)).both hr
  refine Does.of n0 fun m hm => ?_
  obtain ⟨q1, q2⟩ := h0 m hm
  have q1' : den Tryz.prog G0 ents m i_R09_names (some p_R09_names_c1) [A.t (T.node l), A.t (T.int 0), A.t (T.node [])] = _ := q1
  rw [q_R09_names]
  simp only [S0, S9, S1, S2, if_true, if_false, q1', q2]
end Go.Proofs.YtoekafpmpopigaaGreatDoorFP
namespace Go.Proofs.YtoekafpmpopigaaGreatDoorFP
open Go Go.Proofs.YtoekafpmpopigaaGreatDoorVM
set_option linter.unusedVariables false
set_option linter.unusedSimpArgs false
set_option maxRecDepth 100000

def findF : List T → ByteArray → Nat → Int
  | [], _, _ => -1
  | f :: l, s, j => if nm f = s then j else findF l s (j + 1)
def Rise (l : List T) : Prop := ∀ i j, i < j → j < l.length → sltB (nm (tAtD l i)) (nm (tAtD l j)) = true
theorem bl_trans : ∀ l m o : List UInt8, Op.bytesLess l m = true → Op.bytesLess m o = true → Op.bytesLess l o = true
  | l, [], o, h, _ => by cases l <;> simp [Op.bytesLess] at h
  | l, _ :: _, [], _, h => by simp [Op.bytesLess] at h
  | [], _ :: _, _ :: _, _, _ => rfl
  | a :: l, b :: m, c :: o, h1, h2 => by
    simp only [Op.bytesLess, Bool.or_eq_true, decide_eq_true_eq, Bool.and_eq_true, beq_iff_eq] at h1 h2 ⊢
    rcases h1 with h1 | ⟨rfl, h1⟩
    · rcases h2 with h2 | ⟨rfl, h2⟩
      · exact .inl (UInt8.lt_trans h1 h2)
      · exact .inl h1
    · rcases h2 with h2 | ⟨rfl, h2⟩
      · exact .inl h2
      · exact .inr ⟨rfl, bl_trans l m o h1 h2⟩
theorem slt_trans {a b c : ByteArray} (h1 : sltB a b = true) (h2 : sltB b c = true) : sltB a c = true := bl_trans _ _ _ h1 h2
theorem names_rise {l : List T} (h : names l = true) : Rise l := by
  have hf : ∀ (k j : Nat), riseFrom l k j = true → ∀ i, j ≤ i → i < j + k → okAt l i = true := by
    intro k
    induction k with
    | zero => intro j _ i h1 h2; omega
    | succ k ih =>
      intro j hj i h1 h2
      rw [riseFrom, Bool.and_eq_true] at hj
      rcases Nat.eq_or_lt_of_le h1 with rfl | h3
      · exact hj.1
      · exact ih (j + 1) hj.2 i h3 (by omega)
  have hstep : ∀ i, i + 1 < l.length → sltB (nm (tAtD l i)) (nm (tAtD l (i + 1))) = true := by
    intro i hi
    have := hf _ _ h (i + 1) (by omega) (by omega)
    unfold okAt at this
    simpa using (Bool.and_eq_true_iff.1 this).2
  intro i j hij
  induction j with
  | zero => omega
  | succ j ih =>
    intro hj
    rcases Nat.lt_or_ge i j with h1 | h1
    · exact slt_trans (ih h1 (by omega)) (hstep j hj)
    · have : i = j := by omega
      subst this
      exact hstep i hj
theorem findF_le (l : List T) (s : ByteArray) : ∀ j : Nat, -1 ≤ findF l s j ∧ findF l s j < j + l.length := by
  induction l with
  | nil => intro j; simp [findF]; omega
  | cons f l ih =>
    intro j
    rw [findF]
    have := ih (j + 1)
    simp only [List.length_cons]
    split <;> omega
theorem findF_at {l : List T} {s : ByteArray} : ∀ (i j : Nat), (∀ k, k < i → nm (tAtD l k) ≠ s) → i < l.length → nm (tAtD l i) = s → findF l s j = (j + i : Nat) := by
  induction l with
  | nil => intro i j _ h; simp at h
  | cons f l ih =>
    intro i j h1 h2 h3
    rw [findF]
    cases i with
    | zero => exact if_pos h3
    | succ i =>
      refine (if_neg (h1 0 (by omega))).trans ?_
      rw [ih i (j + 1) (fun k hk => h1 (k + 1) (by omega)) (by simpa using h2) h3]
      omega
theorem findF_no {l : List T} {s : ByteArray} : ∀ (j : Nat), (∀ k, k < l.length → nm (tAtD l k) ≠ s) → findF l s j = -1 := by
  induction l with
  | nil => intro j _; rfl
  | cons f l ih =>
    intro j h
    rw [findF]
    refine (if_neg (h 0 (by simp))).trans ?_
    rw [ih (j + 1) (fun k hk => h (k + 1) (by simpa using hk))]
theorem rfind_loop (l : List T) (s : ByteArray) (hl : l.length ≤ 1000) : ∀ (k j : Nat), j + k = l.length →
    Dz i_R09_Find (some p_R09_Find_c1) [A.t (T.node l), A.t (T.str s), A.t (T.int j)] (if findF (l.drop j) s j < 0 then (2, []) else (1, [A.t (T.int (findF (l.drop j) s j))])) := by
  intro k
  induction k with
  | zero =>
    intro j hj
    refine Does.now fun m => ?_
    rw [q_R09_Find_c1, List.drop_of_length_le (by omega), findF]
    simp only [S0, S9, S1, S2, if_true, if_false]
    rw [if_neg (by omega), if_pos (by omega)]
  | succ k ih =>
    intro j hj
    have hlt : j < l.length := by omega
    have hw : IntKind.i64.wrap ((j : Int) + 1) = ((j + 1 : Nat) : Int) := i64succ (by omega)
    obtain ⟨n0, h0⟩ := ih (j + 1) (by omega)
    refine Does.of n0 fun m hm => ?_
    have q := h0 m hm
    rw [q_R09_Find_c1, List.drop_eq_getElem_cons hlt, findF]
    simp only [S0, S9, S1, S2, if_true, if_false, hw, at_get hlt, nm_eq, q, seq_dec]
    rw [if_pos (by omega), if_pos (by omega)]
    by_cases he : nm l[j] = s
    · rw [if_pos he, if_pos he, if_neg (by omega)]
    · rw [if_neg he, if_neg he]
theorem rfind_does (l : List T) (s : ByteArray) (hl : l.length ≤ 1000) : Dz i_R09_Find none [A.t (T.node l), A.t (T.str s)] (1, [A.t (T.int (findF l s 0))]) := by
  obtain ⟨n0, h0⟩ := rfind_loop l s hl l.length 0 (by omega)
  have hle := findF_le l s 0
  refine Does.of n0 fun m hm => ?_
  have q : den Tryz.prog G0 ents m i_R09_Find (some p_R09_Find_c1) [A.t (T.node l), A.t (T.str s), A.t (T.int 0)] = _ := h0 m hm
  rw [List.drop_zero] at q
  rw [q_R09_Find]
  simp only [S0, S9, S1, S2, if_true, if_false, q]
  by_cases h : findF l s 0 < 0
  · have h1 : findF l s 0 = -1 := by omega
    rw [h1]
    rfl
  · simp only [if_neg h]
    rfl
theorem find1_does (f : T) (s : ByteArray) : Dz i_lat_find_1 none [A.t f, A.t (T.str s)] (1, [A.t (T.int (if sltB (nm f) s then -1 else if nm f = s then 0 else 1))]) := by
  refine Does.now fun m => ?_
  rw [q_lat_find_1]
  simp only [S0, S9, S1, S2, if_true, if_false, nm_eq, seq_dec, neg1, Bool.not_eq_true', Bool.or_eq_false_iff, collI]
  apply ansI
  by_cases h : sltB (nm f) s = true
  · rw [if_pos h, if_pos h]
  · rw [if_neg h, if_neg h]
    by_cases h2 : nm f = s
    · rw [if_pos h2, if_neg (fun e => e.2 h2)]
    · rw [if_neg h2, if_pos ⟨by simpa using h, h2⟩]
theorem mid_eq {i j : Nat} (h : i + j < 4294967296) : IntKind.i64.wrap (Int.fdiv (IntKind.u64.wrap (IntKind.i64.wrap ((i : Int) + (j : Int)))) 2) = (((i + j) / 2 : Nat) : Int) := by
  rw [i64add (by omega), wu64, Nat.mod_eq_of_lt (by omega), show (2 : Int) = ((2 : Nat) : Int) from rfl, fdivN, i64nat (by omega)]
theorem bsearch_loop (l : List T) (s : ByteArray) (hl : l.length ≤ 1000) (hr : Rise l) : ∀ (k i j : Nat), j - i ≤ k → i ≤ j → j ≤ l.length → (∀ x, x < i → sltB (nm (tAtD l x)) s = true) → (∀ x, j ≤ x → x < l.length → sltB (nm (tAtD l x)) s = false) →
    ∃ c : Nat, c ≤ l.length ∧ (∀ x, x < c → sltB (nm (tAtD l x)) s = true) ∧ (∀ x, c ≤ x → x < l.length → sltB (nm (tAtD l x)) s = false) ∧
      Dz i_slices_BinarySearchFunc_Field_find1 (some p_slices_BinarySearchFunc_Field_find1_c1) [A.t (T.node l), A.t (T.str s), A.t (T.int (l.length : Nat)), A.t (T.int i), A.t (T.int j)] (2, [A.t (T.node l), A.t (T.str s), A.t (T.int (l.length : Nat)), A.t (T.int c)]) := by
  intro k
  induction k with
  | zero =>
    intro i j hk hij hj h1 h2
    have : i = j := by omega
    subst this
    refine ⟨i, hj, h1, h2, Does.now fun m => ?_⟩
    rw [q_slices_BinarySearchFunc_Field_find1_c1]
    simp only [S0, S9, S1, S2, if_true, if_false]
    rw [if_neg (by omega)]
  | succ k ih =>
    intro i j hk hij hj h1 h2
    by_cases he : i = j
    · subst he
      refine ⟨i, hj, h1, h2, Does.now fun m => ?_⟩
      rw [q_slices_BinarySearchFunc_Field_find1_c1]
      simp only [S0, S9, S1, S2, if_true, if_false]
      rw [if_neg (by omega)]
    have hmid := @mid_eq i j (by omega)
    have hml : (i + j) / 2 < l.length := by omega
    have hmw : IntKind.i64.wrap ((((i + j) / 2 : Nat) : Int) + 1) = (((i + j) / 2 + 1 : Nat) : Int) := i64succ (by omega)
    cases hs : sltB (nm (tAtD l ((i + j) / 2))) s with
    | true =>
      obtain ⟨c, c1, c2, c3, hc⟩ := ih ((i + j) / 2 + 1) j (by omega) (by omega) hj (fun x hx => by
        rcases Nat.lt_or_ge x ((i + j) / 2) with h | h
        · exact slt_trans (hr _ _ h hml) hs
        · have : x = (i + j) / 2 := by omega
          subst this; exact hs) h2
      refine ⟨c, c1, c2, c3, ?_⟩
      obtain ⟨n0, h0⟩ := (find1_does (tAtD l ((i + j) / 2)) s).both hc
      refine Does.of n0 fun m hm => ?_
      obtain ⟨q1, q2⟩ := h0 m hm
      rw [hs, if_pos rfl] at q1
      rw [q_slices_BinarySearchFunc_Field_find1_c1]
      simp only [S9, S1, num_int, hmid, kids_node, Int.toNat_natCast, txt_str, q1, hmw, q2]
      simp only [S0, S9, S1, S2, if_true, if_false]
      repeat (first | rw [if_pos (by omega)] | rw [if_neg (by omega)])
    | false =>
      obtain ⟨c, c1, c2, c3, hc⟩ := ih i ((i + j) / 2) (by omega) (by omega) (by omega) h1 (fun x hx hx2 => by
        rcases Nat.lt_or_ge ((i + j) / 2) x with h | h
        · cases h3 : sltB (nm (tAtD l x)) s with
          | false => rfl
          | true => rw [slt_trans (hr _ _ h hx2) h3] at hs; cases hs
        · have : x = (i + j) / 2 := by omega
          subst this; exact hs)
      refine ⟨c, c1, c2, c3, ?_⟩
      obtain ⟨n0, h0⟩ := (find1_does (tAtD l ((i + j) / 2)) s).both hc
      refine Does.of n0 fun m hm => ?_
      obtain ⟨q1, q2⟩ := h0 m hm
      rw [hs, if_neg (by simp)] at q1
      rw [q_slices_BinarySearchFunc_Field_find1_c1]
      simp only [S9, S1, num_int, hmid, kids_node, Int.toNat_natCast, txt_str, q1, q2]
      simp only [S0, S9, S1, S2, if_true, if_false]
      have : ¬ ((if nm (tAtD l ((i + j) / 2)) = s then (0 : Int) else 1) < 0) := by split <;> omega
      rw [if_pos (by omega), if_pos (by omega), if_neg this]
theorem lfind_does (l : List T) (s : ByteArray) (hl : l.length ≤ 1000) (hr : Rise l) : Dz i_lat_find none [A.t (T.node l), A.t (T.str s)] (1, [A.t (T.int (findF l s 0))]) := by
  obtain ⟨c, c1, c2, c3, hc⟩ := bsearch_loop l s hl hr l.length 0 l.length (by omega) (by omega) (by omega) (fun x hx => by omega) (fun x h1 h2 => by omega)
  have hne : ∀ x, x < c → nm (tAtD l x) ≠ s := fun x hx e => by have := c2 x hx; rw [e, slt_irrefl] at this; cases this
  have hb : Dz i_slices_BinarySearchFunc_Field_find1 none [A.t (T.node l), A.t (T.str s)] (1, [A.t (T.int c), A.t (T.bool (decide (c < l.length ∧ nm (tAtD l c) = s)))]) := by
    obtain ⟨n0, h0⟩ := hc
    obtain ⟨n1, h1⟩ := find1_does (tAtD l c) s
    refine Does.of (n0 + n1) fun m hm => ?_
    have q : den Tryz.prog G0 ents m i_slices_BinarySearchFunc_Field_find1 (some p_slices_BinarySearchFunc_Field_find1_c1) [A.t (T.node l), A.t (T.str s), A.t (T.int (l.length : Nat)), A.t (T.int 0), A.t (T.int (l.length : Nat))] = _ := h0 m (by omega)
    have q1 := h1 m (by omega)
    rw [q_slices_BinarySearchFunc_Field_find1]
    simp only [S0, S9, S1, S2, if_true, if_false, q, q1]
    by_cases h : c < l.length
    · rw [if_pos (by omega), if_pos (by omega), c3 c (by omega) h]
      by_cases h3 : nm (tAtD l c) = s
      · simp [h, h3]
      · simp [h, h3]
    · rw [if_neg (by omega), decide_eq_false (fun e => h e.1)]
  obtain ⟨n0, h0⟩ := hb
  refine Does.of n0 fun m hm => ?_
  rw [q_lat_find]
  simp only [S0, S9, S1, S2, if_true, if_false, h0 m hm, Bool.not_eq_true', neg1, collI]
  apply ansI
  by_cases h : c < l.length ∧ nm (tAtD l c) = s
  · rw [if_neg (by simpa using h), findF_at c 0 hne h.1 h.2]; simp
  · rw [if_pos (by simpa using h), findF_no]
    intro k hk e
    rcases Nat.lt_or_ge k c with h1 | h1
    · exact hne k h1 e
    · rcases Nat.eq_or_lt_of_le h1 with rfl | h2
      · exact h ⟨hk, e⟩
      · have := hr c k h2 hk
        rw [e] at this
        rw [c3 c (by omega) (by omega)] at this
        cases this
end Go.Proofs.YtoekafpmpopigaaGreatDoorFP
namespace Go.Proofs.YtoekafpmpopigaaGreatDoorFP
open Go Go.Proofs.YtoekafpmpopigaaGreatDoorVM
set_option linter.unusedVariables false
set_option linter.unusedSimpArgs false
set_option maxRecDepth 100000

def lackT (a b : T) : Bool := !op a && (flds b).any fun f => decide (findF (flds a) (nm f) 0 < 0)
def atF (a f : T) : T := val (tAtD (flds a) (findF (flds a) (nm f) 0).toNat)
def fitF (U : T → T → Bool) (a f : T) : Bool := decide (0 ≤ findF (flds a) (nm f) 0) && U (atF a f) (val f)
def belowT (U : T → T → Bool) (a b : T) : Bool :=
  if kd b = 5 then true else if kd a = 4 ∧ kd b = 4 then !(op a && !op b) && !lackT b a && (flds b).all (fitF U a) else belowS a b
def underV : Nat → T → T → Bool
  | 0, _, _ => false
  | d + 1, a, b => (terms a).all fun t => (terms b).any fun u => belowT (underV d) t u
theorem underV_succ (d : Nat) (a b : T) : underV (d + 1) a b = (terms a).all fun t => (terms b).any fun u => belowT (underV d) t u := rfl
def NR : Nat → T → Prop
  | 0, _ => False
  | d + 1, v => ∀ t ∈ terms v, kd t = 4 → Rise (flds t) ∧ ∀ f ∈ flds t, NR d (val f)
def NRt (d : Nat) (t : T) : Prop := kd t = 4 → Rise (flds t) ∧ ∀ f ∈ flds t, NR d (val f)
theorem NR.term {d : Nat} {v t : T} (h : NR (d + 1) v) (ht : t ∈ terms v) : NRt d t := h t ht
theorem drop_any {l : List T} {j : Nat} (h : j < l.length) (p : T → Bool) : (l.drop j).any p = (p l[j] || (l.drop (j + 1)).any p) := by rw [List.drop_eq_getElem_cons h, List.any_cons]
theorem drop_all {l : List T} {j : Nat} (h : j < l.length) (p : T → Bool) : (l.drop j).all p = (p l[j] && (l.drop (j + 1)).all p) := by rw [List.drop_eq_getElem_cons h, List.all_cons]
theorem hasField_does (l : List T) (c : T) (p : T → Bool) (hl : l.length ≤ 1000) (hp : ∀ x ∈ l, Dz i_lat_lacks_1 none [A.t x, A.t c] (1, [A.t (T.bool (p x)), A.t c])) : Dz i_slices_ContainsFunc_Field_lacks1 none [A.t (T.node l), A.t c] (1, [A.t (T.bool (l.any p)), A.t c]) :=
  has1_does q_slices_ContainsFunc_Field_lacks1 q_slices_IndexFunc_Field_lacks1 q_slices_IndexFunc_Field_lacks1_c1 l c p (by omega) hp
theorem hasTerm_does (l : List T) (c : T) (p : T → Bool) (hl : l.length ≤ 1000) (hp : ∀ x ∈ l, Dz i_lat_under_1 none [A.t x, A.t c] (1, [A.t (T.bool (p x)), A.t c])) : Dz i_slices_ContainsFunc_Term_under1 none [A.t (T.node l), A.t c] (1, [A.t (T.bool (l.any p)), A.t c]) :=
  has1_does q_slices_ContainsFunc_Term_under1 q_slices_IndexFunc_Term_under1 q_slices_IndexFunc_Term_under1_c1 l c p (by omega) hp
theorem lacks_does (a b : T) (ha : (flds a).length ≤ 1000) (hb : (flds b).length ≤ 1000) (hr : Rise (flds a)) : Dz i_lat_lacks none [A.t a, A.t b] (1, [A.t (T.bool (lackT a b))]) := by
  have h1 : ∀ x ∈ flds b, Dz i_lat_lacks_1 none [A.t x, A.t a] (1, [A.t (T.bool (decide (findF (flds a) (nm x) 0 < 0))), A.t a]) := by
    intro x _
    obtain ⟨n0, h0⟩ := lfind_does (flds a) (nm x) ha hr
    refine Does.of n0 fun m hm => ?_
    rw [q_lat_lacks_1]
    simp only [S0, S9, S1, S2, if_true, if_false, nm_eq, h0 m hm]
  obtain ⟨n0, h0⟩ := hasField_does (flds b) a _ hb h1
  refine Does.of n0 fun m hm => ?_
  rw [q_lat_lacks, lackT]
  simp only [S0, S9, S1, S2, if_true, if_false, h0 m hm, op_eq]
  cases op a <;> rfl
theorem below_loop (U : T → T → Bool) (a : T) (l : List T) (ha : (flds a).length ≤ 1000) (hl : l.length ≤ 1000) (hr : Rise (flds a)) (hu : ∀ f ∈ flds a, ∀ g ∈ l, Dz i_lat_under none [A.t (val f), A.t (val g)] (1, [A.t (T.bool (U (val f) (val g)))])) : ∀ (k j : Nat), j + k = l.length →
    Dz i_lat_below (some p_lat_below_c1) [A.t (T.node l), A.t (T.int (l.length : Nat)), A.t (T.int j), A.t a] (if (l.drop j).all (fitF U a) then (3, []) else (1, [A.t (T.bool false)])) := by
  intro k
  induction k with
  | zero =>
    intro j hj
    refine Does.now fun m => ?_
    rw [q_lat_below_c1, List.drop_of_length_le (by omega)]
    simp only [S0, S9, S1, S2, if_true, if_false]
    rw [if_neg (by omega)]; rfl
  | succ k ih =>
    intro j hj
    have hlt : j < l.length := by omega
    have hw : IntKind.i64.wrap ((j : Int) + 1) = ((j + 1 : Nat) : Int) := i64succ (by omega)
    have hle := findF_le (flds a) (nm l[j]) 0
    rw [drop_all hlt]
    obtain ⟨n1, h1⟩ := lfind_does (flds a) (nm l[j]) ha hr
    by_cases hneg : findF (flds a) (nm l[j]) 0 < 0
    · refine Does.of n1 fun m hm => ?_
      have hf : fitF U a l[j] = false := by rw [fitF, decide_eq_false (by omega), Bool.false_and]
      rw [q_lat_below_c1]
      simp only [S0, S9, S1, S2, if_true, if_false, at_get hlt, nm_eq, h1 m hm, hf]
      rw [if_pos (by omega), if_pos (by omega), if_neg (by omega)]
      rfl
    · have hk : (findF (flds a) (nm l[j]) 0).toNat < (flds a).length := by omega
      have h2 := hu _ (List.getElem_mem hk) _ (List.getElem_mem hlt)
      have hf : fitF U a l[j] = U (val (flds a)[(findF (flds a) (nm l[j]) 0).toNat]) (val l[j]) := by rw [fitF, decide_eq_true (by omega), Bool.true_and, atF, at_get hk]
      obtain ⟨n2, h2⟩ := h2.both (ih (j + 1) (by omega))
      refine Does.of (n1 + n2) fun m hm => ?_
      obtain ⟨q2, q3⟩ := h2 m (by omega)
      have q1 := h1 m (by omega)
      rw [q_lat_below_c1, hf]
      simp only [S0, S9, S1, S2, if_true, if_false, at_get hlt, at_get hk, nm_eq, val_eq, q1, q2, q3, hw]
      rw [if_pos (by omega), if_pos (by omega), if_pos (by omega), if_pos (by omega)]
      cases U (val (flds a)[(findF (flds a) (nm l[j]) 0).toNat]) (val l[j]) <;> simp
theorem lbelow_does (U : T → T → Bool) (a b : T) (ha : (flds a).length ≤ 1000) (hb : (flds b).length ≤ 1000) (hra : kd a = 4 → Rise (flds a)) (hrb : kd b = 4 → Rise (flds b))
    (hu : kd a = 4 → kd b = 4 → ∀ f ∈ flds a, ∀ g ∈ flds b, Dz i_lat_under none [A.t (val f), A.t (val g)] (1, [A.t (T.bool (U (val f) (val g)))])) : Dz i_lat_below none [A.t a, A.t b] (1, [A.t (T.bool (belowT U a b))]) := by
  by_cases h5 : kd b = 5
  · refine Does.now fun m => ?_
    rw [q_lat_below, belowT, if_pos h5]
    simp only [S0, S9, S1, S2, if_true, if_false, kd_eq, h5]
  by_cases h4 : kd a = 4 ∧ kd b = 4
  · obtain ⟨n1, h1⟩ := lacks_does b a hb ha (hrb h4.2)
    obtain ⟨n2, h2⟩ := below_loop U a (flds b) ha hb (hra h4.1) (hu h4.1 h4.2) (flds b).length 0 (by omega)
    refine Does.of (n1 + n2) fun m hm => ?_
    have q1 := h1 m (by omega)
    have q2 : den Tryz.prog G0 ents m i_lat_below (some p_lat_below_c1) [A.t (T.node (flds b)), A.t (T.int ((flds b).length : Nat)), A.t (T.int 0), A.t a] = _ := h2 m (by omega)
    rw [List.drop_zero] at q2
    rw [q_lat_below, belowT, if_neg h5, if_pos h4]
    simp only [S9, S1, terms_eq, flds_eq, kd_eq, op_eq, h4.1, h4.2, q1, q2]
    cases op a <;> cases op b <;> cases lackT b a <;> cases (flds b).all (fitF U a) <;> rfl
  · obtain ⟨n0, h0⟩ := sbelow_does a b
    refine Does.of n0 fun m hm => ?_
    rw [q_lat_below, belowT, if_neg h5, if_neg h4]
    simp only [S0, S9, S1, S2, if_true, if_false, kd_eq, h0 m hm]
    by_cases h1 : kd a = kd b
    · have : ¬ kd a = 4 := fun e => h4 ⟨e, h1 ▸ e⟩
      simp [h1 ▸ this, h1, h5]
    · simp [h1, h5]
theorem lunder_loop (U : T → T → Bool) (l : List T) (b : T) (hl : l.length ≤ 1000) (hb : (terms b).length ≤ 1000) (hp : ∀ x ∈ l, ∀ y ∈ terms b, Dz i_lat_below none [A.t x, A.t y] (1, [A.t (T.bool (belowT U x y))])) : ∀ (k j : Nat), j + k = l.length →
    Dz i_lat_under (some p_lat_under_c1) [A.t (T.node l), A.t (T.int (l.length : Nat)), A.t (T.int j), A.t b] (if (l.drop j).all (fun t => (terms b).any fun u => belowT U t u) then (2, []) else (1, [A.t (T.bool false)])) := by
  intro k
  induction k with
  | zero =>
    intro j hj
    refine Does.now fun m => ?_
    rw [q_lat_under_c1, List.drop_of_length_le (by omega)]
    simp only [S0, S9, S1, S2, if_true, if_false]
    rw [if_neg (by omega)]; rfl
  | succ k ih =>
    intro j hj
    have hlt : j < l.length := by omega
    have hw : IntKind.i64.wrap ((j : Int) + 1) = ((j + 1 : Nat) : Int) := i64succ (by omega)
    have h1 : ∀ y ∈ terms b, Dz i_lat_under_1 none [A.t y, A.t l[j]] (1, [A.t (T.bool (belowT U l[j] y)), A.t l[j]]) := by
      intro y hy
      obtain ⟨n0, h0⟩ := hp _ (List.getElem_mem hlt) y hy
      refine Does.of n0 fun m hm => ?_
      rw [q_lat_under_1]
      simp only [S0, S9, S1, S2, if_true, if_false, h0 m hm]
    obtain ⟨n0, h0⟩ := (hasTerm_does (terms b) l[j] _ hb h1).both (ih (j + 1) (by omega))
    refine Does.of n0 fun m hm => ?_
    obtain ⟨q1, q2⟩ := h0 m hm
    rw [q_lat_under_c1, drop_all hlt]
    simp only [S0, S9, S1, S2, if_true, if_false, at_get hlt, q1, q2, hw]
    rw [if_pos (by omega), if_pos (by omega)]
    cases (terms b).any fun u => belowT U l[j] u <;> simp
theorem lunder_does : ∀ (d : Nat) (a b : T), Sm d a → Sm d b → NR d a → NR d b → Dz i_lat_under none [A.t a, A.t b] (1, [A.t (T.bool (underV d a b))])
  | 0, a, b, ha, _, _, _ => ha.1.elim
  | d + 1, a, b, ha, hb, na, nb => by
    have la := ha.terms
    have lb := hb.terms
    have hp : ∀ x ∈ terms a, ∀ y ∈ terms b, Dz i_lat_below none [A.t x, A.t y] (1, [A.t (T.bool (belowT (underV d) x y))]) := fun x hx y hy =>
      lbelow_does (underV d) x y (by have := ha.flds hx; omega) (by have := hb.flds hy; omega) (fun h => (na x hx h).1) (fun h => (nb y hy h).1)
        fun h1 h2 f hf g hg => lunder_does d _ _ (ha.sub hx hf) (hb.sub hy hg) ((na x hx h1).2 f hf) ((nb y hy h2).2 g hg)
    obtain ⟨n0, h0⟩ := lunder_loop (underV d) (terms a) b (by omega) (by omega) hp (terms a).length 0 (by omega)
    refine Does.of n0 fun m hm => ?_
    have q : den Tryz.prog G0 ents m i_lat_under (some p_lat_under_c1) [A.t (T.node (terms a)), A.t (T.int ((terms a).length : Nat)), A.t (T.int 0), A.t b] = _ := h0 m hm
    rw [List.drop_zero, ← underV_succ] at q
    rw [q_lat_under]
    simp only [S0, S9, S1, S2, if_true, if_false, q]
    cases underV (d + 1) a b <;> rfl
theorem rlack_loop (a b : T) (ha : (flds a).length ≤ 1000) (hb : (flds b).length ≤ 1000) : ∀ (k j : Nat), j + k = (flds a).length →
    Dz i_R09_under (some p_R09_under_c1) [A.t (T.int j), A.t a, A.t b] (if !op b && ((flds a).drop j).any (fun f => decide (findF (flds b) (nm f) 0 < 0)) then (1, [A.t (T.bool false)]) else (2, [A.t a, A.t b])) := by
  intro k
  induction k with
  | zero =>
    intro j hj
    refine Does.now fun m => ?_
    rw [q_R09_under_c1, List.drop_of_length_le (by omega)]
    simp only [S0, S9, S1, S2, if_true, if_false, op_eq]
    rw [if_neg (by omega)]
    simp
  | succ k ih =>
    intro j hj
    have hlt : j < (flds a).length := by omega
    have hw : IntKind.i64.wrap ((j : Int) + 1) = ((j + 1 : Nat) : Int) := i64succ (by omega)
    obtain ⟨n0, h0⟩ := (rfind_does (flds b) (nm (flds a)[j]) hb).both (ih (j + 1) (by omega))
    refine Does.of n0 fun m hm => ?_
    obtain ⟨q1, q2⟩ := h0 m hm
    rw [q_R09_under_c1, drop_any hlt]
    simp only [S0, S9, S1, S2, if_true, if_false, op_eq, at_get hlt, nm_eq, q1, q2, hw, Bool.not_eq_true']
    rw [if_pos (by omega)]
    cases ho : op b with
    | true => simp
    | false =>
      rw [if_pos rfl, if_pos (by omega)]
      by_cases h : findF (flds b) (nm (flds a)[j]) 0 < 0
      · simp [h]
      · simp [h]
theorem rbelow_loop (U : T → T → Bool) (a b : T) (ha : (flds a).length ≤ 1000) (hb : (flds b).length ≤ 1000) (hu : ∀ f ∈ flds a, ∀ g ∈ flds b, Dz i_R09_Under none [A.t (val f), A.t (val g)] (1, [A.t (T.bool (U (val f) (val g)))])) : ∀ (k j : Nat), j + k = (flds b).length →
    Dz i_R09_under (some p_R09_under_c2) [A.t (T.int j), A.t a, A.t b] (if ((flds b).drop j).all (fitF U a) then (4, []) else (1, [A.t (T.bool false)])) := by
  intro k
  induction k with
  | zero =>
    intro j hj
    refine Does.now fun m => ?_
    rw [q_R09_under_c2, List.drop_of_length_le (by omega)]
    simp only [S0, S9, S1, S2, if_true, if_false]
    rw [if_neg (by omega)]; rfl
  | succ k ih =>
    intro j hj
    have hlt : j < (flds b).length := by omega
    have hw : IntKind.i64.wrap ((j : Int) + 1) = ((j + 1 : Nat) : Int) := i64succ (by omega)
    have hle := findF_le (flds a) (nm (flds b)[j]) 0
    rw [drop_all hlt]
    obtain ⟨n1, h1⟩ := rfind_does (flds a) (nm (flds b)[j]) ha
    by_cases hneg : findF (flds a) (nm (flds b)[j]) 0 < 0
    · refine Does.of n1 fun m hm => ?_
      have hf : fitF U a (flds b)[j] = false := by rw [fitF, decide_eq_false (by omega), Bool.false_and]
      rw [q_R09_under_c2]
      simp only [S0, S9, S1, S2, if_true, if_false, at_get hlt, nm_eq, h1 m hm, hf]
      rw [if_pos (by omega), if_pos (by omega), if_neg (by omega)]
      rfl
    · have hk : (findF (flds a) (nm (flds b)[j]) 0).toNat < (flds a).length := by omega
      have h2 := hu _ (List.getElem_mem hk) _ (List.getElem_mem hlt)
      have hf : fitF U a (flds b)[j] = U (val (flds a)[(findF (flds a) (nm (flds b)[j]) 0).toNat]) (val (flds b)[j]) := by rw [fitF, decide_eq_true (by omega), Bool.true_and, atF, at_get hk]
      obtain ⟨n2, h2⟩ := h2.both (ih (j + 1) (by omega))
      refine Does.of (n1 + n2) fun m hm => ?_
      obtain ⟨q2, q3⟩ := h2 m (by omega)
      have q1 := h1 m (by omega)
      rw [q_R09_under_c2, hf]
      simp only [S0, S9, S1, S2, if_true, if_false, at_get hlt, at_get hk, nm_eq, val_eq, q1, q2, q3, hw]
      rw [if_pos (by omega), if_pos (by omega), if_pos (by omega), if_pos (by omega), if_pos (by omega)]
      cases U (val (flds a)[(findF (flds a) (nm (flds b)[j]) 0).toNat]) (val (flds b)[j]) <;> simp
theorem runder1_does (U : T → T → Bool) (a b : T) (ha : (flds a).length ≤ 1000) (hb : (flds b).length ≤ 1000)
    (hu : kd a = 4 → kd b = 4 → ∀ f ∈ flds a, ∀ g ∈ flds b, Dz i_R09_Under none [A.t (val f), A.t (val g)] (1, [A.t (T.bool (U (val f) (val g)))])) : Dz i_R09_under none [A.t a, A.t b] (1, [A.t (T.bool (belowT U a b))]) := by
  by_cases h5 : kd b = 5
  · refine Does.now fun m => ?_
    rw [q_R09_under, belowT, if_pos h5]
    simp only [S0, S9, S1, S2, if_true, if_false, kd_eq, h5]
  by_cases h4 : kd a = 4 ∧ kd b = 4
  · obtain ⟨n1, h1⟩ := rlack_loop a b ha hb (flds a).length 0 (by omega)
    obtain ⟨n2, h2⟩ := rbelow_loop U a b ha hb (hu h4.1 h4.2) (flds b).length 0 (by omega)
    refine Does.of (n1 + n2) fun m hm => ?_
    have q1 : den Tryz.prog G0 ents m i_R09_under (some p_R09_under_c1) [A.t (T.int 0), A.t a, A.t b] = _ := h1 m (by omega)
    have q2 : den Tryz.prog G0 ents m i_R09_under (some p_R09_under_c2) [A.t (T.int 0), A.t a, A.t b] = _ := h2 m (by omega)
    rw [List.drop_zero] at q1 q2
    rw [q_R09_under, belowT, if_neg h5, if_pos h4, lackT]
    simp only [S9, S1, terms_eq, flds_eq, kd_eq, op_eq, h4.1, h4.2, q1]
    generalize (flds a).any (fun f => decide (findF (flds b) (nm f) 0 < 0)) = c1 at q1 ⊢
    generalize (flds b).all (fitF U a) = c2 at q2 ⊢
    cases hoa : op a <;> cases hob : op b <;> cases c1 <;> simp [aAt_zero, aAt_succ, tree_t, q2] <;> cases c2 <;> rfl
  · obtain ⟨n0, h0⟩ := rbelow_does a b
    refine Does.of n0 fun m hm => ?_
    rw [q_R09_under, belowT, if_neg h5, if_neg h4]
    simp only [S0, S9, S1, S2, if_true, if_false, kd_eq, h0 m hm]
    by_cases h1 : kd a = 4
    · have : ¬ kd b = 4 := fun e => h4 ⟨h1, e⟩
      simp [h1, this, h5]
    · simp [h1, h5]
theorem runder_in (U : T → T → Bool) (i : Nat) (a b : T) (hi : i < (terms a).length) (hb : (terms b).length ≤ 1000) (hp : ∀ y ∈ terms b, Dz i_R09_under none [A.t (tAtD (terms a) i), A.t y] (1, [A.t (T.bool (belowT U (tAtD (terms a) i) y))])) : ∀ (k j : Nat) (met : Bool), j + k = (terms b).length →
    Dz i_R09_Under (some p_R09_Under_c2) [A.t (T.int i), A.t (T.bool met), A.t (T.int j), A.t a, A.t b] (4, [A.t (T.int i), A.t (T.bool (met || ((terms b).drop j).any fun u => belowT U (tAtD (terms a) i) u)), A.t a, A.t b]) := by
  intro k
  induction k with
  | zero =>
    intro j met hj
    refine Does.now fun m => ?_
    rw [q_R09_Under_c2, List.drop_of_length_le (by omega)]
    simp only [S0, S9, S1, S2, if_true, if_false]
    rw [if_neg (by omega)]; simp
  | succ k ih =>
    intro j met hj
    have hlt : j < (terms b).length := by omega
    have hw : IntKind.i64.wrap ((j : Int) + 1) = ((j + 1 : Nat) : Int) := i64succ (by omega)
    cases met with
    | true =>
      refine Does.now fun m => ?_
      rw [q_R09_Under_c2]
      simp only [S0, S9, S1, S2, if_true, if_false]
      rw [if_pos (by omega)]; rfl
    | false =>
      have h1 := hp _ (List.getElem_mem hlt)
      obtain ⟨n0, h0⟩ := h1.both (ih (j + 1) (belowT U (tAtD (terms a) i) (terms b)[j]) (by omega))
      refine Does.of n0 fun m hm => ?_
      obtain ⟨q1, q2⟩ := h0 m hm
      rw [q_R09_Under_c2, drop_any hlt]
      simp only [S0, S9, S1, S2, if_true, if_false, at_get hlt, q1, hw, q2, Bool.not_false]
      rw [if_pos (by omega), if_pos (by omega), if_pos (by omega), Bool.false_or]
theorem runder_loop (U : T → T → Bool) (a b : T) (ha : (terms a).length ≤ 1000) (hb : (terms b).length ≤ 1000) (hp : ∀ x ∈ terms a, ∀ y ∈ terms b, Dz i_R09_under none [A.t x, A.t y] (1, [A.t (T.bool (belowT U x y))])) : ∀ (k j : Nat), j + k = (terms a).length →
    Dz i_R09_Under (some p_R09_Under_c1) [A.t (T.int j), A.t a, A.t b] (if ((terms a).drop j).all (fun t => (terms b).any fun u => belowT U t u) then (2, []) else (1, [A.t (T.bool false)])) := by
  intro k
  induction k with
  | zero =>
    intro j hj
    refine Does.now fun m => ?_
    rw [q_R09_Under_c1, List.drop_of_length_le (by omega)]
    simp only [S0, S9, S1, S2, if_true, if_false]
    rw [if_neg (by omega)]; rfl
  | succ k ih =>
    intro j hj
    have hlt : j < (terms a).length := by omega
    have hw : IntKind.i64.wrap ((j : Int) + 1) = ((j + 1 : Nat) : Int) := i64succ (by omega)
    have hin := runder_in U j a b hlt hb (fun y hy => by rw [at_get hlt]; exact hp _ (List.getElem_mem hlt) y hy) (terms b).length 0 false (by omega)
    rw [List.drop_zero, Bool.false_or, at_get hlt] at hin
    obtain ⟨n0, h0⟩ := hin.both (ih (j + 1) (by omega))
    refine Does.of n0 fun m hm => ?_
    obtain ⟨q1, q2⟩ := h0 m hm
    have q1' : den Tryz.prog G0 ents m i_R09_Under (some p_R09_Under_c2) [A.t (T.int j), A.t (T.bool false), A.t (T.int 0), A.t a, A.t b] = _ := q1
    rw [q_R09_Under_c1, drop_all hlt]
    simp only [S0, S9, S1, S2, if_true, if_false, q1', hw, q2]
    rw [if_pos (by omega)]
    cases (terms b).any fun u => belowT U (terms a)[j] u <;> simp
theorem runder_does : ∀ (d : Nat) (a b : T), Sm d a → Sm d b → Dz i_R09_Under none [A.t a, A.t b] (1, [A.t (T.bool (underV d a b))])
  | 0, a, b, ha, _ => ha.1.elim
  | d + 1, a, b, ha, hb => by
    have la := ha.terms
    have lb := hb.terms
    have hp : ∀ x ∈ terms a, ∀ y ∈ terms b, Dz i_R09_under none [A.t x, A.t y] (1, [A.t (T.bool (belowT (underV d) x y))]) := fun x hx y hy =>
      runder1_does (underV d) x y (by have := ha.flds hx; omega) (by have := hb.flds hy; omega)
        fun h1 h2 f hf g hg => runder_does d _ _ (ha.sub hx hf) (hb.sub hy hg)
    obtain ⟨n0, h0⟩ := runder_loop (underV d) a b (by omega) (by omega) hp (terms a).length 0 (by omega)
    refine Does.of n0 fun m hm => ?_
    have q : den Tryz.prog G0 ents m i_R09_Under (some p_R09_Under_c1) [A.t (T.int 0), A.t a, A.t b] = _ := h0 m hm
    rw [List.drop_zero, ← underV_succ] at q
    rw [q_R09_Under]
    simp only [S0, S9, S1, S2, if_true, if_false, q]
    cases underV (d + 1) a b <;> rfl
end Go.Proofs.YtoekafpmpopigaaGreatDoorFP
namespace Go.Proofs.YtoekafpmpopigaaGreatDoorFP
open Go Go.Proofs.YtoekafpmpopigaaGreatDoorVM
set_option linter.unusedVariables false
set_option linter.unusedSimpArgs false
set_option maxRecDepth 100000

def allN (p : Nat → Bool) : Nat → Nat → Bool
  | 0, _ => true
  | k + 1, j => p j && allN p k (j + 1)
theorem allN_iff (p : Nat → Bool) : ∀ k j, allN p k j = true ↔ ∀ i, j ≤ i → i < j + k → p i = true
  | 0, j => by simp [allN]; omega
  | k + 1, j => by
    rw [allN, Bool.and_eq_true, allN_iff p k (j + 1)]
    constructor
    · intro h i h1 h2
      rcases Nat.eq_or_lt_of_le h1 with rfl | h3
      · exact h.1
      · exact h.2 i h3 (by omega)
    · intro h
      exact ⟨h j (by omega) (by omega), fun i h1 h2 => h i (by omega) (by omega)⟩
def anyT : T := trm 5 0 0 emptyB false false false []
def bareT (t : T) : Bool := decide (lo t = 0) && decide (hi t = 0) && decide (tx t = emptyB) && !an t && !mb t
def fullF (R : T → Bool) (f : T) : Bool := decide ((terms (val f)).length ≠ 0) && R (val f)
def okT (R : T → Bool) (d : Nat) (t : T) : Bool :=
  if kd t = 5 then decide (cmpT d t anyT = 0)
  else if kd t = 4 then bareT t && decide ((flds t).length ≤ 32) && names (flds t) && (flds t).all (fullF R)
  else rightS t
def ascAt (d : Nat) (l : List T) (j : Nat) : Bool := j == 0 || decide (cmpT d (tAtD l (j - 1)) (tAtD l j) < 0)
def apart (d : Nat) (l : List T) (i k : Nat) : Bool := decide (i = k) || !belowT (underV d) (tAtD l i) (tAtD l k)
def inOrder (R : T → Bool) (d : Nat) (l : List T) : Bool := allN (fun j => okT R d (tAtD l j) && ascAt d l j) l.length 0
def allApart (d : Nat) (l : List T) : Bool := allN (fun i => allN (apart d l i) l.length 0) l.length 0
def okV : Nat → T → Bool
  | 0, _ => false
  | d + 1, v => inOrder (okV d) d (terms v) && allApart d (terms v)
def listV : Nat → Nat → T → Bool
  | 0, _, _ => false
  | _ + 1, 0, _ => false
  | d + 1, e + 1, v => inOrder (listV d e) d (terms v) && allApart d (terms v)
def refV : Nat → T → Bool
  | 0, _ => false
  | d + 1, v => decide (dep (d + 1) v ≤ 16) && (inOrder (refV d) d (terms v) && allApart d (terms v))
def depT (d : Nat) (t : T) : Nat := maxN ((flds t).map fun f => dep d (val f))
theorem dep_succ (d : Nat) (v : T) : dep (d + 1) v = 1 + maxN ((terms v).map (depT d)) := id rfl
theorem maxN_le (l : List Nat) (e : Nat) : maxN l ≤ e ↔ ∀ x ∈ l, x ≤ e := by
  induction l with
  | nil => simp [maxN]
  | cons a l ih =>
    rw [max_cons, Nat.max_le, ih]
    simp
theorem any_flds {d : Nat} {t : T} (h : cmpT d t anyT = 0) : flds t = [] := by
  unfold cmpT at h
  have hp : cmpL (cmpG d) (flds t) (flds anyT) = 0 := by
    unfold fst at h
    split at h
    · exact h
    · rename_i h1; exact absurd h h1
  cases hf : flds t with
  | nil => rfl
  | cons f l =>
    rw [hf] at hp
    have : flds anyT = [] := rfl
    rw [this] at hp
    simp [cmpL] at hp
theorem okT_flds {R : T → Bool} {d : Nat} {t : T} (h : okT R d t = true) (h4 : kd t ≠ 4) : flds t = [] := by
  unfold okT at h
  split at h
  · exact any_flds (of_decide_eq_true h)
  · exact (right_op h).2.1
theorem okT_deep {R S : T → Bool} {d e : Nat} {t : T} (hR : ∀ f ∈ flds t, R (val f) = (S (val f) && decide (dep d (val f) ≤ e))) : okT R d t = (okT S d t && decide (depT d t ≤ e)) := by
  by_cases h4 : kd t = 4
  · have hall : (flds t).all (fullF R) = ((flds t).all (fullF S) && decide (depT d t ≤ e)) := by
      rw [Bool.eq_iff_iff, Bool.and_eq_true, decide_eq_true_eq, List.all_eq_true, List.all_eq_true, depT, maxN_le]
      simp only [fullF, List.mem_map, forall_exists_index, and_imp, forall_apply_eq_imp_iff₂]
      constructor
      · intro h
        refine ⟨fun f hf => ?_, fun f hf => ?_⟩
        · have := h f hf; rw [hR f hf] at this; simp only [Bool.and_eq_true, decide_eq_true_eq] at this ⊢; exact ⟨this.1, this.2.1⟩
        · have := h f hf; rw [hR f hf] at this; simp only [Bool.and_eq_true, decide_eq_true_eq] at this; exact this.2.2
      · rintro ⟨h1, h2⟩ f hf
        have := h1 f hf; rw [hR f hf]; simp only [Bool.and_eq_true, decide_eq_true_eq] at this ⊢; exact ⟨this.1, this.2, h2 f hf⟩
    unfold okT
    rw [if_neg (by omega), if_pos h4, if_neg (by omega), if_pos h4, hall, Bool.and_assoc]
    simp only [Bool.and_assoc]
  · have he : okT R d t = okT S d t := by unfold okT; rw [if_neg h4, if_neg h4]
    rw [he]
    cases hb : okT S d t with
    | false => rfl
    | true =>
      have : depT d t = 0 := by rw [depT, okT_flds hb h4]; rfl
      rw [this]; simp
theorem order_deep {R S : T → Bool} {d e : Nat} {l : List T} (hR : ∀ t ∈ l, ∀ f ∈ flds t, R (val f) = (S (val f) && decide (dep d (val f) ≤ e))) : inOrder R d l = (inOrder S d l && decide (maxN (l.map (depT d)) ≤ e)) := by
  have hT : ∀ j, j < l.length → okT R d (tAtD l j) = (okT S d (tAtD l j) && decide (depT d (tAtD l j) ≤ e)) := fun j hj => okT_deep (by rw [at_get hj]; exact hR _ (List.getElem_mem hj))
  unfold inOrder
  rw [Bool.eq_iff_iff, Bool.and_eq_true, decide_eq_true_eq, allN_iff, allN_iff, maxN_le]
  simp only [Nat.zero_le, true_implies, Nat.zero_add, List.mem_map, forall_exists_index, and_imp, forall_apply_eq_imp_iff₂]
  constructor
  · intro h
    refine ⟨fun i hi => ?_, fun t ht => ?_⟩
    · have := h i hi; rw [hT i hi] at this; simp only [Bool.and_eq_true, decide_eq_true_eq] at this ⊢; exact ⟨this.1.1, this.2⟩
    · obtain ⟨i, hi, rfl⟩ := List.getElem_of_mem ht
      have := h i hi; rw [hT i hi, at_get hi] at this; simp only [Bool.and_eq_true, decide_eq_true_eq] at this; exact this.1.2
  · rintro ⟨h1, h2⟩ i hi
    have := h1 i hi; rw [hT i hi]; simp only [Bool.and_eq_true, decide_eq_true_eq] at this ⊢
    exact ⟨⟨this.1, by rw [at_get hi]; exact h2 _ (List.getElem_mem hi)⟩, this.2⟩
theorem listV_eq : ∀ (d e : Nat) (v : T), listV d e v = (okV d v && decide (dep d v ≤ e))
  | 0, e, v => by simp [listV, okV]
  | d + 1, 0, v => by rw [dep_succ, decide_eq_false (by omega), Bool.and_false]; rfl
  | d + 1, e + 1, v => by
    rw [listV, okV, order_deep (S := okV d) (e := e) (fun t _ f _ => listV_eq d e (val f)), dep_succ]
    have : decide (1 + maxN ((terms v).map (depT d)) ≤ e + 1) = decide (maxN ((terms v).map (depT d)) ≤ e) := decide_eq_decide.2 (by omega)
    rw [this, Bool.and_assoc, Bool.and_assoc, Bool.and_comm (decide _)]
theorem refV_eq : ∀ (d : Nat) (v : T), refV d v = (okV d v && decide (dep d v ≤ 16))
  | 0, v => by simp [refV, okV]
  | d + 1, v => by
    rw [refV, okV, order_deep (S := okV d) (e := 16) (fun t _ f _ => refV_eq d (val f)), Bool.and_comm]
    cases h : decide (dep (d + 1) v ≤ 16) with
    | false => rw [Bool.and_false, Bool.and_false]
    | true =>
      have h1 := of_decide_eq_true h
      rw [dep_succ] at h1
      rw [decide_eq_true (by omega : maxN ((terms v).map (depT d)) ≤ 16)]
      simp only [Bool.and_true]
theorem refV_list (d : Nat) (v : T) : refV d v = listV d 16 v := by rw [refV_eq, listV_eq]
theorem okV_NR : ∀ (d : Nat) (v : T), okV d v = true → NR d v
  | 0, v, h => by cases h
  | d + 1, v, h => by
    rw [okV, Bool.and_eq_true] at h
    intro t ht h4
    obtain ⟨i, hi, rfl⟩ := List.getElem_of_mem ht
    have := (allN_iff _ _ _).1 h.1 i (by omega) (by omega)
    rw [at_get hi, Bool.and_eq_true] at this
    have h1 := this.1
    unfold okT at h1
    rw [if_neg (by omega), if_pos h4, Bool.and_eq_true, Bool.and_eq_true, List.all_eq_true] at h1
    refine ⟨names_rise h1.1.2, fun f hf => okV_NR d _ ?_⟩
    have := h1.2 f hf
    rw [fullF, Bool.and_eq_true] at this
    exact this.2
theorem NRt_of {d : Nat} {R : T → Bool} {t : T} (hR : ∀ f ∈ flds t, R (val f) = true → NR d (val f)) (h : okT R d t = true) : NRt d t := by
  intro h4
  unfold okT at h
  rw [if_neg (by omega), if_pos h4, Bool.and_eq_true, Bool.and_eq_true, List.all_eq_true] at h
  refine ⟨names_rise h.1.2, fun f hf => hR f hf ?_⟩
  have := h.2 f hf
  rw [fullF, Bool.and_eq_true] at this
  exact this.2
theorem listV_NR {d e : Nat} {v : T} (h : listV d e v = true) : NR d v := by
  rw [listV_eq, Bool.and_eq_true] at h
  exact okV_NR d v h.1
end Go.Proofs.YtoekafpmpopigaaGreatDoorFP
namespace Go.Proofs.YtoekafpmpopigaaGreatDoorFP
open Go Go.Proofs.YtoekafpmpopigaaGreatDoorVM
set_option linter.unusedVariables false
set_option linter.unusedSimpArgs false
set_option maxRecDepth 100000

theorem anyT_eq : T.node [T.int 5, T.int 0, T.int 0, T.str ByteArray.empty, T.bool false, T.bool false, T.bool false, T.node []] = anyT := id rfl
theorem Sm_any (d : Nat) : SmT d anyT := ⟨by decide, fun f hf => absurd hf (by show ¬ f ∈ []; simp)⟩
theorem beqI (a b : Int) : (a == b) = decide (a = b) := Bool.beq_eq_decide_eq a b
theorem anything_does {d : Nat} {t : T} (h : SmT d t) : Dz i_lat_anything none [A.t t] (1, [A.t (T.bool (decide (cmpT d t anyT = 0)))]) := by
  obtain ⟨n0, h0⟩ := pt_does h (Sm_any d)
  refine Does.of n0 fun m hm => ?_
  rw [q_lat_anything]; simp only [S9, S1]; rw [anyT_eq]
  simp only [S0, S9, S1, S2, if_true, if_false, h0 m hm, beqI]
theorem lbare_does (t : T) : Dz i_lat_bare none [A.t t] (1, [A.t (T.bool (bareT t))]) := by
  refine Does.now fun m => ?_
  rw [q_lat_bare]
  simp only [S9, S1, Option.map_some, Option.bind_some, aAt_zero, tree_t, tf_bool, kd_eq, lo_eq, hi_eq, tx_eq, an_eq, mb_eq, seq_dec, eb_eq, bareT, Bool.cond_eq_ite, Bool.beq_eq_decide_eq, coll]
  apply ans
  generalize mb t = m
  generalize an t = a
  generalize tx t = x
  generalize lo t = l
  generalize hi t = h
  grind
theorem shaped_loop (R : T → Bool) (l : List T) (e : Nat) (he : e ≤ 1000) (hl : l.length ≤ 1000) (hR : ∀ f ∈ l, Dz i_lat_listed none [A.t (val f), A.t (T.int e)] (1, [A.t (T.bool (R (val f)))])) : ∀ (k j : Nat), j + k = l.length →
    Dz i_lat_shaped (some p_lat_shaped_c1) [A.t (T.int (e + 1 : Nat)), A.t (T.node l), A.t (T.int (l.length : Nat)), A.t (T.int j)] (if (l.drop j).all (fullF R) then (3, []) else (1, [A.t (T.bool false)])) := by
  intro k
  induction k with
  | zero =>
    intro j hj
    refine Does.now fun m => ?_
    rw [q_lat_shaped_c1, List.drop_of_length_le (by omega)]
    simp only [S0, S9, S1, S2, if_true, if_false]
    rw [if_neg (by omega)]; rfl
  | succ k ih =>
    intro j hj
    have hlt : j < l.length := by omega
    have hw : IntKind.i64.wrap ((j : Int) + 1) = ((j + 1 : Nat) : Int) := i64succ (by omega)
    have hd : IntKind.i64.wrap (((e + 1 : Nat) : Int) - 1) = ((e : Nat) : Int) := by rw [w64 (by omega) (by omega)]; omega
    obtain ⟨n0, h0⟩ := (hR _ (List.getElem_mem hlt)).both (ih (j + 1) (by omega))
    refine Does.of n0 fun m hm => ?_
    obtain ⟨q1, q2⟩ := h0 m hm
    rw [q_lat_shaped_c1, drop_all hlt]
    simp only [S0, S9, S1, S2, if_true, if_false, at_get hlt, val_eq, hw, hd, q1, q2, fullF, e0_zero, Bool.not_eq_true']
    rw [if_pos (by omega), if_pos (by omega)]
    by_cases hz : (terms (val l[j])).length = 0
    · rw [if_neg (by simp [hz]), if_neg (by simp [hz])]
    · rw [if_pos (by simp [hz])]
      cases R (val l[j]) <;> simp [hz]
theorem shaped_does (R : T → Bool) (d : Nat) (t : T) (ht : SmT d t) (e : Nat) (he : e ≤ 1000) (hR : kd t = 4 → ∀ f ∈ flds t, Dz i_lat_listed none [A.t (val f), A.t (T.int e)] (1, [A.t (T.bool (R (val f)))])) : Dz i_lat_shaped none [A.t t, A.t (T.int (e + 1 : Nat))] (1, [A.t (T.bool (okT R d t))]) := by
  have hl := ht.1
  by_cases h5 : kd t = 5
  · obtain ⟨n0, h0⟩ := anything_does ht
    refine Does.of n0 fun m hm => ?_
    rw [q_lat_shaped, okT, if_pos h5]
    simp only [S0, S9, S1, S2, if_true, if_false, kd_eq, h0 m hm, h5]
  by_cases h4 : kd t = 4
  · obtain ⟨n1, h1⟩ := (lbare_does t).both (rising_does (flds t) (by omega))
    obtain ⟨n2, h2⟩ := shaped_loop R (flds t) e he (by omega) (hR h4) (flds t).length 0 (by omega)
    refine Does.of (n1 + n2) fun m hm => ?_
    obtain ⟨q1, q2⟩ := h1 m (by omega)
    have q3 : den Tryz.prog G0 ents m i_lat_shaped (some p_lat_shaped_c1) [A.t (T.int (e + 1 : Nat)), A.t (T.node (flds t)), A.t (T.int ((flds t).length : Nat)), A.t (T.int 0)] = _ := h2 m (by omega)
    rw [List.drop_zero] at q3
    rw [q_lat_shaped, okT, if_neg h5, if_pos h4]
    simp only [S9, S1, terms_eq, flds_eq, num_int, kd_eq, h4, q1, q2, q3]
    have h32 : decide ((((flds t).length : Nat) : Int) > 32) = !decide ((flds t).length ≤ 32) := by rw [Bool.eq_iff_iff]; simp; omega
    rw [h32]
    generalize (flds t).all (fullF R) = c
    generalize decide ((flds t).length ≤ 32) = c2
    generalize names (flds t) = c3
    generalize bareT t = c4
    cases c <;> cases c2 <;> cases c3 <;> cases c4 <;> rfl
  · obtain ⟨n0, h0⟩ := sright_does t
    refine Does.of n0 fun m hm => ?_
    rw [q_lat_shaped, okT, if_neg h5, if_neg h4]
    simp only [S0, S9, S1, S2, if_true, if_false, kd_eq, h0 m hm, h5, h4]
theorem listed_c1 (R : T → Bool) (d : Nat) (v : T) (hv : Sm (d + 1) v) (e : Nat) (he : e ≤ 1000) (hR : ∀ t ∈ terms v, ∀ f ∈ flds t, Dz i_lat_listed none [A.t (val f), A.t (T.int e)] (1, [A.t (T.bool (R (val f)))])) : ∀ (k j : Nat), j + k = (terms v).length →
    Dz i_lat_listed (some p_lat_listed_c1) [A.t (T.int (e + 1 : Nat)), A.t (T.node (terms v)), A.t (T.int ((terms v).length : Nat)), A.t (T.int j), A.t v] (if allN (fun j => okT R d (tAtD (terms v) j) && ascAt d (terms v) j) k j then (2, [A.t v]) else (1, [A.t (T.bool false)])) := by
  have hl := hv.terms
  intro k
  induction k with
  | zero =>
    intro j hj
    refine Does.now fun m => ?_
    rw [q_lat_listed_c1, allN]
    simp only [S0, S9, S1, S2, if_true, if_false]
    rw [if_neg (by omega)]
  | succ k ih =>
    intro j hj
    have hlt : j < (terms v).length := by omega
    have hw : IntKind.i64.wrap ((j : Int) + 1) = ((j + 1 : Nat) : Int) := i64succ (by omega)
    have hm := List.getElem_mem hlt
    have hs := shaped_does R d (terms v)[j] (hv.term hm) e he (fun _ => hR _ hm)
    rw [allN, at_get hlt]
    by_cases h0 : j = 0
    · subst h0
      obtain ⟨n0, h0⟩ := hs.both (ih (0 + 1) (by omega))
      refine Does.of n0 fun m hm => ?_
      obtain ⟨q1, q2⟩ := h0 m hm
      have hasc : ascAt d (terms v) 0 = true := rfl
      rw [hasc, q_lat_listed_c1]
      simp only [S0, S9, S1, S2, if_true, if_false, at_get hlt, hw, q1, q2, Bool.and_true]
      rw [if_pos (by omega), if_pos (by omega)]
      cases okT R d (terms v)[0] <;> simp
    · have hlt2 : j - 1 < (terms v).length := by omega
      have hp : IntKind.i64.wrap ((j : Int) - 1) = ((j - 1 : Nat) : Int) := by rw [w64 (by omega) (by omega)]; omega
      obtain ⟨n0, h0'⟩ := hs.both (ih (j + 1) (by omega))
      obtain ⟨n1, h1⟩ := pt_does (hv.term (List.getElem_mem hlt2)) (hv.term hm)
      refine Does.of (n0 + n1) fun m hm => ?_
      obtain ⟨q1, q2⟩ := h0' m (by omega)
      have q3 := h1 m (by omega)
      have hasc : ascAt d (terms v) j = decide (cmpT d (terms v)[j - 1] (terms v)[j] < 0) := by
        rw [ascAt, at_get hlt, at_get hlt2, show (j == 0) = false by simp [h0]]; rfl
      rw [hasc, q_lat_listed_c1]
      simp only [S0, S9, S1, S2, if_true, if_false, at_get hlt, at_get hlt2, hw, hp, q1, q2, q3]
      rw [if_pos (by omega), if_pos (by omega)]
      cases okT R d (terms v)[j] with
      | false => simp
      | true =>
        rw [if_pos (by rfl), if_pos (by omega), if_pos (by omega)]
        by_cases hc : cmpT d (terms v)[j - 1] (terms v)[j] < 0
        · rw [if_neg (by omega)]; simp [hc]
        · rw [if_pos (by omega)]; simp [hc]
theorem listed_c3 (d : Nat) (v : T) (i : Nat) (hi : i < (terms v).length) (hl : (terms v).length ≤ 1000) (hb : ∀ y ∈ terms v, Dz i_lat_below none [A.t (terms v)[i], A.t y] (1, [A.t (T.bool (belowT (underV d) (terms v)[i] y))])) : ∀ (k j : Nat), j + k = (terms v).length →
    Dz i_lat_listed (some p_lat_listed_c3) [A.t (T.int i), A.t (T.node (terms v)), A.t (T.int ((terms v).length : Nat)), A.t (T.int i), A.t (T.node (terms v)), A.t (T.int ((terms v).length : Nat)), A.t (T.int j), A.t v, A.t (terms v)[i]] (if allN (apart d (terms v) i) k j then (6, [A.t (T.node (terms v)), A.t (T.int ((terms v).length : Nat)), A.t (T.int i), A.t v]) else (1, [A.t (T.bool false)])) := by
  intro k
  induction k with
  | zero =>
    intro j hj
    refine Does.now fun m => ?_
    rw [q_lat_listed_c3, allN]
    simp only [S0, S9, S1, S2, if_true, if_false]
    rw [if_neg (by omega)]
  | succ k ih =>
    intro j hj
    have hlt : j < (terms v).length := by omega
    have hw : IntKind.i64.wrap ((j : Int) + 1) = ((j + 1 : Nat) : Int) := i64succ (by omega)
    obtain ⟨n0, h0⟩ := (hb _ (List.getElem_mem hlt)).both (ih (j + 1) (by omega))
    refine Does.of n0 fun m hm => ?_
    obtain ⟨q1, q2⟩ := h0 m hm
    have hap : apart d (terms v) i j = (decide (i = j) || !belowT (underV d) (terms v)[i] (terms v)[j]) := by rw [apart, at_get hi, at_get hlt]
    rw [q_lat_listed_c3, allN, hap]
    simp only [S0, S9, S1, S2, if_true, if_false, at_get hlt, hw, q1, q2]
    rw [if_pos (by omega), if_pos (by omega)]
    by_cases he : i = j
    · rw [if_neg (by omega)]; simp [he]
    · rw [if_pos (by omega)]
      cases belowT (underV d) (terms v)[i] (terms v)[j] <;> simp [he]
theorem listed_c2 (d : Nat) (v : T) (hl : (terms v).length ≤ 1000) (hb : ∀ x ∈ terms v, ∀ y ∈ terms v, Dz i_lat_below none [A.t x, A.t y] (1, [A.t (T.bool (belowT (underV d) x y))])) : ∀ (k j : Nat), j + k = (terms v).length →
    Dz i_lat_listed (some p_lat_listed_c2) [A.t (T.node (terms v)), A.t (T.int ((terms v).length : Nat)), A.t (T.int j), A.t v] (if allN (fun i => allN (apart d (terms v) i) (terms v).length 0) k j then (4, []) else (1, [A.t (T.bool false)])) := by
  intro k
  induction k with
  | zero =>
    intro j hj
    refine Does.now fun m => ?_
    rw [q_lat_listed_c2, allN]
    simp only [S0, S9, S1, S2, if_true, if_false]
    rw [if_neg (by omega)]
  | succ k ih =>
    intro j hj
    have hlt : j < (terms v).length := by omega
    have hw : IntKind.i64.wrap ((j : Int) + 1) = ((j + 1 : Nat) : Int) := i64succ (by omega)
    obtain ⟨n0, h0⟩ := (listed_c3 d v j hlt hl (hb _ (List.getElem_mem hlt)) (terms v).length 0 (by omega)).both (ih (j + 1) (by omega))
    refine Does.of n0 fun m hm => ?_
    obtain ⟨q1, q2⟩ := h0 m hm
    have q1' : den Tryz.prog G0 ents m i_lat_listed (some p_lat_listed_c3) [A.t (T.int j), A.t (T.node (terms v)), A.t (T.int ((terms v).length : Nat)), A.t (T.int j), A.t (T.node (terms v)), A.t (T.int ((terms v).length : Nat)), A.t (T.int 0), A.t v, A.t (terms v)[j]] = _ := q1
    rw [q_lat_listed_c2, allN]
    simp only [S9, S1, terms_eq, kids_node, num_int, Int.toNat_natCast, at_get hlt, q1']
    generalize allN (apart d (terms v) j) (terms v).length 0 = c
    cases c with
    | false =>
      simp only [S0, S9, S1, S2, if_true, if_false]
      rw [if_pos (by omega), if_pos (by omega)]
      rfl
    | true =>
      simp only [S0, S9, S1, S2, if_true, if_false, hw, q2, show Nat.beq 6 6 = true from rfl, true_and]
      rw [if_pos (by omega), if_pos (by omega)]
theorem listed_does : ∀ (d e : Nat) (v : T), e ≤ 1000 → Sm d v → Dz i_lat_listed none [A.t v, A.t (T.int e)] (1, [A.t (T.bool (listV d e v))])
  | 0, _, v, _, h => h.1.elim
  | d + 1, 0, v, _, h => by
    refine Does.now fun m => ?_
    rw [q_lat_listed]
    simp only [S0, S9, S1, S2, if_true, if_false]
    rfl
  | d + 1, e + 1, v, he, h => by
    have hl := h.terms
    have hR : ∀ t ∈ terms v, ∀ f ∈ flds t, Dz i_lat_listed none [A.t (val f), A.t (T.int e)] (1, [A.t (T.bool (listV d e (val f)))]) := fun t ht f hf => listed_does d e (val f) (by omega) (h.sub ht hf)
    obtain ⟨n1, h1⟩ := listed_c1 (listV d e) d v h e (by omega) hR (terms v).length 0 (by omega)
    have q1' : ∀ m, n1 ≤ m → den Tryz.prog G0 ents m i_lat_listed (some p_lat_listed_c1) [A.t (T.int (e + 1 : Nat)), A.t (T.node (terms v)), A.t (T.int ((terms v).length : Nat)), A.t (T.int 0), A.t v] = some (if inOrder (listV d e) d (terms v) then (2, [A.t v]) else (1, [A.t (T.bool false)])) := h1
    rw [listV]
    cases ho : inOrder (listV d e) d (terms v) with
    | false =>
      rw [ho] at q1'
      refine Does.of n1 fun m hm => ?_
      rw [q_lat_listed]
      simp only [S0, S9, S1, S2, if_true, if_false, q1' m hm]
      rw [if_pos (by omega), if_neg (by omega)]
      rfl
    | true =>
      rw [ho] at q1'
      have hN : ∀ t ∈ terms v, NRt d t := fun t ht => by
        obtain ⟨i, hi, rfl⟩ := List.getElem_of_mem ht
        have := (allN_iff _ _ _).1 ho i (by omega) (by omega)
        rw [at_get hi, Bool.and_eq_true] at this
        exact NRt_of (fun f hf h => listV_NR h) this.1
      have hb : ∀ x ∈ terms v, ∀ y ∈ terms v, Dz i_lat_below none [A.t x, A.t y] (1, [A.t (T.bool (belowT (underV d) x y))]) := fun x hx y hy =>
        lbelow_does (underV d) x y (by have := h.flds hx; omega) (by have := h.flds hy; omega) (fun h4 => (hN x hx h4).1) (fun h4 => (hN y hy h4).1)
          fun h1 h2 f hf g hg => lunder_does d _ _ (h.sub hx hf) (h.sub hy hg) ((hN x hx h1).2 f hf) ((hN y hy h2).2 g hg)
      obtain ⟨n2, h2⟩ := listed_c2 d v (by omega) hb (terms v).length 0 (by omega)
      have q2' : ∀ m, n2 ≤ m → den Tryz.prog G0 ents m i_lat_listed (some p_lat_listed_c2) [A.t (T.node (terms v)), A.t (T.int ((terms v).length : Nat)), A.t (T.int 0), A.t v] = some (if allApart d (terms v) then (4, []) else (1, [A.t (T.bool false)])) := h2
      refine Does.of (n1 + n2) fun m hm => ?_
      rw [q_lat_listed]
      simp only [S0, S9, S1, S2, if_true, if_false, q1' m (by omega), q2' m (by omega)]
      rw [if_pos (by omega), if_neg (by omega)]
      cases allApart d (terms v) <;> rfl
theorem lright_does {v : T} (h : Sm 20 v) : Dz i_lat_Right none [A.t v] (1, [A.t (T.bool (refV 20 v))]) := by
  obtain ⟨n0, h0⟩ := (listed_does 20 16 v (by omega) h).both (pweight_does 20 v h)
  have hw := h.2
  refine Does.of n0 fun m hm => ?_
  obtain ⟨q1, q2⟩ := h0 m hm
  have q1' : den Tryz.prog G0 ents m i_lat_listed none [A.t v, A.t (T.int 16)] = _ := q1
  rw [refV_list, q_lat_Right]
  simp only [S0, S9, S1, S2, if_true, if_false, q1', q2]
  cases listV 20 16 v with
  | false => rfl
  | true => rw [if_pos rfl, decide_eq_true (by omega)]
end Go.Proofs.YtoekafpmpopigaaGreatDoorFP
namespace Go.Proofs.YtoekafpmpopigaaGreatDoorFP
open Go Go.Proofs.YtoekafpmpopigaaGreatDoorVM
set_option linter.unusedVariables false
set_option linter.unusedSimpArgs false
set_option maxRecDepth 100000

theorem rterm_loop (R : T → Bool) (t : T) (hl : (flds t).length ≤ 1000) (hR : ∀ f ∈ flds t, Dz i_R09_Right none [A.t (val f)] (1, [A.t (T.bool (R (val f)))])) : ∀ (k j : Nat), j + k = (flds t).length →
    Dz i_R09_Term (some p_R09_Term_c1) [A.t (T.int j), A.t t] (if ((flds t).drop j).all (fullF R) then (2, []) else (1, [A.t (T.bool false)])) := by
  intro k
  induction k with
  | zero =>
    intro j hj
    refine Does.now fun m => ?_
    rw [q_R09_Term_c1, List.drop_of_length_le (by omega)]
    simp only [S0, S9, S1, S2, if_true, if_false]
    rw [if_neg (by omega)]; rfl
  | succ k ih =>
    intro j hj
    have hlt : j < (flds t).length := by omega
    have hw : IntKind.i64.wrap ((j : Int) + 1) = ((j + 1 : Nat) : Int) := i64succ (by omega)
    obtain ⟨n0, h0⟩ := (hR _ (List.getElem_mem hlt)).both (ih (j + 1) (by omega))
    refine Does.of n0 fun m hm => ?_
    obtain ⟨q1, q2⟩ := h0 m hm
    rw [q_R09_Term_c1, drop_all hlt]
    simp only [S0, S9, S1, S2, if_true, if_false, at_get hlt, val_eq, hw, q1, q2, fullF, e0_zero, Bool.not_eq_true']
    rw [if_pos (by omega), if_pos (by omega)]
    by_cases hz : (terms (val (flds t)[j])).length = 0
    · rw [if_neg (by simp [hz]), if_neg (by simp [hz])]
    · rw [if_pos (by simp [hz]), if_pos (by omega)]
      cases R (val (flds t)[j]) <;> simp [hz]
theorem rterm_does (R : T → Bool) (d : Nat) (t : T) (ht : SmT d t) (hR : kd t = 4 → ∀ f ∈ flds t, Dz i_R09_Right none [A.t (val f)] (1, [A.t (T.bool (R (val f)))])) : Dz i_R09_Term none [A.t t] (1, [A.t (T.bool (okT R d t))]) := by
  have hl := ht.1
  by_cases h5 : kd t = 5
  · obtain ⟨n0, h0⟩ := rt_does ht (Sm_any d)
    refine Does.of n0 fun m hm => ?_
    rw [q_R09_Term, okT, if_pos h5]; simp only [S9, S1]; rw [anyT_eq]
    simp only [S0, S9, S1, S2, if_true, if_false, kd_eq, h0 m hm, h5, beqI]
  by_cases h4 : kd t = 4
  · obtain ⟨n1, h1⟩ := rnames_does (flds t) (by omega)
    obtain ⟨n2, h2⟩ := rterm_loop R t (by omega) (hR h4) (flds t).length 0 (by omega)
    refine Does.of (n1 + n2) fun m hm => ?_
    have q2 := h1 m (by omega)
    have q3 : den Tryz.prog G0 ents m i_R09_Term (some p_R09_Term_c1) [A.t (T.int 0), A.t t] = _ := h2 m (by omega)
    rw [List.drop_zero] at q3
    rw [q_R09_Term, okT, if_neg h5, if_pos h4]
    simp only [S9, S1, terms_eq, flds_eq, num_int, kd_eq, h4, lo_eq, hi_eq, tx_eq, an_eq, mb_eq, eb_eq, seq_dec, q2, q3, bareT]
    have h32 : decide ((((flds t).length : Nat) : Int) > 32) = !decide ((flds t).length ≤ 32) := by rw [Bool.eq_iff_iff]; simp; omega
    have hlo : (lo t != 0) = !decide (lo t = 0) := by rw [bne, beqI]
    have hhi : (hi t != 0) = !decide (hi t = 0) := by rw [bne, beqI]
    rw [h32, hlo, hhi]
    generalize (flds t).all (fullF R) = c
    generalize decide ((flds t).length ≤ 32) = c2
    generalize names (flds t) = c3
    generalize decide (lo t = 0) = c4
    generalize decide (hi t = 0) = c5
    generalize decide (tx t = emptyB) = c6
    generalize an t = c7
    generalize mb t = c8
    cases c4 <;> cases c5 <;> cases c6 <;> cases c7 <;> cases c8 <;> cases c2 <;> cases c3 <;> cases c <;> rfl
  · obtain ⟨n0, h0⟩ := rright_does t
    refine Does.of n0 fun m hm => ?_
    rw [q_R09_Term, okT, if_neg h5, if_neg h4]
    simp only [S0, S9, S1, S2, if_true, if_false, kd_eq, h0 m hm, h5, h4, not_false_eq_true]
theorem rright_c1 (R : T → Bool) (d : Nat) (v : T) (hv : Sm (d + 1) v) (hR : ∀ t ∈ terms v, ∀ f ∈ flds t, Dz i_R09_Right none [A.t (val f)] (1, [A.t (T.bool (R (val f)))])) : ∀ (k j : Nat), j + k = (terms v).length →
    Dz i_R09_Right (some p_R09_Right_c1) [A.t (T.int j), A.t v] (if allN (fun j => okT R d (tAtD (terms v) j) && ascAt d (terms v) j) k j then (2, [A.t v]) else (1, [A.t (T.bool false)])) := by
  have hl := hv.terms
  intro k
  induction k with
  | zero =>
    intro j hj
    refine Does.now fun m => ?_
    rw [q_R09_Right_c1, allN]
    simp only [S0, S9, S1, S2, if_true, if_false]
    rw [if_neg (by omega)]
  | succ k ih =>
    intro j hj
    have hlt : j < (terms v).length := by omega
    have hw : IntKind.i64.wrap ((j : Int) + 1) = ((j + 1 : Nat) : Int) := i64succ (by omega)
    have hm := List.getElem_mem hlt
    have hs := rterm_does R d (terms v)[j] (hv.term hm) (fun _ => hR _ hm)
    rw [allN, at_get hlt]
    by_cases h0 : j = 0
    · subst h0
      obtain ⟨n0, h0⟩ := hs.both (ih (0 + 1) (by omega))
      refine Does.of n0 fun m hm => ?_
      obtain ⟨q1, q2⟩ := h0 m hm
      have hasc : ascAt d (terms v) 0 = true := rfl
      rw [hasc, q_R09_Right_c1]
      simp only [S0, S9, S1, S2, if_true, if_false, at_get hlt, hw, q1, q2, Bool.and_true]
      rw [if_pos (by omega), if_pos (by omega)]
      cases okT R d (terms v)[0] <;> simp
    · have hlt2 : j - 1 < (terms v).length := by omega
      have hp : IntKind.i64.wrap ((j : Int) - 1) = ((j - 1 : Nat) : Int) := by rw [w64 (by omega) (by omega)]; omega
      obtain ⟨n0, h0'⟩ := hs.both (ih (j + 1) (by omega))
      obtain ⟨n1, h1⟩ := rt_does (hv.term (List.getElem_mem hlt2)) (hv.term hm)
      refine Does.of (n0 + n1) fun m hm => ?_
      obtain ⟨q1, q2⟩ := h0' m (by omega)
      have q3 := h1 m (by omega)
      have hasc : ascAt d (terms v) j = decide (cmpT d (terms v)[j - 1] (terms v)[j] < 0) := by
        rw [ascAt, at_get hlt, at_get hlt2, show (j == 0) = false by simp [h0]]; rfl
      rw [hasc, q_R09_Right_c1]
      simp only [S0, S9, S1, S2, if_true, if_false, at_get hlt, at_get hlt2, hw, hp, q1, q2, q3]
      rw [if_pos (by omega), if_pos (by omega)]
      cases okT R d (terms v)[j] with
      | false => simp
      | true =>
        rw [if_pos (by rfl), if_pos (by omega), if_pos (by omega), if_pos (by omega)]
        by_cases hc : cmpT d (terms v)[j - 1] (terms v)[j] < 0
        · rw [if_neg (by omega)]; simp [hc]
        · rw [if_pos (by omega)]; simp [hc]
theorem rright_c3 (d : Nat) (v : T) (i : Nat) (hi : i < (terms v).length) (hl : (terms v).length ≤ 1000) (hb : ∀ y ∈ terms v, Dz i_R09_under none [A.t (terms v)[i], A.t y] (1, [A.t (T.bool (belowT (underV d) (terms v)[i] y))])) : ∀ (k j : Nat), j + k = (terms v).length →
    Dz i_R09_Right (some p_R09_Right_c3) [A.t (T.int i), A.t (T.int j), A.t v] (if allN (apart d (terms v) i) k j then (6, [A.t (T.int i), A.t v]) else (1, [A.t (T.bool false)])) := by
  intro k
  induction k with
  | zero =>
    intro j hj
    refine Does.now fun m => ?_
    rw [q_R09_Right_c3, allN]
    simp only [S0, S9, S1, S2, if_true, if_false]
    rw [if_neg (by omega)]
  | succ k ih =>
    intro j hj
    have hlt : j < (terms v).length := by omega
    have hw : IntKind.i64.wrap ((j : Int) + 1) = ((j + 1 : Nat) : Int) := i64succ (by omega)
    obtain ⟨n0, h0⟩ := (hb _ (List.getElem_mem hlt)).both (ih (j + 1) (by omega))
    refine Does.of n0 fun m hm => ?_
    obtain ⟨q1, q2⟩ := h0 m hm
    have hap : apart d (terms v) i j = (decide (i = j) || !belowT (underV d) (terms v)[i] (terms v)[j]) := by rw [apart, at_get hi, at_get hlt]
    rw [q_R09_Right_c3, allN, hap]
    simp only [S0, S9, S1, S2, if_true, if_false, at_get hlt, at_get hi, hw, q1, q2]
    rw [if_pos (by omega)]
    by_cases he : i = j
    · rw [if_neg (by omega)]; simp [he]
    · rw [if_pos (by omega), if_pos (by omega), if_pos (by omega)]
      cases belowT (underV d) (terms v)[i] (terms v)[j] <;> simp [he]
theorem rright_c2 (d : Nat) (v : T) (hl : (terms v).length ≤ 1000) (hb : ∀ x ∈ terms v, ∀ y ∈ terms v, Dz i_R09_under none [A.t x, A.t y] (1, [A.t (T.bool (belowT (underV d) x y))])) : ∀ (k j : Nat), j + k = (terms v).length →
    Dz i_R09_Right (some p_R09_Right_c2) [A.t (T.int j), A.t v] (if allN (fun i => allN (apart d (terms v) i) (terms v).length 0) k j then (4, []) else (1, [A.t (T.bool false)])) := by
  intro k
  induction k with
  | zero =>
    intro j hj
    refine Does.now fun m => ?_
    rw [q_R09_Right_c2, allN]
    simp only [S0, S9, S1, S2, if_true, if_false]
    rw [if_neg (by omega)]
  | succ k ih =>
    intro j hj
    have hlt : j < (terms v).length := by omega
    have hw : IntKind.i64.wrap ((j : Int) + 1) = ((j + 1 : Nat) : Int) := i64succ (by omega)
    obtain ⟨n0, h0⟩ := (rright_c3 d v j hlt hl (hb _ (List.getElem_mem hlt)) (terms v).length 0 (by omega)).both (ih (j + 1) (by omega))
    refine Does.of n0 fun m hm => ?_
    obtain ⟨q1, q2⟩ := h0 m hm
    have q1' : den Tryz.prog G0 ents m i_R09_Right (some p_R09_Right_c3) [A.t (T.int j), A.t (T.int 0), A.t v] = _ := q1
    rw [q_R09_Right_c2, allN]
    simp only [S9, S1, terms_eq, num_int, q1']
    generalize allN (apart d (terms v) j) (terms v).length 0 = c
    cases c with
    | false =>
      simp only [S0, S9, S1, S2, if_true, if_false]
      rw [if_pos (by omega)]
      rfl
    | true =>
      simp only [S0, S9, S1, S2, if_true, if_false, hw, q2, show Nat.beq 6 6 = true from rfl, true_and]
      rw [if_pos (by omega)]
theorem rright_val : ∀ (d : Nat) (v : T), d ≤ 1000 → Sm d v → Dz i_R09_Right none [A.t v] (1, [A.t (T.bool (refV d v))])
  | 0, v, _, h => h.1.elim
  | d + 1, v, hd, h => by
    have hl := h.terms
    have hwt := h.2
    obtain ⟨n0, h0⟩ := (rweight_does (d + 1) v h).both (depth_does (d + 1) v hd h)
    rw [refV]
    by_cases hdp : dep (d + 1) v ≤ 16
    rotate_left
    · refine Does.of n0 fun m hm => ?_
      obtain ⟨q1, q2⟩ := h0 m hm
      rw [q_R09_Right, decide_eq_false hdp]
      simp only [S0, S9, S1, S2, if_true, if_false, q1, q2]
      rw [if_pos (by omega), if_pos (by omega)]
      rfl
    rw [decide_eq_true hdp, Bool.true_and]
    have hR : ∀ t ∈ terms v, ∀ f ∈ flds t, Dz i_R09_Right none [A.t (val f)] (1, [A.t (T.bool (refV d (val f)))]) := fun t ht f hf => rright_val d (val f) (by omega) (h.sub ht hf)
    obtain ⟨n1, h1⟩ := rright_c1 (refV d) d v h hR (terms v).length 0 (by omega)
    have q1' : ∀ m, n1 ≤ m → den Tryz.prog G0 ents m i_R09_Right (some p_R09_Right_c1) [A.t (T.int 0), A.t v] = some (if inOrder (refV d) d (terms v) then (2, [A.t v]) else (1, [A.t (T.bool false)])) := h1
    have hb : ∀ x ∈ terms v, ∀ y ∈ terms v, Dz i_R09_under none [A.t x, A.t y] (1, [A.t (T.bool (belowT (underV d) x y))]) := fun x hx y hy =>
      runder1_does (underV d) x y (by have := h.flds hx; omega) (by have := h.flds hy; omega)
        fun h1 h2 f hf g hg => runder_does d _ _ (h.sub hx hf) (h.sub hy hg)
    obtain ⟨n2, h2⟩ := rright_c2 d v (by omega) hb (terms v).length 0 (by omega)
    have q2' : ∀ m, n2 ≤ m → den Tryz.prog G0 ents m i_R09_Right (some p_R09_Right_c2) [A.t (T.int 0), A.t v] = some (if allApart d (terms v) then (4, []) else (1, [A.t (T.bool false)])) := h2
    refine Does.of (n0 + n1 + n2) fun m hm => ?_
    obtain ⟨q1, q2⟩ := h0 m (by omega)
    rw [q_R09_Right]
    simp only [S0, S9, S1, S2, if_true, if_false, q1, q2, q1' m (by omega)]
    rw [if_pos (by omega), if_neg (by omega)]
    cases inOrder (refV d) d (terms v) with
    | false => rfl
    | true =>
      simp only [S0, S9, S1, S2, if_true, if_false, q2' m (by omega)]
      cases allApart d (terms v) <;> rfl
theorem refRight_does {v : T} (h : Sm 20 v) : Dz i_R09_Right none [A.t v] (1, [A.t (T.bool (refV 20 v))]) := rright_val 20 v (by omega) h
end Go.Proofs.YtoekafpmpopigaaGreatDoorFP
namespace Go.Proofs.YtoekafpmpopigaaGreatDoorFP
open Go Go.Proofs.YtoekafpmpopigaaGreatDoorVM
set_option linter.unusedVariables false
set_option linter.unusedSimpArgs false
set_option maxRecDepth 100000

theorem refV_NR {v : T} (h : refV 20 v = true) : NR 20 v := by
  rw [refV_eq, Bool.and_eq_true] at h
  exact okV_NR 20 v h.1
def belowV (a b : T) : Bool := refV 20 a && (refV 20 b && underV 20 a b)
end Go.Proofs.YtoekafpmpopigaaGreatDoorFP
namespace Go.Proofs.YtoekafpmpopigaaGreatDoorFP
open Go Go.Proofs.YtoekafpmpopigaaGreatDoorVM
set_option linter.unusedVariables false
set_option linter.unusedSimpArgs false
set_option maxRecDepth 100000

def oneT (v : T) : T := tAtD (terms v) 0
def allV (g : T → Bool) : Nat → T → Bool
  | 0, _ => false
  | d + 1, v => decide ((terms v).length = 1) && (!decide (kd (oneT v) = 5) && (if kd (oneT v) = 4 then (flds (oneT v)).all (fun f => allV g d (val f)) else g (oneT v)))
def atomS (t : T) : Bool := rightS t && one t
def readyS (t : T) : Bool := mb t || (rightS t && one t)
def refOne (w : Bool) (t : T) : Bool := one t || (w && mb t)
def waitV : Nat → T → Bool
  | 0, _ => false
  | d + 1, v => (terms v).any fun t => mb t || (flds t).any fun f => waitV d (val f)
theorem any_not {l : List T} {p : T → Bool} : (!l.any fun x => !p x) = l.all p := by
  induction l with
  | nil => rfl
  | cons x l ih => simp only [List.any_cons, List.all_cons, ← ih]; cases p x <;> simp
theorem atom_does (t : T) : Dz i_scalar_Atom none [A.t t] (1, [A.t (T.bool (atomS t))]) := by
  obtain ⟨n0, h0⟩ := (sright_does t).both (one_does t)
  refine Does.of n0 fun m hm => ?_
  obtain ⟨q1, q2⟩ := h0 m hm
  rw [q_scalar_Atom]; simp only [S9, S1]; rw [q1, atomS]
  cases rightS t
  · rfl
  · simp only [S0, S9, S1, S2, if_true, if_false, q2, Bool.true_and]
def fone (v : T) : Nat × List A := if (terms v).length = 1 ∧ kd (oneT v) ≠ 5 then (1, [A.t (oneT v), A.t (T.int 0)]) else (1, [A.t noTrm, A.t (T.int (if (terms v).length = 0 then 31 else 28))])
theorem fone_does (v : T) : Dz i_fact_one none [A.t v] (fone v) := by
  refine Does.now fun m => ?_
  rw [q_fact_one]
  unfold fone oneT
  simp only [S0, S9, S1, S2, if_true, if_false, noTrm_eq, kd_eq, e0_zero]
  by_cases h0 : (terms v).length = 0
  · rw [if_pos (by omega), if_neg (fun e => by omega), if_pos h0]
  by_cases h1 : (terms v).length = 1
  · rw [if_neg (by omega), if_pos (by omega), if_pos (by omega)]
    by_cases h5 : kd (tAtD (terms v) 0) = 5
    · rw [if_pos h5, if_neg (fun e => e.2 h5), if_neg h0]
    · rw [if_neg h5, if_pos (by omega), if_pos ⟨h1, h5⟩]
  · rw [if_neg (by omega), if_neg (by omega), if_neg (fun e => h1 e.1), if_neg h0]
def refinesV (a b : T) : Bool := (refV 20 a && allV atomS 20 a) && belowV a b
def rrefinesV (a b : T) : Bool := (refV 20 a && allV (refOne false) 20 a) && (refV 20 b && underV 20 a b)
end Go.Proofs.YtoekafpmpopigaaGreatDoorFP
namespace Go.Proofs.YtoekafpmpopigaaGreatDoorFP
open Go Go.Proofs.YtoekafpmpopigaaGreatDoorVM
set_option linter.unusedVariables false
set_option linter.unusedSimpArgs false
set_option maxRecDepth 100000

theorem right_parts {t : T} (h : rightS t = true) : op t = false ∧ flds t = [] ∧ ¬ (mb t = true ∧ one t = true) ∧ rightK (kd t) (lo t) (hi t) (tx t) (an t) = true := by
  have h1 := right_op h
  unfold rightS at h
  simp only [Bool.and_eq_true, Bool.not_eq_true', decide_eq_true_eq] at h
  refine ⟨h1.1, h1.2.1, fun e => ?_, h.2⟩
  have := h.1.2
  rw [e.1, e.2] at this
  cases this
theorem right_kd {t : T} (h : rightS t = true) : kd t = 1 ∨ kd t = 2 ∨ kd t = 3 := by
  have h2 := (right_parts h).2.2.2
  unfold rightK at h2
  split at h2
  · exact .inr (.inr (by assumption))
  · split at h2
    · exact .inr (.inl (by assumption))
    · split at h2
      · exact .inl (by assumption)
      · cases h2
theorem right_lohi {t : T} (h : rightS t = true) : lo t ≤ hi t ∧ (kd t = 3 → lo t = 0 ∧ hi t = 0) := by
  have h2 := (right_parts h).2.2.2
  unfold rightK at h2
  split at h2
  · simp only [Bool.and_eq_true, decide_eq_true_eq] at h2
    exact ⟨by omega, fun _ => h2.1⟩
  · split at h2
    · simp only [Bool.and_eq_true, decide_eq_true_eq] at h2
      exact ⟨by omega, fun e => by omega⟩
    · split at h2
      · simp only [Bool.and_eq_true, decide_eq_true_eq] at h2
        exact ⟨by omega, fun e => by omega⟩
      · cases h2
def LeS (a b : T) : Prop := rightS a = true ∧ rightS b = true ∧ kd a = kd b ∧ lo b ≤ lo a ∧ hi a ≤ hi b ∧ (an a = true → an b = true ∧ tx b = tx a) ∧ (an a = true ∨ an b = true ∨ tx a = tx b) ∧ ((mb a || mb b) && !one a) = mb a
theorem one_m0 {a b : T} (hk : kd a = kd b) (h1 : lo b ≤ lo a) (h2 : hi a ≤ hi b) (h3 : an a = true → an b = true) : one (m0 a b false) = one a := by
  have e1 : maxI (lo a) (lo b) = lo a := maxI_neg (by omega)
  have e2 : minI (hi a) (hi b) = hi a := minI_neg (by omega)
  have e3 : (an a && an b) = an a := by
    cases ha : an a with
    | false => rfl
    | true => rw [h3 ha]; rfl
  unfold one m0
  rw [kd_trm, lo_trm, hi_trm, an_trm, e1, e2, e3]
theorem below_iff (a b : T) : belowS a b = true ↔ LeS a b := by
  unfold belowS okM sameS LeS
  simp only [Bool.and_eq_true, decide_eq_true_eq, Bool.not_eq_true', decide_eq_false_iff_not, Bool.or_eq_true]
  constructor
  · rintro ⟨⟨⟨⟨⟨ra, rb⟩, hk⟩, hlh⟩, htx⟩, ⟨⟨⟨⟨⟨⟨_, _⟩, _⟩, e1⟩, e2⟩, e3⟩, e4⟩, e5⟩
    unfold mT at e1 e2 e3 e4 e5
    rw [show lo (m0 a b ((mb a || mb b) && !one (m0 a b false))) = maxI (lo a) (lo b) from rfl] at e1
    rw [show hi (m0 a b ((mb a || mb b) && !one (m0 a b false))) = minI (hi a) (hi b) from rfl] at e2
    rw [show tx (m0 a b ((mb a || mb b) && !one (m0 a b false))) = mX a b from rfl] at e3
    rw [show an (m0 a b ((mb a || mb b) && !one (m0 a b false))) = (an a && an b) from rfl] at e4
    rw [show mb (m0 a b ((mb a || mb b) && !one (m0 a b false))) = ((mb a || mb b) && !one (m0 a b false)) from rfl] at e5
    have f1 : lo b ≤ lo a := by unfold maxI at e1; split at e1 <;> omega
    have f2 : hi a ≤ hi b := by unfold minI at e2; split at e2 <;> omega
    have f3 : an a = true → an b = true ∧ tx b = tx a := by
      intro h
      rw [h] at e4
      unfold mX at e3
      rw [if_pos h] at e3
      exact ⟨by simpa using e4, e3⟩
    rw [one_m0 hk f1 f2 (fun h => (f3 h).1)] at e5
    exact ⟨ra, rb, hk, f1, f2, f3, by rcases htx with (h | h) | h; exact .inl h; exact .inr (.inl h); exact .inr (.inr h), e5⟩
  · rintro ⟨ra, rb, hk, f1, f2, f3, htx, e5⟩
    obtain ⟨o1, o2, o3, o4⟩ := right_parts ra
    have hl := right_lohi ra
    have e1 : maxI (lo a) (lo b) = lo a := maxI_neg (by omega)
    have e2 : minI (hi a) (hi b) = hi a := minI_neg (by omega)
    have e3 : mX a b = tx a := by
      unfold mX
      split
      · rename_i h; exact (f3 h).2
      · rfl
    have e4 : (an a && an b) = an a := by
      cases ha : an a with
      | false => rfl
      | true => rw [(f3 ha).1]; rfl
    have e6 := one_m0 hk f1 f2 (fun h => (f3 h).1)
    have hmt : mT a b = trm (kd a) (lo a) (hi a) (tx a) (an a) (mb a) false [] := by
      unfold mT
      rw [e6, e5]
      unfold m0
      rw [e1, e2, e3, e4]
    have hr : rightS (trm (kd a) (lo a) (hi a) (tx a) (an a) (mb a) false []) = true := by
      have hone : one (trm (kd a) (lo a) (hi a) (tx a) (an a) (mb a) false []) = one a := rfl
      unfold rightS
      rw [hone]
      show (!false && decide (([] : List T).length = 0) && !(mb a && one a) && rightK (kd a) (lo a) (hi a) (tx a) (an a)) = true
      rw [o4]
      have : (mb a && one a) = false := by
        cases h1 : mb a <;> cases h2 : one a <;> simp
        exact o3 ⟨h1, h2⟩
      rw [this]
      rfl
    rw [hmt]
    refine ⟨⟨⟨⟨⟨ra, rb⟩, hk⟩, by rw [e1, e2]; omega⟩, by rcases htx with h | h | h; exact .inl (.inl h); exact .inl (.inr h); exact .inr h⟩, ⟨⟨⟨⟨⟨⟨hr, ra⟩, rfl⟩, rfl⟩, rfl⟩, rfl⟩, rfl⟩, rfl⟩
theorem leS_refl {a : T} (h : rightS a = true) : LeS a a := by
  refine ⟨h, h, rfl, by omega, by omega, fun e => ⟨e, rfl⟩, .inr (.inr rfl), ?_⟩
  have := (right_parts h).2.2.1
  cases h1 : mb a <;> cases h2 : one a <;> simp [h1, h2] at this ⊢
theorem leS_trans {a b c : T} (h : LeS a b) (k : LeS b c) : LeS a c := by
  obtain ⟨ra, rb, hk, f1, f2, f3, f4, f5⟩ := h
  obtain ⟨_, rc, gk, g1, g2, g3, g4, g5⟩ := k
  refine ⟨ra, rc, hk.trans gk, by omega, by omega, fun e => ?_, ?_, ?_⟩
  · obtain ⟨p1, p2⟩ := f3 e
    obtain ⟨p3, p4⟩ := g3 p1
    exact ⟨p3, p4.trans p2⟩
  · rcases f4 with h | h | h
    · exact .inl h
    · exact .inr (.inl (g3 h).1)
    · rcases g4 with h2 | h2 | h2
      · exact .inr (.inl (g3 h2).1)
      · exact .inr (.inl h2)
      · exact .inr (.inr (h.trans h2))
  · have hl := right_lohi ra
    have hob : one b = true → one a = true := by
      unfold one
      rw [hk]
      split
      · intro h
        cases ha : an a with
        | false => rfl
        | true => rw [(f3 ha).1] at h; cases h
      · intro h
        have := of_decide_eq_true h
        exact decide_eq_true (by omega)
    cases h1 : mb a <;> cases h2 : mb b <;> cases h3 : mb c <;> cases h4 : one a <;> cases h5 : one b <;> simp [h1, h2, h3, h4, h5] at f5 g5 hob ⊢
theorem below_refl {d : Nat} {U : T → T → Bool} {t : T} (hn : kd t = 4 → Rise (flds t)) (hs : kd t ≠ 4 → kd t ≠ 5 → rightS t = true) (hU : kd t = 4 → ∀ f ∈ flds t, U (val f) (val f) = true) : belowT U t t = true := by
  unfold belowT
  split
  · rfl
  rename_i h5
  split
  · rename_i h4
    have hr := hn h4.1
    have hfind : ∀ i (hi : i < (flds t).length), findF (flds t) (nm (flds t)[i]) 0 = (i : Nat) := by
      intro i hi
      rw [findF_at (l := flds t) (s := nm (flds t)[i]) i 0 (fun k hk e => ?_) hi (by rw [at_get hi]), Nat.zero_add]
      have := hr k i hk hi
      rw [e, at_get hi, slt_irrefl] at this
      cases this
    have hop : (!(op t && !op t)) = true := by cases op t <;> rfl
    have hlk : lackT t t = false := by
      unfold lackT
      rw [Bool.and_eq_false_iff]
      right
      rw [List.any_eq_false]
      intro f hf
      obtain ⟨i, hi, rfl⟩ := List.getElem_of_mem hf
      rw [hfind i hi]
      simp
    rw [hop, hlk]
    simp only [Bool.not_false, Bool.true_and, List.all_eq_true]
    intro f hf
    obtain ⟨i, hi, rfl⟩ := List.getElem_of_mem hf
    unfold fitF atF
    rw [hfind i hi, Int.toNat_natCast, at_get hi, hU h4.1 _ hf, decide_eq_true (by omega)]
    rfl
  · rename_i h4
    exact (below_iff t t).2 (leS_refl (hs (fun e => h4 ⟨e, e⟩) h5))
theorem okT_parts {R : T → Bool} {d : Nat} {t : T} (h : okT R d t = true) : (kd t = 4 → Rise (flds t) ∧ bareT t = true ∧ ∀ f ∈ flds t, R (val f) = true) ∧ (kd t ≠ 4 → kd t ≠ 5 → rightS t = true) := by
  unfold okT at h
  refine ⟨fun h4 => ?_, fun h4 h5 => ?_⟩
  · rw [if_neg (by omega), if_pos h4, Bool.and_eq_true, Bool.and_eq_true, Bool.and_eq_true, List.all_eq_true] at h
    refine ⟨names_rise h.1.2, h.1.1.1, fun f hf => ?_⟩
    have := h.2 f hf
    rw [fullF, Bool.and_eq_true] at this
    exact this.2
  · rw [if_neg h5, if_neg h4] at h
    exact h
theorem okV_term {d : Nat} {v t : T} (h : okV (d + 1) v = true) (ht : t ∈ terms v) : okT (okV d) d t = true := by
  rw [okV, Bool.and_eq_true] at h
  obtain ⟨i, hi, rfl⟩ := List.getElem_of_mem ht
  have := (allN_iff _ _ _).1 h.1 i (by omega) (by omega)
  rw [at_get hi, Bool.and_eq_true] at this
  exact this.1
theorem under_refl : ∀ (d : Nat) (v : T), okV d v = true → underV d v v = true
  | 0, v, h => by cases h
  | d + 1, v, h => by
    rw [underV_succ, List.all_eq_true]
    intro t ht
    rw [List.any_eq_true]
    have hp := okT_parts (okV_term h ht)
    exact ⟨t, ht, below_refl (d := d) (fun h4 => (hp.1 h4).1) hp.2 (fun h4 f hf => under_refl d (val f) ((hp.1 h4).2.2 f hf))⟩
theorem find_some {l : List T} {s : ByteArray} : ∀ (j : Nat), 0 ≤ findF l s j → ∃ i, i < l.length ∧ findF l s j = (j + i : Nat) ∧ nm (tAtD l i) = s := by
  induction l with
  | nil => intro j h; simp [findF] at h
  | cons f l ih =>
    intro j h
    rw [findF] at h ⊢
    by_cases hf : nm f = s
    · rw [if_pos hf]
      exact ⟨0, by simp, rfl, hf⟩
    · rw [if_neg hf] at h ⊢
      obtain ⟨i, h1, h2, h3⟩ := ih (j + 1) h
      exact ⟨i + 1, by simpa using h1, by rw [h2]; congr 1; omega, h3⟩
theorem below_trans {U V W : T → T → Bool} {t u w : T} (hU : ∀ f ∈ flds t, ∀ g ∈ flds u, ∀ h ∈ flds w, U (val f) (val g) = true → V (val g) (val h) = true → W (val f) (val h) = true) (h1 : belowT U t u = true) (h2 : belowT V u w = true) : belowT W t w = true := by
  unfold belowT at h1 h2 ⊢
  by_cases w5 : kd w = 5
  · rw [if_pos w5]
  rw [if_neg w5] at h2 ⊢
  by_cases hw : kd u = 4 ∧ kd w = 4
  · rw [if_pos hw] at h2
    rw [if_neg (by omega)] at h1
    by_cases ht : kd t = 4
    rotate_left
    · rw [if_neg (fun e => ht e.1), below_iff] at h1
      have := right_kd h1.2.1
      omega
    rw [if_pos ⟨ht, hw.1⟩] at h1
    rw [if_pos ⟨ht, hw.2⟩]
    simp only [Bool.and_eq_true, List.all_eq_true] at h1 h2 ⊢
    obtain ⟨⟨a1, a2⟩, a3⟩ := h1
    obtain ⟨⟨b1, b2⟩, b3⟩ := h2
    refine ⟨⟨?_, ?_⟩, fun x hx => ?_⟩
    · cases ot : op t <;> cases ou : op u <;> cases ow : op w <;> simp [ot, ou, ow] at a1 b1 ⊢
    · -- no field is lacking
      cases ow : op w with
      | true => unfold lackT; rw [ow]; rfl
      | false =>
        have ou : op u = false := by cases h : op u <;> simp [h, ow] at b1 ⊢
        unfold lackT at a2 b2 ⊢
        rw [ou] at a2
        rw [ow] at b2 ⊢
        simp only [Bool.not_false, Bool.true_and, Bool.not_eq_true', List.any_eq_false, decide_eq_true_eq] at a2 b2 ⊢
        intro f hf
        have h3 := a2 f hf
        obtain ⟨i, hi, _, hn⟩ := find_some (l := flds u) (s := nm f) 0 (by omega)
        rw [at_get hi] at hn
        have h4 := b2 _ (List.getElem_mem hi)
        rw [hn] at h4
        exact h4
    · have h3 := b3 x hx
      unfold fitF atF at h3 ⊢
      rw [Bool.and_eq_true, decide_eq_true_eq] at h3 ⊢
      obtain ⟨i, hi, he, hn⟩ := find_some (l := flds u) (s := nm x) 0 h3.1
      rw [Nat.zero_add] at he
      have h3' := h3.2
      rw [he, Int.toNat_natCast, at_get hi] at h3'
      have h4 := a3 _ (List.getElem_mem hi)
      unfold fitF atF at h4
      rw [at_get hi] at hn
      rw [Bool.and_eq_true, decide_eq_true_eq, hn] at h4
      refine ⟨h4.1, ?_⟩
      obtain ⟨k, hk, hek, _⟩ := find_some (l := flds t) (s := nm x) 0 h4.1
      rw [Nat.zero_add] at hek
      have h4' := h4.2
      rw [hek, Int.toNat_natCast, at_get hk] at h4' ⊢
      exact hU _ (List.getElem_mem hk) _ (List.getElem_mem hi) _ hx h4' h3'
  · rw [if_neg hw, below_iff] at h2
    have ku := right_kd h2.1
    have kw := right_kd h2.2.1
    rw [if_neg (by omega), if_neg (by omega), below_iff] at h1
    rw [if_neg (by omega), below_iff]
    exact leS_trans h1 h2
theorem under_trans : ∀ (d : Nat) (a b c : T), underV d a b = true → underV d b c = true → underV d a c = true
  | 0, a, b, c, h, _ => by cases h
  | d + 1, a, b, c, h1, h2 => by
    rw [underV_succ, List.all_eq_true] at h1 h2 ⊢
    intro t ht
    have h3 := h1 t ht
    rw [List.any_eq_true] at h3 ⊢
    obtain ⟨u, hu, h3⟩ := h3
    have h4 := h2 u hu
    rw [List.any_eq_true] at h4
    obtain ⟨w, hw, h4⟩ := h4
    exact ⟨w, hw, below_trans (fun f _ g _ h _ p q => under_trans d _ _ _ p q) h3 h4⟩
theorem all_atom : ∀ (d : Nat) (v : T), okV d v = true → allV atomS d v = allV (refOne false) d v
  | 0, v, h => rfl
  | d + 1, v, h => by
    rw [allV, allV]
    by_cases h1 : (terms v).length = 1
    rotate_left
    · rw [decide_eq_false h1, Bool.false_and, Bool.false_and]
    have hm : oneT v ∈ terms v := by unfold oneT; rw [at_get (by omega)]; exact List.getElem_mem _
    have hp := okT_parts (okV_term h hm)
    by_cases h5 : kd (oneT v) = 5
    · rw [decide_eq_true h5]; simp
    by_cases h4 : kd (oneT v) = 4
    · rw [if_pos h4, if_pos h4]
      have : ((flds (oneT v)).all fun f => allV atomS d (val f)) = (flds (oneT v)).all fun f => allV (refOne false) d (val f) := by
        rw [Bool.eq_iff_iff, List.all_eq_true, List.all_eq_true]
        constructor
        · intro hh f hf; rw [← all_atom d (val f) ((hp.1 h4).2.2 f hf)]; exact hh f hf
        · intro hh f hf; rw [all_atom d (val f) ((hp.1 h4).2.2 f hf)]; exact hh f hf
      rw [this]
    · rw [if_neg h4, if_neg h4]
      have : atomS (oneT v) = refOne false (oneT v) := by
        unfold atomS refOne
        rw [hp.2 h4 h5]
        simp
      rw [this]
theorem all_ready : ∀ (d : Nat) (v : T), allV atomS d v = true → allV readyS d v = true
  | 0, v, h => by cases h
  | d + 1, v, h => by
    rw [allV] at h ⊢
    simp only [Bool.and_eq_true] at h ⊢
    refine ⟨h.1, h.2.1, ?_⟩
    have h2 := h.2.2
    split
    · rename_i h4
      rw [if_pos h4, List.all_eq_true] at h2
      rw [List.all_eq_true]
      exact fun f hf => all_ready d (val f) (h2 f hf)
    · rename_i h4
      rw [if_neg h4] at h2
      unfold atomS at h2
      unfold readyS
      rw [h2]
      cases mb (oneT v) <;> rfl
theorem one_term {v t : T} (h : (terms v).length = 1) (ht : t ∈ terms v) : t = oneT v := by
  obtain ⟨i, hi, rfl⟩ := List.getElem_of_mem ht
  unfold oneT
  rw [at_get (by omega)]
  have : i = 0 := by omega
  subst this
  rfl
theorem not_waits : ∀ (d : Nat) (v : T), okV d v = true → allV atomS d v = true → waitV d v = false
  | 0, v, h, _ => by cases h
  | d + 1, v, ho, h => by
    rw [allV] at h
    simp only [Bool.and_eq_true, decide_eq_true_eq, Bool.not_eq_true', decide_eq_false_iff_not] at h
    obtain ⟨h1, h5, h2⟩ := h
    rw [waitV, List.any_eq_false]
    intro t ht
    have he := one_term h1 ht
    have hp := okT_parts (okV_term ho ht)
    rw [← he] at h2 h5
    by_cases h4 : kd t = 4
    · obtain ⟨_, hb, hR⟩ := hp.1 h4
      rw [if_pos h4, List.all_eq_true] at h2
      have hmb : mb t = false := by
        unfold bareT at hb
        simp only [Bool.and_eq_true, Bool.not_eq_true'] at hb
        exact hb.2
      rw [hmb, Bool.false_or, Bool.not_eq_true, List.any_eq_false]
      intro f hf
      rw [not_waits d (val f) (hR f hf) (h2 f hf)]
      simp
    · rw [if_neg h4] at h2
      unfold atomS at h2
      rw [Bool.and_eq_true] at h2
      obtain ⟨_, hf, hmo, _⟩ := right_parts h2.1
      rw [hf]
      have hmb : mb t = false := by
        cases h : mb t with
        | false => rfl
        | true => exact absurd ⟨h, h2.2⟩ hmo
      rw [hmb]
      simp
theorem refV_ok {v : T} (h : refV 20 v = true) : okV 20 v = true := by
  rw [refV_eq, Bool.and_eq_true] at h
  exact h.1
theorem refines_same (a b : T) : refinesV a b = rrefinesV a b := by
  unfold refinesV rrefinesV belowV
  cases h : refV 20 a with
  | false => simp only [Bool.false_and]
  | true => simp only [all_atom 20 a (refV_ok h), Bool.true_and]
theorem refines_parts {a b : T} (h : refinesV a b = true) : refV 20 a = true ∧ allV atomS 20 a = true ∧ refV 20 b = true ∧ underV 20 a b = true := by
  unfold refinesV belowV at h
  simp only [Bool.and_eq_true] at h
  exact ⟨h.1.1, h.1.2, h.2.2.1, h.2.2.2⟩
theorem refines_of {a b : T} (h1 : refV 20 a = true) (h2 : allV atomS 20 a = true) (h3 : refV 20 b = true) (h4 : underV 20 a b = true) : refinesV a b = true := by
  unfold refinesV belowV
  rw [h1, h2, h3, h4]
  rfl
end Go.Proofs.YtoekafpmpopigaaGreatDoorFP
namespace Go.Proofs.YtoekafpmpopigaaGreatDoorFP
open Go Go.Proofs.YtoekafpmpopigaaGreatDoorVM
set_option linter.unusedVariables false
set_option linter.unusedSimpArgs false
set_option maxRecDepth 100000

theorem Dz.steps {i : Nat} {p : Option (List Bool)} {R : Nat × List A} (n : Nat) (I : Nat → List A) (hend : Dz i p (I n) R) (hstep : ∀ j, j < n → ∀ R, Dz i p (I (j + 1)) R → Dz i p (I j) R) : Dz i p (I 0) R := by
  have : ∀ k j, j + k = n → Dz i p (I j) R := by
    intro k
    induction k with
    | zero => intro j hj; rw [show j = n by omega]; exact hend
    | succ k ih => intro j hj; exact hstep j (by omega) R (ih (j + 1) (by omega))
  exact this n 0 (by omega)
def sameL (a b : List T) : Bool := decide (a.map T.txt = b.map T.txt)
theorem same_loop {i : Nat} {p : Option (List Bool)} (a b : List T) (hab : a.length = b.length) (I : Nat → List A)
    (hq : ∀ n j, j < a.length → den Tryz.prog G0 ents (Nat.succ n) i p (I j) = if seqB (tAtD a j).txt (tAtD b j).txt = true then den Tryz.prog G0 ents n i p (I (j + 1)) else some (1, [A.t (T.bool false)]))
    (he : ∀ n, den Tryz.prog G0 ents (Nat.succ n) i p (I a.length) = some (2, [])) : Dz i p (I 0) (if sameL a b then (2, []) else (1, [A.t (T.bool false)])) := by
  have : ∀ k j, j + k = a.length → Dz i p (I j) (if (a.drop j).map T.txt = (b.drop j).map T.txt then (2, []) else (1, [A.t (T.bool false)])) := by
    intro k
    induction k with
    | zero =>
      intro j hj
      rw [List.drop_of_length_le (by omega), List.drop_of_length_le (by omega), if_pos rfl, show j = a.length by omega]
      exact Does.now he
    | succ k ih =>
      intro j hj
      have h1 : j < a.length := by omega
      have h2 : j < b.length := by omega
      rw [List.drop_eq_getElem_cons h1, List.drop_eq_getElem_cons h2, List.map_cons, List.map_cons]
      cases hs : seqB a[j].txt b[j].txt with
      | true =>
        have e : a[j].txt = b[j].txt := (seqB_iff _ _).1 hs
        have ih' := ih (j + 1) (by omega)
        rw [e]
        simp only [List.cons.injEq, true_and]
        refine Does.next ih' fun n => ?_
        rw [hq n j h1, at_get h1, at_get h2, hs, if_pos rfl]
      | false =>
        have hne : a[j].txt ≠ b[j].txt := fun e => by rw [(seqB_iff _ _).2 e] at hs; cases hs
        rw [if_neg (fun e => hne (List.cons.inj e).1)]
        refine Does.now fun n => ?_
        rw [hq n j h1, at_get h1, at_get h2, hs, if_neg (by simp)]
  have h0 := this a.length 0 (by omega)
  unfold sameL
  simp only [List.drop_zero] at h0
  simpa using h0
theorem sameL_len {a b : List T} (h : a.length ≠ b.length) : sameL a b = false := decide_eq_false fun e => h (by simpa using congrArg List.length e)
def hasS (ss : List ByteArray) (s : ByteArray) : Bool := ss.any fun x => seqB x s
theorem hasS_iff (ss : List ByteArray) (s : ByteArray) : hasS ss s = true ↔ s ∈ ss := by
  unfold hasS
  rw [List.any_eq_true]
  constructor
  · rintro ⟨x, hx, h⟩; rw [← (seqB_iff _ _).1 h]; exact hx
  · intro h; exact ⟨s, h, (seqB_iff _ _).2 rfl⟩
def insS : List ByteArray → ByteArray → List ByteArray
  | [], s => [s]
  | x :: l, s => if sltB s x then s :: x :: l else x :: insS l s
def putS (ss : List ByteArray) (s : ByteArray) : List ByteArray := if hasS ss s then ss else insS ss s
theorem str_at {ss : List ByteArray} {j : Nat} (h : j < ss.length) : (tAtD (ss.map T.str) j).txt = ss[j] := by
  rw [at_get (by simpa using h), List.getElem_map]; rfl
def putStep (s : ByteArray) (st : Bool × List T) (x : ByteArray) : Bool × List T := if (!st.1 && sltB s x) = true then (true, (st.2 ++ [T.str s]) ++ [T.str x]) else (st.1, st.2 ++ [T.str x])
theorem put_true (s : ByteArray) : ∀ (ss : List ByteArray) (out : List T), ss.foldl (putStep s) (true, out) = (true, out ++ ss.map T.str)
  | [], out => by simp
  | x :: ss, out => by
    rw [List.foldl_cons, show putStep s (true, out) x = (true, out ++ [T.str x]) from rfl, put_true s ss]
    simp
theorem put_false (s : ByteArray) : ∀ (ss : List ByteArray) (out : List T), (let st := ss.foldl (putStep s) (false, out); if st.1 then st.2 else st.2 ++ [T.str s]) = out ++ (insS ss s).map T.str
  | [], out => by simp [insS]
  | x :: ss, out => by
    rw [List.foldl_cons, insS]
    by_cases h : sltB s x = true
    · rw [show putStep s (false, out) x = (true, (out ++ [T.str s]) ++ [T.str x]) by simp [putStep, h], put_true, if_pos h]
      simp
    · rw [show putStep s (false, out) x = (false, out ++ [T.str x]) by simp [putStep, h], if_neg h]
      have := put_false s ss (out ++ [T.str x])
      rw [this]
      simp
theorem putStep_len (s : ByteArray) (st : Bool × List T) (x : ByteArray) : (putStep s st x).2.length ≤ st.2.length + 2 := by
  unfold putStep
  split <;> simp
def RiseS : List ByteArray → Prop
  | [] => True
  | x :: l => (∀ y ∈ l, sltB x y = true) ∧ RiseS l
theorem riseS_ext : ∀ {a b : List ByteArray}, RiseS a → RiseS b → (∀ x, x ∈ a ↔ x ∈ b) → a = b
  | [], [], _, _, _ => rfl
  | [], y :: b, _, _, h => by have := (h y).2 List.mem_cons_self; cases this
  | x :: a, [], _, _, h => by have := (h x).1 List.mem_cons_self; cases this
  | x :: a, y :: b, ha, hb, h => by
    have hxy : x = y := by
      rcases List.mem_cons.1 ((h x).1 List.mem_cons_self) with e | e
      · exact e
      rcases List.mem_cons.1 ((h y).2 List.mem_cons_self) with e2 | e2
      · exact e2.symm
      have h1 := hb.1 x e
      have h2 := ha.1 y e2
      rw [slt_asymm h1] at h2
      cases h2
    subst hxy
    have : a = b := riseS_ext ha.2 hb.2 fun z => by
      constructor
      · intro hz
        rcases List.mem_cons.1 ((h z).1 (List.mem_cons_of_mem _ hz)) with e | e
        · subst e; have := ha.1 z hz; rw [slt_irrefl] at this; cases this
        · exact e
      · intro hz
        rcases List.mem_cons.1 ((h z).2 (List.mem_cons_of_mem _ hz)) with e | e
        · subst e; have := hb.1 z hz; rw [slt_irrefl] at this; cases this
        · exact e
    rw [this]
theorem insS_mem (ss : List ByteArray) (s x : ByteArray) : x ∈ insS ss s ↔ x = s ∨ x ∈ ss := by
  induction ss with
  | nil => simp [insS]
  | cons y l ih =>
    rw [insS]
    split
    · simp
    · rw [List.mem_cons, ih, List.mem_cons]
      constructor
      · rintro (h | h | h)
        · exact .inr (.inl h)
        · exact .inl h
        · exact .inr (.inr h)
      · rintro (h | h | h)
        · exact .inr (.inl h)
        · exact .inl h
        · exact .inr (.inr h)
theorem insS_rise {ss : List ByteArray} {s : ByteArray} (h : RiseS ss) (hn : s ∉ ss) : RiseS (insS ss s) := by
  induction ss with
  | nil => exact ⟨fun y hy => (by cases hy), trivial⟩
  | cons y l ih =>
    rw [insS]
    split
    · rename_i hs
      refine ⟨fun z hz => ?_, h⟩
      rcases List.mem_cons.1 hz with e | e
      · subst e; exact hs
      · exact slt_trans hs (h.1 z e)
    · rename_i hs
      refine ⟨fun z hz => ?_, ih h.2 (fun e => hn (List.mem_cons_of_mem _ e))⟩
      rcases (insS_mem l s z).1 hz with e | e
      · subst e
        rcases slt_tri z y with h1 | h1 | h1
        · exact absurd h1 hs
        · exact h1
        · subst h1; exact absurd List.mem_cons_self hn
      · exact h.1 z e
theorem putS_mem (ss : List ByteArray) (s x : ByteArray) : x ∈ putS ss s ↔ x = s ∨ x ∈ ss := by
  unfold putS
  split
  · rename_i h
    rw [hasS_iff] at h
    constructor
    · exact .inr
    · rintro (e | e)
      · subst e; exact h
      · exact e
  · exact insS_mem ss s x
theorem putS_rise {ss : List ByteArray} {s : ByteArray} (h : RiseS ss) : RiseS (putS ss s) := by
  unfold putS
  split
  · exact h
  · rename_i hh
    exact insS_rise h fun e => hh ((hasS_iff _ _).2 e)
theorem putS_len (ss : List ByteArray) (s : ByteArray) : (putS ss s).length ≤ ss.length + 1 := by
  have hi : ∀ l : List ByteArray, (insS l s).length = l.length + 1 := by
    intro l
    induction l with
    | nil => rfl
    | cons y l ih => rw [insS]; split <;> simp [*]
  unfold putS
  split
  · omega
  · rw [hi]; omega
theorem foldPut_mem (l : List ByteArray) : ∀ (acc : List ByteArray) (x : ByteArray), x ∈ l.foldl putS acc ↔ x ∈ acc ∨ x ∈ l := by
  induction l with
  | nil => simp
  | cons y l ih =>
    intro acc x
    rw [List.foldl_cons, ih, putS_mem, List.mem_cons]
    constructor
    · rintro ((h | h) | h)
      · exact .inr (.inl h)
      · exact .inl h
      · exact .inr (.inr h)
    · rintro (h | h | h)
      · exact .inl (.inr h)
      · exact .inl (.inl h)
      · exact .inr h
theorem foldPut_rise (l : List ByteArray) : ∀ (acc : List ByteArray), RiseS acc → RiseS (l.foldl putS acc) := by
  induction l with
  | nil => exact fun _ h => h
  | cons y l ih => intro acc h; exact ih _ (putS_rise h)
theorem foldPut_len (l : List ByteArray) : ∀ (acc : List ByteArray), (l.foldl putS acc).length ≤ acc.length + l.length := by
  induction l with
  | nil => simp
  | cons y l ih => intro acc; have := ih (putS acc y); have := putS_len acc y; simp only [List.foldl_cons, List.length_cons]; omega
end Go.Proofs.YtoekafpmpopigaaGreatDoorFP
namespace Go.Proofs.YtoekafpmpopigaaGreatDoorFP
open Go Go.Proofs.YtoekafpmpopigaaGreatDoorVM
set_option linter.unusedVariables false
set_option linter.unusedSimpArgs false
set_option maxRecDepth 100000

theorem cloneT_eq (n : Nat) (l : List T) : den Tryz.prog G0 ents (Nat.succ n) i_slices_Clone_Term none [A.t (T.node l)] = Option.map (fun o => (1, o)) (cloneF [A.t (T.node l)]) := by kernel_rfl
theorem cloneFd_eq (n : Nat) (l : List T) : den Tryz.prog G0 ents (Nat.succ n) i_slices_Clone_Field none [A.t (T.node l)] = Option.map (fun o => (1, o)) (cloneF [A.t (T.node l)]) := by kernel_rfl
theorem cloneF_of {l : List T} (h : l.length ≤ 1000000000) : cloneF [A.t (T.node l)] = some [A.t (T.node l)] := by
  show (bif decide (l.length ≤ 1000000000) then _ else _) = _
  rw [decide_eq_true h]; rfl
theorem cloneT_does (l : List T) (h : l.length ≤ 1000000000) : Dz i_slices_Clone_Term none [A.t (T.node l)] (1, [A.t (T.node l)]) := Does.now fun n => by rw [cloneT_eq, cloneF_of h]; rfl
theorem cloneFd_does (l : List T) (h : l.length ≤ 1000000000) : Dz i_slices_Clone_Field none [A.t (T.node l)] (1, [A.t (T.node l)]) := Does.now fun n => by rw [cloneFd_eq, cloneF_of h]; rfl
def copyF (c : T → T) (f : T) : T := .node [f.get 0, c (val f)]
def copyT (c : T → T) (t : T) : T := .node [t.get 0, t.get 1, t.get 2, t.get 3, t.get 4, t.get 5, t.get 6, .node ((flds t).map (copyF c))]
def copyV : Nat → T → T
  | 0, _ => .node [.node []]
  | d + 1, v => .node [.node ((terms v).map (copyT (copyV d)))]
def half (g : T → T) (l : List T) (j : Nat) : List T := (l.take j).map g ++ l.drop j
theorem half_zero (g : T → T) (l : List T) : half g l 0 = l := by simp [half]
theorem half_end (g : T → T) (l : List T) : half g l l.length = l.map g := by simp [half]
theorem half_len (g : T → T) (l : List T) (j : Nat) : (half g l j).length = l.length := by simp [half]; omega
theorem half_at {g : T → T} {l : List T} {j : Nat} (h : j < l.length) : tAtD (half g l j) j = l[j] := by
  rw [at_get (by rw [half_len]; exact h)]
  unfold half
  rw [List.getElem_append_right (by simp; omega)]
  simp [Nat.min_eq_left (Nat.le_of_lt h)]
theorem half_set {g : T → T} {l : List T} {j : Nat} (h : j < l.length) : (half g l j).set j (g l[j]) = half g l (j + 1) := by
  unfold half
  rw [List.set_append_right _ _ (by simp; omega), List.take_add_one, List.getElem?_eq_getElem h]
  simp only [List.length_map, List.length_take, Nat.min_eq_left (Nat.le_of_lt h), Nat.sub_self, List.map_append, Option.toList_some, List.map_cons, List.map_nil, List.append_assoc]
  rw [List.drop_eq_getElem_cons h]
  rfl
theorem copy_c2 (c : T → T) (i0 n i : Int) (x5 x6 : T) (l : List T) (hl : l.length ≤ 1000) (hc : ∀ f ∈ l, Dz i_rank_Copy none [A.t (val f)] (1, [A.t (c (val f))])) :
    Dz i_rank_Copy (some p_rank_Copy_c2) [A.t (T.int i0), A.t (T.int n), A.t (T.int i), A.t (T.int (l.length : Nat)), A.t (T.int 0), A.t x5, A.t x6, A.t (T.node l)] (4, [A.t (T.int i0), A.t (T.int n), A.t (T.int i), A.t x5, A.t (T.node x6.kids), A.t (T.node (l.map (copyF c)))]) := by
  have := Dz.steps (i := i_rank_Copy) (p := some p_rank_Copy_c2) (R := (4, [A.t (T.int i0), A.t (T.int n), A.t (T.int i), A.t x5, A.t (T.node x6.kids), A.t (T.node (l.map (copyF c)))])) l.length
    (fun j => [A.t (T.int i0), A.t (T.int n), A.t (T.int i), A.t (T.int (l.length : Nat)), A.t (T.int j), A.t x5, A.t (T.node x6.kids), A.t (T.node (half (copyF c) l j))]) (by
      refine Does.now fun m => ?_
      rw [q_rank_Copy_c2]
      simp only [S0, S9, S1, S2, if_true, if_false, half_end]
      rw [if_neg (by omega)]) (fun j hj R hR => by
      have hw : IntKind.i64.wrap ((j : Int) + 1) = ((j + 1 : Nat) : Int) := i64succ (by omega)
      obtain ⟨n0, h0⟩ := (hc _ (List.getElem_mem hj)).both hR
      refine Does.of n0 fun m hm => ?_
      obtain ⟨q1, q2⟩ := h0 m hm
      have hs := half_set (g := copyF c) hj
      unfold copyF at hs q2
      rw [← hs] at q2
      rw [q_rank_Copy_c2]
      unfold copyF
      simp only [S0, S9, S1, S2, if_true, if_false, half_len, half_at hj, val_eq, hw, q1]
      rw [if_pos (by omega), if_pos (by omega), if_pos (by omega), if_pos (by omega), if_pos (by omega)]
      exact q2)
  rw [half_zero] at this
  have h6 : ∀ R, Dz i_rank_Copy (some p_rank_Copy_c2) [A.t (T.int i0), A.t (T.int n), A.t (T.int i), A.t (T.int (l.length : Nat)), A.t (T.int 0), A.t x5, A.t (T.node x6.kids), A.t (T.node l)] R → Dz i_rank_Copy (some p_rank_Copy_c2) [A.t (T.int i0), A.t (T.int n), A.t (T.int i), A.t (T.int (l.length : Nat)), A.t (T.int 0), A.t x5, A.t x6, A.t (T.node l)] R := by
    intro R ⟨n0, h0⟩
    refine Does.of n0 fun m hm => ?_
    have := h0 (m + 1) (by omega)
    rw [q_rank_Copy_c2] at this ⊢
    exact this
  exact h6 _ this
theorem copy_does : ∀ (d : Nat) (v : T), Sm d v → Dz i_rank_Copy none [A.t v] (1, [A.t (copyV d v)])
  | 0, v, h => h.1.elim
  | d + 1, v, h => by
    have hl := h.terms
    have hloop := Dz.steps (i := i_rank_Copy) (p := some p_rank_Copy_c1) (R := (2, [A.t (T.node [T.node []]), A.t (T.node ((terms v).map (copyT (copyV d))))])) (terms v).length
      (fun j => [A.t (T.int ((terms v).length : Nat)), A.t (T.int j), A.t (T.node [T.node []]), A.t (T.node (half (copyT (copyV d)) (terms v) j))]) (by
        refine Does.now fun m => ?_
        rw [q_rank_Copy_c1]
        simp only [S0, S9, S1, S2, if_true, if_false, half_end]
        rw [if_neg (by omega)]) (fun j hj R hR => by
        have hw : IntKind.i64.wrap ((j : Int) + 1) = ((j + 1 : Nat) : Int) := i64succ (by omega)
        have hm := List.getElem_mem hj
        have hf := h.flds hm
        obtain ⟨n1, h1⟩ := (cloneFd_does (flds (terms v)[j]) (by omega)).both (copy_c2 (copyV d) j ((terms v).length : Nat) j (T.node [T.node []]) (T.node (half (copyT (copyV d)) (terms v) j)) (flds (terms v)[j]) (by omega) (fun f hf' => copy_does d _ (h.sub hm hf')))
        obtain ⟨n0, h0⟩ := hR
        refine Does.of (n0 + n1) fun m hm => ?_
        obtain ⟨q1, q2⟩ := h1 m (by omega)
        have q3 := h0 m (by omega)
        have hs := half_set (g := copyT (copyV d)) hj
        unfold copyT at hs q3
        rw [← hs] at q3
        rw [q_rank_Copy_c1]
        unfold copyT at q2 ⊢
        simp only [S0, S9, S1, S2, if_true, if_false, half_len, half_at hj, hw, q1, q2]
        rw [if_pos (by omega), if_pos (by omega), if_pos (by omega), if_pos (by omega), if_pos (by omega)]
        exact q3)
    rw [half_zero] at hloop
    obtain ⟨n0, h0⟩ := (cloneT_does (terms v) (by omega)).both hloop
    refine Does.of n0 fun m hm => ?_
    obtain ⟨q1, q2⟩ := h0 m hm
    have q2' : den Tryz.prog G0 ents m i_rank_Copy (some p_rank_Copy_c1) [A.t (T.int ((terms v).length : Nat)), A.t (T.int 0), A.t (T.node [T.node []]), A.t (T.node (terms v))] = _ := q2
    rw [q_rank_Copy]
    simp only [S0, S9, S1, S2, if_true, if_false, q1, q2']
    rfl
theorem cmpL_map {f : T → T → Int} {g : T → T} : ∀ {l : List T}, (∀ x ∈ l, f (g x) x = 0) → cmpL f (l.map g) l = 0
  | [], _ => rfl
  | x :: l, h => by rw [List.map_cons, cmpL_cons, h x List.mem_cons_self, fst_zero]; exact cmpL_map fun y hy => h y (List.mem_cons_of_mem _ hy)
theorem cmpI_self (a : Int) : cmpI a a = 0 := cmpI_zero.2 rfl
theorem cmpB_self (a : ByteArray) : cmpB a a = 0 := cmpB_zero.2 rfl
theorem cmpF1_self (a : Bool) : cmpF1 a a = 0 := cmpF1_zero.2 rfl
theorem plainC_self (t : T) : plainC t t = 0 := by
  unfold plainC
  simp only [cmpI_self, cmpB_self, cmpF1_self, fst_zero]
theorem cmpV_copy : ∀ (d : Nat) (v : T), cmpV d (copyV d v) v = 0
  | 0, v => rfl
  | d + 1, v => by
    rw [cmpV_succ]
    show cmpL (cmpT d) ((terms v).map (copyT (copyV d))) (terms v) = 0
    refine cmpL_map fun t _ => ?_
    unfold cmpT
    rw [show plainC (copyT (copyV d) t) t = plainC t t from rfl, plainC_self, fst_zero]
    show cmpL (cmpG d) ((flds t).map (copyF (copyV d))) (flds t) = 0
    refine cmpL_map fun f _ => ?_
    unfold cmpG
    rw [show nm (copyF (copyV d) f) = nm f from rfl, cmpB_self, fst_zero]
    exact cmpV_copy d (val f)
theorem copy_Vd : ∀ (d : Nat) (v : T), Vd d v → Vd d (copyV d v)
  | 0, v, h => h.elim
  | d + 1, v, h => by
    intro t ht
    have ht' : t ∈ (terms v).map (copyT (copyV d)) := ht
    obtain ⟨u, hu, rfl⟩ := List.mem_map.1 ht'
    obtain ⟨h1, h2, h3⟩ := h u hu
    have hf : flds (copyT (copyV d) u) = (flds u).map (copyF (copyV d)) := rfl
    rw [hf]
    refine ⟨by simpa using h1, h2, fun f hf' => ?_⟩
    obtain ⟨g, hg, rfl⟩ := List.mem_map.1 hf'
    exact ⟨(h3 g hg).1, copy_Vd d _ (h3 g hg).2⟩
theorem copy_wt : ∀ (d : Nat) (v : T), wt d (copyV d v) = wt d v
  | 0, v => rfl
  | d + 1, v => by
    rw [wt_succ, wt_succ]
    show sumN (((terms v).map (copyT (copyV d))).map (wtT d)) = _
    rw [List.map_map]
    congr 1
    refine List.map_congr_left fun t _ => ?_
    show 1 + sumN (((flds t).map (copyF (copyV d))).map fun f => wt d (val f)) = 1 + sumN ((flds t).map fun f => wt d (val f))
    rw [List.map_map]
    congr 2
    exact List.map_congr_left fun f _ => copy_wt d (val f)
theorem copy_Sm {d : Nat} {v : T} (h : Sm d v) : Sm d (copyV d v) := ⟨copy_Vd d v h.1, by rw [copy_wt]; exact h.2⟩
theorem r08same_does {a b : T} (ha : Sm 20 a) (hb : Sm 20 b) : Dz i_R08_Same none [A.t a, A.t b] (1, [A.t (T.bool (decide (cmpV 20 a b = 0)))]) := by
  obtain ⟨n0, h0⟩ := rcompare_does 20 a b ha hb
  refine Does.of n0 fun m hm => ?_
  rw [q_R08_Same]
  simp only [S0, S9, S1, S2, if_true, if_false, h0 m hm, beqI]
end Go.Proofs.YtoekafpmpopigaaGreatDoorFP
namespace Go.Proofs.YtoekafpmpopigaaGreatDoorFP
open Go Go.Proofs.YtoekafpmpopigaaGreatDoorVM
set_option linter.unusedVariables false
set_option linter.unusedSimpArgs false
set_option maxRecDepth 100000

theorem maxI_nat (a b : Nat) : maxI (a : Int) (b : Int) = ((max a b : Nat) : Int) := by
  unfold maxI
  split <;> omega
theorem fold_stp {α β : Type} (f : β → α → β) (l : List α) (a : β) {j : Nat} (hj : j < l.length) : (l.take (j + 1)).foldl f a = f ((l.take j).foldl f a) l[j] := by
  rw [List.take_add_one, List.getElem?_eq_getElem hj, List.foldl_append]; rfl
theorem pdep_c2 (d : Nat) (a : Nat) (x1 : T) (x2 x3 : Int) (fs : List T) (hl : fs.length ≤ 1000) (hf : ∀ f ∈ fs, Dz i_rank_Depth none [A.t (val f)] (1, [A.t (T.int (dep d (val f) : Nat))])) :
    Dz i_rank_Depth (some p_rank_Depth_c2) [A.t (T.int a), A.t (T.node x1.kids), A.t (T.int x2), A.t (T.int x3), A.t (T.node fs), A.t (T.int (fs.length : Nat)), A.t (T.int 0)] (4, [A.t (T.int (max a (maxN (fs.map fun f => dep d (val f))) : Nat)), A.t (T.node x1.kids), A.t (T.int x2), A.t (T.int x3)]) := by
  have h := Dz.steps (i := i_rank_Depth) (p := some p_rank_Depth_c2) (R := (4, [A.t (T.int (max a (maxN (fs.map fun f => dep d (val f))) : Nat)), A.t (T.node x1.kids), A.t (T.int x2), A.t (T.int x3)])) fs.length
    (fun j => [A.t (T.int ((fs.take j).foldl (fun a f => max a (dep d (val f))) a : Nat)), A.t (T.node x1.kids), A.t (T.int x2), A.t (T.int x3), A.t (T.node fs), A.t (T.int (fs.length : Nat)), A.t (T.int j)]) (by
      refine Does.now fun m => ?_
      rw [q_rank_Depth_c2, List.take_length, max_foldl]
      simp only [S0, S9, S1, S2, if_true, if_false]
      rw [if_neg (by omega)]) (fun j hj R hR => by
      have hw : IntKind.i64.wrap ((j : Int) + 1) = ((j + 1 : Nat) : Int) := i64succ (by omega)
      have g1 : (0 : Int) ≤ (j : Int) := by omega
      have g2 : (j : Int) < (fs.length : Int) := by omega
      rw [fold_stp _ _ _ hj] at hR
      obtain ⟨n0, h0⟩ := (hf _ (List.getElem_mem hj)).both hR
      refine Does.of n0 fun m hm => ?_
      obtain ⟨q1, q2⟩ := h0 m hm
      rw [q_rank_Depth_c2]
      simp only [S0, S9, S1, S2, if_true, if_false, g1, g2, and_self, at_get hj, val_eq, q1, hw, maxI_nat]
      exact q2)
  exact h
theorem pdepth_does : ∀ (d : Nat) (v : T), d < 1000000 → Sm d v → Dz i_rank_Depth none [A.t v] (1, [A.t (T.int (dep d v : Nat))])
  | 0, v, _, h => h.1.elim
  | d + 1, v, hd20, h => by
    have hl := h.terms
    have hloop := Dz.steps (i := i_rank_Depth) (p := some p_rank_Depth_c1) (R := (2, [A.t (T.int (maxN ((terms v).map (depT d)) : Nat))])) (terms v).length
      (fun j => [A.t (T.int (((terms v).take j).foldl (fun a t => max a (depT d t)) 0 : Nat)), A.t (T.node (terms v)), A.t (T.int ((terms v).length : Nat)), A.t (T.int j)]) (by
        refine Does.now fun m => ?_
        rw [q_rank_Depth_c1, List.take_length, max_foldl, Nat.zero_max]
        simp only [S0, S9, S1, S2, if_true, if_false]
        rw [if_neg (by omega)]) (fun j hj R hR => by
        have hw : IntKind.i64.wrap ((j : Int) + 1) = ((j + 1 : Nat) : Int) := i64succ (by omega)
        have g1 : (0 : Int) ≤ (j : Int) := by omega
        have g2 : (j : Int) < ((terms v).length : Int) := by omega
        have hm := List.getElem_mem hj
        have hf := h.flds hm
        rw [fold_stp _ _ _ hj] at hR
        obtain ⟨n0, h0⟩ := (pdep_c2 d (((terms v).take j).foldl (fun a t => max a (depT d t)) 0) (T.node (terms v)) ((terms v).length : Nat) j (flds (terms v)[j]) (by omega) (fun f hf' => pdepth_does d _ (by omega) (h.sub hm hf'))).both hR
        refine Does.of n0 fun m hm => ?_
        obtain ⟨q1, q2⟩ := h0 m hm
        rw [kids_node] at q1
        unfold depT at q2
        rw [q_rank_Depth_c1]
        simp only [S0, S9, S1, S2, if_true, if_false, g1, g2, and_self, at_get hj, q1, hw]
        exact q2)
    obtain ⟨n0, h0⟩ := hloop
    refine Does.of n0 fun m hm => ?_
    have q : den Tryz.prog G0 ents m i_rank_Depth (some p_rank_Depth_c1) [A.t (T.int 0), A.t (T.node (terms v)), A.t (T.int ((terms v).length : Nat)), A.t (T.int 0)] = _ := h0 m hm
    have hd : dep (d + 1) v = maxN ((terms v).map (depT d)) + 1 := by rw [dep_succ]; omega
    have hb : ∀ (d : Nat) (v : T), Vd d v → dep d v ≤ d := by
      intro d
      induction d with
      | zero => intro v h; exact h.elim
      | succ d ih =>
        intro v h
        rw [dep_succ]
        have : maxN ((terms v).map (depT d)) ≤ d := by
          rw [maxN_le]
          intro x hx
          obtain ⟨t, ht, rfl⟩ := List.mem_map.1 hx
          rw [depT, maxN_le]
          intro y hy
          obtain ⟨f, hf, rfl⟩ := List.mem_map.1 hy
          exact ih _ ((h t ht).2.2 f hf).2
        omega
    have hw : IntKind.i64.wrap (((maxN ((terms v).map (depT d)) : Nat) : Int) + 1) = ((maxN ((terms v).map (depT d)) + 1 : Nat) : Int) := i64succ (by
      have : ∀ x ∈ (terms v).map (depT d), x ≤ d := fun x hx => by
        obtain ⟨t, ht, rfl⟩ := List.mem_map.1 hx
        rw [depT, maxN_le]
        intro y hy
        obtain ⟨f, hf, rfl⟩ := List.mem_map.1 hy
        exact hb _ _ ((h.1 t ht).2.2 f hf).2
      have := (maxN_le ((terms v).map (depT d)) d).2 this
      omega)
    rw [q_rank_Depth, hd]
    simp only [S0, S9, S1, S2, if_true, if_false, q, hw]
end Go.Proofs.YtoekafpmpopigaaGreatDoorFP
namespace Go.Proofs.YtoekafpmpopigaaGreatDoorFP
open Go Go.Proofs.YtoekafpmpopigaaGreatDoorVM
set_option linter.unusedVariables false
set_option linter.unusedSimpArgs false
set_option maxRecDepth 100000

theorem run_ofp {i : Nat} {p : Option (List Bool)} {xs : List A} {r : Nat × List A} (k : Nat) (h : ∀ n, den Tryz.prog G0 ents (up k n) i p xs = some r) : Dz i p xs r :=
  ⟨k, fun n hn => by
    obtain ⟨j, rfl⟩ : ∃ j, n = j + k := ⟨n - k, by omega⟩
    rw [← up_add]
    exact h j⟩
theorem sort1_does (t : T) : Dz i_slices_SortFunc_Term_Terms_o none [A.t (T.node [t])] (1, [A.t (T.node [t])]) := run_of 20 fun n => by kernel_rfl
theorem compact1_does (t : T) : Dz i_slices_CompactFunc_Term_settle1_o none [A.t (T.node [t])] (1, [A.t (T.node [t])]) := run_of 20 fun n => by kernel_rfl
theorem cloneO1_does (t : T) : Dz i_slices_Clone_Term_o none [A.t (T.node [t])] (1, [A.t (T.node [t]), A.t (T.node [t])]) := run_of 2 fun n => by kernel_rfl
theorem settle_c1 (t : T) : Dz i_lat_settle_o (some p_lat_settle_o_c1) [A.t (T.int 1), A.t (T.int 0), A.t (T.node [t]), A.t (T.node [t]), A.t (T.node [T.node []]), A.t (T.node [])] (2, [A.t (T.node [t]), A.t (T.node [T.node []]), A.t (T.node [t])]) := run_ofp 20 fun n => by kernel_rfl
theorem weightO_does {d : Nat} {t : T} (ht : SmT d t) (hw : wtT d t ≤ 512) : Dz i_rank_Weight_o none [A.t (T.node [t])] (1, [A.t (T.int (wtT d t : Nat)), A.t (T.node [t])]) := by
  have hl := ht.1
  have hsum : ∀ (l : List T) (j : Nat), sumN ((l.take j).map fun f => wt d (val f)) ≤ sumN (l.map fun f => wt d (val f)) := by
    intro l
    induction l with
    | nil => intro j; simp [sumN]
    | cons x l ih =>
      intro j
      cases j with
      | zero => simp [sumN]
      | succ j => have := ih j; simp only [List.take_succ_cons, List.map_cons, sumN, List.foldr_cons] at this ⊢; omega
  have hstp : ∀ (l : List T) (j : Nat) (hj : j < l.length), sumN ((l.take (j + 1)).map fun f => wt d (val f)) = sumN ((l.take j).map fun f => wt d (val f)) + wt d (val l[j]) := by
    intro l
    induction l with
    | nil => intro j hj; simp at hj
    | cons x l ih =>
      intro j hj
      cases j with
      | zero => simp [sumN]
      | succ j => have := ih j (by simpa using hj); simp only [List.take_succ_cons, List.map_cons, sumN, List.foldr_cons, List.getElem_cons_succ] at this ⊢; omega
  have hall : sumN ((flds t).map fun f => wt d (val f)) + 1 ≤ 512 := by unfold wtT at hw; omega
  obtain ⟨n0, h0⟩ := Dz.steps (i := i_rank_Weight_o) (p := some p_rank_Weight_o_c2) (R := (4, [A.t (T.int (wtT d t : Nat)), A.t (T.int 1), A.t (T.int 0), A.t (T.node [t])])) (flds t).length
    (fun j => [A.t (T.int (1 + sumN (((flds t).take j).map fun f => wt d (val f)) : Nat)), A.t (T.int 1), A.t (T.int 0), A.t (T.node (flds t)), A.t (T.int ((flds t).length : Nat)), A.t (T.int j), A.t (T.node [t])]) (by
      refine Does.now fun m => ?_
      rw [q_rank_Weight_o_c2, List.take_length]
      simp only [S0, S9, S1, S2, if_true, if_false]
      rw [if_neg (by omega)]; rfl) (fun j hj R hR => by
      have hw' : IntKind.i64.wrap ((j : Int) + 1) = ((j + 1 : Nat) : Int) := i64succ (by omega)
      have g1 : (0 : Int) ≤ (j : Int) := by omega
      have g2 : (j : Int) < ((flds t).length : Int) := by omega
      have hs1 := hsum (flds t) (j + 1)
      rw [hstp _ _ hj] at hs1
      rw [hstp _ _ hj] at hR
      obtain ⟨n0, h0⟩ := (pweight_does d _ (ht.2 _ (List.getElem_mem hj))).both hR
      refine Does.of n0 fun m hm => ?_
      obtain ⟨q1, q2⟩ := h0 m hm
      have ha : IntKind.i64.wrap (((1 + sumN (((flds t).take j).map fun f => wt d (val f)) : Nat) : Int) + ((wt d (val (flds t)[j]) : Nat) : Int)) = ((1 + (sumN (((flds t).take j).map fun f => wt d (val f)) + wt d (val (flds t)[j])) : Nat) : Int) := by rw [i64add (by omega)]; congr 1; omega
      rw [q_rank_Weight_o_c2]
      simp only [S0, S9, S1, S2, if_true, if_false, g1, g2, and_self, at_get hj, val_eq, q1, hw', ha]
      exact q2)
  have hc2 : Dz i_rank_Weight_o (some p_rank_Weight_o_c2) [A.t (T.int 1), A.t (T.int 1), A.t (T.int 0), A.t (T.node (flds t)), A.t (T.int ((flds t).length : Nat)), A.t (T.int 0), A.t (T.node [t])] (4, [A.t (T.int (wtT d t : Nat)), A.t (T.int 1), A.t (T.int 0), A.t (T.node [t])]) := ⟨n0, h0⟩
  have e1 : Dz i_rank_Weight_o (some p_rank_Weight_o_c1) [A.t (T.int (wtT d t : Nat)), A.t (T.int 1), A.t (T.int 1), A.t (T.node [t])] (2, [A.t (T.int (wtT d t : Nat)), A.t (T.node [t])]) := run_ofp 1 fun n => by kernel_rfl
  have e2 : Dz i_rank_Weight_o (some p_rank_Weight_o_c1) [A.t (T.int 1), A.t (T.int 1), A.t (T.int 0), A.t (T.node [t])] (2, [A.t (T.int (wtT d t : Nat)), A.t (T.node [t])]) := by
    obtain ⟨n1, h1⟩ := hc2.both e1
    refine Does.of n1 fun m hm => ?_
    obtain ⟨q1, q2⟩ := h1 m hm
    have q1' : den Tryz.prog G0 ents m i_rank_Weight_o (some p_rank_Weight_o_c2) [A.t (T.int 1), A.t (T.int 1), A.t (T.int 0), A.t (T.node (flds (tAtD [t] 0))), A.t (T.int ((flds (tAtD [t] 0)).length : Nat)), A.t (T.int 0), A.t (T.node [t])] = _ := q1
    have hw1 : IntKind.i64.wrap ((0 : Int) + 1) = 1 := by decide
    rw [q_rank_Weight_o_c1]
    simp only [S0, S9, S1, S2, if_true, if_false, List.length_cons, List.length_nil, Int.toNat_zero, q1', hw1, q2]
    simp
  obtain ⟨n1, h1⟩ := e2
  refine Does.of n1 fun m hm => ?_
  rw [q_rank_Weight_o]
  have := h1 m hm
  have q : den Tryz.prog G0 ents m i_rank_Weight_o (some p_rank_Weight_o_c1) [A.t (T.int ((0 + 1 : Nat) : Int)), A.t (T.int ((0 + 1 : Nat) : Int)), A.t (T.int 0), A.t (T.node [t])] = _ := this
  simp only [S0, S9, S1, S2, if_true, if_false, List.length_cons, List.length_nil, q]
theorem copyO_c2 (c : T → T) (i0 n i : Int) (x5 x6 x7 : T) (l : List T) (hl : l.length ≤ 1000) (hc : ∀ f ∈ l, Dz i_rank_Copy none [A.t (val f)] (1, [A.t (c (val f))])) :
    Dz i_rank_Copy_o (some p_rank_Copy_o_c2) [A.t (T.int i0), A.t (T.int n), A.t (T.int i), A.t (T.int (l.length : Nat)), A.t (T.int 0), A.t (T.node x5.kids), A.t x6, A.t (T.node x7.kids), A.t (T.node l)] (4, [A.t (T.int i0), A.t (T.int n), A.t (T.int i), A.t (T.node x5.kids), A.t x6, A.t (T.node x7.kids), A.t (T.node (l.map (copyF c)))]) := by
  have := Dz.steps (i := i_rank_Copy_o) (p := some p_rank_Copy_o_c2) (R := (4, [A.t (T.int i0), A.t (T.int n), A.t (T.int i), A.t (T.node x5.kids), A.t x6, A.t (T.node x7.kids), A.t (T.node (l.map (copyF c)))])) l.length
    (fun j => [A.t (T.int i0), A.t (T.int n), A.t (T.int i), A.t (T.int (l.length : Nat)), A.t (T.int j), A.t (T.node x5.kids), A.t x6, A.t (T.node x7.kids), A.t (T.node (half (copyF c) l j))]) (by
      refine Does.now fun m => ?_
      rw [q_rank_Copy_o_c2]
      simp only [S0, S9, S1, S2, if_true, if_false, half_end]
      rw [if_neg (by omega)]) (fun j hj R hR => by
      have hw : IntKind.i64.wrap ((j : Int) + 1) = ((j + 1 : Nat) : Int) := i64succ (by omega)
      obtain ⟨n0, h0⟩ := (hc _ (List.getElem_mem hj)).both hR
      refine Does.of n0 fun m hm => ?_
      obtain ⟨q1, q2⟩ := h0 m hm
      have hs := half_set (g := copyF c) hj
      unfold copyF at hs q2
      rw [← hs] at q2
      rw [q_rank_Copy_o_c2]
      unfold copyF
      simp only [S0, S9, S1, S2, if_true, if_false, half_len, half_at hj, val_eq, hw, q1]
      rw [if_pos (by omega), if_pos (by omega), if_pos (by omega), if_pos (by omega), if_pos (by omega)]
      exact q2)
  rw [half_zero] at this
  exact this
theorem copyO_does {d : Nat} {t : T} (ht : SmT d t) : Dz i_rank_Copy_o none [A.t (T.node [t])] (1, [A.t (T.node [T.node [copyT (copyV d) t]]), A.t (T.node [t])]) := by
  have hl := ht.1
  obtain ⟨n1, h1⟩ := (cloneFd_does (flds t) (by omega)).both (copyO_c2 (copyV d) 0 1 0 (T.node [t]) (T.node [T.node []]) (T.node [t]) (flds t) (by omega) (fun f hf => copy_does d _ (ht.2 f hf)))
  have e1 : Dz i_rank_Copy_o (some p_rank_Copy_o_c1) [A.t (T.int 1), A.t (T.int 1), A.t (T.node [t]), A.t (T.node [T.node []]), A.t (T.node [copyT (copyV d) t])] (2, [A.t (T.node [t]), A.t (T.node [T.node []]), A.t (T.node [copyT (copyV d) t])]) := run_ofp 1 fun n => by kernel_rfl
  have e2 : Dz i_rank_Copy_o (some p_rank_Copy_o_c1) [A.t (T.int 1), A.t (T.int 0), A.t (T.node [t]), A.t (T.node [T.node []]), A.t (T.node [t])] (2, [A.t (T.node [t]), A.t (T.node [T.node []]), A.t (T.node [copyT (copyV d) t])]) := by
    obtain ⟨n0, h0⟩ := e1
    refine Does.of (n0 + n1) fun m hm => ?_
    obtain ⟨q1, q2⟩ := h1 m (by omega)
    have q3 := h0 m (by omega)
    unfold copyT at q3
    simp only [kids_node] at q2
    have hw1 : IntKind.i64.wrap ((0 : Int) + 1) = 1 := by decide
    have ht0 : tAtD [t] 0 = t := rfl
    rw [q_rank_Copy_o_c1]
    simp only [S0, S9, S1, S2, if_true, if_false, List.length_cons, List.length_nil, Int.toNat_zero, q1, q2, hw1, List.set_cons_zero, ht0]
    simp
    unfold copyT
    exact q3
  obtain ⟨n2, h2⟩ := (cloneO1_does t).both e2
  refine Does.of n2 fun m hm => ?_
  obtain ⟨q1, q2⟩ := h2 m hm
  have q2' : den Tryz.prog G0 ents m i_rank_Copy_o (some p_rank_Copy_o_c1) [A.t (T.int ((0 + 1 : Nat) : Int)), A.t (T.int 0), A.t (T.node [t]), A.t (T.node [T.node []]), A.t (T.node [t])] = _ := q2
  rw [q_rank_Copy_o]
  simp only [S0, S9, S1, S2, if_true, if_false, q1, List.length_cons, List.length_nil, q2']
theorem settle1_does {d : Nat} {t : T} (ht : SmT d t) (hw : wtT d t ≤ 512) : Dz i_lat_settle_o none [A.t (T.node [t])] (1, [A.t (T.node [T.node [copyT (copyV d) t]]), A.t (T.int 0), A.t (T.node [t])]) := by
  obtain ⟨n1, h1⟩ := (cloneO1_does t).both (sort1_does t)
  obtain ⟨n2, h2⟩ := (compact1_does t).both (settle_c1 t)
  obtain ⟨n3, h3⟩ := (weightO_does ht hw).both (copyO_does ht)
  refine Does.of (n1 + n2 + n3) fun m hm => ?_
  obtain ⟨q1, q2⟩ := h1 m (by omega)
  obtain ⟨q3, q4⟩ := h2 m (by omega)
  obtain ⟨q5, q6⟩ := h3 m (by omega)
  have q4' : den Tryz.prog G0 ents m i_lat_settle_o (some p_lat_settle_o_c1) [A.t (T.int ((0 + 1 : Nat) : Int)), A.t (T.int 0), A.t (T.node [t]), A.t (T.node [t]), A.t (T.node [T.node []]), A.t (T.node [])] = _ := q4
  have g : ¬ (((wtT d t : Nat) : Int) > 512) := by omega
  rw [q_lat_settle_o]
  simp only [S0, S9, S1, S2, if_true, if_false, q1, q2, q3, List.length_cons, List.length_nil, q4', q5, q6, g]
end Go.Proofs.YtoekafpmpopigaaGreatDoorFP
namespace Go.Proofs.YtoekafpmpopigaaGreatDoorFP
open Go Go.Proofs.YtoekafpmpopigaaGreatDoorVM
set_option linter.unusedVariables false
set_option linter.unusedSimpArgs false
set_option maxRecDepth 100000

def rone (v : T) : T × Int := if refV 20 v = true then (if (terms v).length = 0 then (noTrm, 31) else if (terms v).length = 1 ∧ kd (oneT v) ≠ 5 then (oneT v, 0) else (noTrm, 28)) else (noTrm, 1)
theorem rone_does {v : T} (h : Sm 20 v) : Dz i_R11_One none [A.t v] (1, [A.t (rone v).1, A.t (T.int (rone v).2)]) := by
  obtain ⟨n0, h0⟩ := refRight_does h
  refine Does.of n0 fun m hm => ?_
  rw [q_R11_One]
  unfold rone oneT
  simp only [S0, S9, S1, S2, if_true, if_false, h0 m hm, noTrm_eq, kd_eq, Bool.not_eq_true']
  cases refV 20 v with
  | false => simp
  | true =>
    simp only [Bool.true_eq_false, if_false, if_true]
    by_cases h0 : (terms v).length = 0
    · rw [if_pos (by omega), if_pos h0]
    rw [if_neg (by omega), if_neg h0]
    by_cases h1 : (terms v).length = 1
    · rw [if_pos (by omega), if_pos (by omega)]
      by_cases h5 : kd (tAtD (terms v) 0) = 5
      · rw [if_pos h5, if_neg (fun e => e.2 h5)]
      · rw [if_neg h5, if_pos (by omega), if_pos ⟨h1, h5⟩]
    · rw [if_neg (by omega), if_neg (fun e => h1 e.1)]
end Go.Proofs.YtoekafpmpopigaaGreatDoorFP
namespace Go.Proofs.YtoekafpmpopigaaGreatDoorFP
open Go Go.Proofs.YtoekafpmpopigaaGreatDoorVM
set_option linter.unusedVariables false
set_option linter.unusedSimpArgs false
set_option maxRecDepth 100000

theorem depthO_does {d : Nat} {t : T} (hd : d < 100000) (ht : SmT d t) : Dz i_rank_Depth_o none [A.t (T.node [t])] (1, [A.t (T.int (1 + depT d t : Nat)), A.t (T.node [t])]) := by
  have hl := ht.1
  have hb : ∀ (d : Nat) (v : T), Vd d v → dep d v ≤ d := by
    intro d
    induction d with
    | zero => intro v h; exact h.elim
    | succ d ih =>
      intro v h
      rw [dep_succ]
      have : maxN ((terms v).map (depT d)) ≤ d := by
        rw [maxN_le]
        intro x hx
        obtain ⟨t, ht, rfl⟩ := List.mem_map.1 hx
        rw [depT, maxN_le]
        intro y hy
        obtain ⟨f, hf, rfl⟩ := List.mem_map.1 hy
        exact ih _ ((h t ht).2.2 f hf).2
      omega
  have hdt : depT d t ≤ d := by
    rw [depT, maxN_le]
    intro y hy
    obtain ⟨f, hf, rfl⟩ := List.mem_map.1 hy
    exact hb _ _ (ht.2 f hf).1
  have hc2 := Dz.steps (i := i_rank_Depth_o) (p := some p_rank_Depth_o_c2) (R := (4, [A.t (T.int (depT d t : Nat)), A.t (T.int 1), A.t (T.int 0), A.t (T.node [t])])) (flds t).length
    (fun j => [A.t (T.int (((flds t).take j).foldl (fun a f => max a (dep d (val f))) 0 : Nat)), A.t (T.int 1), A.t (T.int 0), A.t (T.node (flds t)), A.t (T.int ((flds t).length : Nat)), A.t (T.int j), A.t (T.node [t])]) (by
      refine Does.now fun m => ?_
      rw [q_rank_Depth_o_c2, List.take_length, max_foldl, Nat.zero_max]
      simp only [S0, S9, S1, S2, if_true, if_false]
      rw [if_neg (by omega)]; rfl) (fun j hj R hR => by
      have hw : IntKind.i64.wrap ((j : Int) + 1) = ((j + 1 : Nat) : Int) := i64succ (by omega)
      have g1 : (0 : Int) ≤ (j : Int) := by omega
      have g2 : (j : Int) < ((flds t).length : Int) := by omega
      rw [fold_stp _ _ _ hj] at hR
      obtain ⟨n0, h0⟩ := (pdepth_does d _ (by omega) (ht.2 _ (List.getElem_mem hj))).both hR
      refine Does.of n0 fun m hm => ?_
      obtain ⟨q1, q2⟩ := h0 m hm
      rw [q_rank_Depth_o_c2]
      simp only [S0, S9, S1, S2, if_true, if_false, g1, g2, and_self, at_get hj, val_eq, q1, hw, maxI_nat]
      exact q2)
  have e1 : Dz i_rank_Depth_o (some p_rank_Depth_o_c1) [A.t (T.int (depT d t : Nat)), A.t (T.int 1), A.t (T.int 1), A.t (T.node [t])] (2, [A.t (T.int (depT d t : Nat)), A.t (T.node [t])]) := run_ofp 1 fun n => by kernel_rfl
  have e2 : Dz i_rank_Depth_o (some p_rank_Depth_o_c1) [A.t (T.int 0), A.t (T.int 1), A.t (T.int 0), A.t (T.node [t])] (2, [A.t (T.int (depT d t : Nat)), A.t (T.node [t])]) := by
    obtain ⟨n1, h1⟩ := hc2.both e1
    refine Does.of n1 fun m hm => ?_
    obtain ⟨q1, q2⟩ := h1 m hm
    have q1' : den Tryz.prog G0 ents m i_rank_Depth_o (some p_rank_Depth_o_c2) [A.t (T.int 0), A.t (T.int 1), A.t (T.int 0), A.t (T.node (flds (tAtD [t] 0))), A.t (T.int ((flds (tAtD [t] 0)).length : Nat)), A.t (T.int 0), A.t (T.node [t])] = _ := q1
    have hw1 : IntKind.i64.wrap ((0 : Int) + 1) = 1 := by decide
    rw [q_rank_Depth_o_c1]
    simp only [S0, S9, S1, S2, if_true, if_false, List.length_cons, List.length_nil, Int.toNat_zero, q1', hw1, q2]
    simp
  obtain ⟨n1, h1⟩ := e2
  refine Does.of n1 fun m hm => ?_
  rw [q_rank_Depth_o]
  have q : den Tryz.prog G0 ents m i_rank_Depth_o (some p_rank_Depth_o_c1) [A.t (T.int 0), A.t (T.int ((0 + 1 : Nat) : Int)), A.t (T.int 0), A.t (T.node [t])] = _ := h1 m hm
  have hw : IntKind.i64.wrap (((depT d t : Nat) : Int) + 1) = ((1 + depT d t : Nat) : Int) := by rw [i64succ (by omega)]; congr 1; omega
  simp only [S0, S9, S1, S2, if_true, if_false, List.length_cons, List.length_nil, q, hw]
theorem lrightD_does {d : Nat} {v : T} (h : Sm d v) : Dz i_lat_Right none [A.t v] (1, [A.t (T.bool (refV d v))]) := by
  obtain ⟨n0, h0⟩ := (listed_does d 16 v (by omega) h).both (pweight_does d v h)
  have hw := h.2
  refine Does.of n0 fun m hm => ?_
  obtain ⟨q1, q2⟩ := h0 m hm
  have q1' : den Tryz.prog G0 ents m i_lat_listed none [A.t v, A.t (T.int 16)] = _ := q1
  rw [refV_list, q_lat_Right]
  simp only [S0, S9, S1, S2, if_true, if_false, q1', q2]
  cases listV d 16 v with
  | false => rfl
  | true => rw [if_pos rfl, decide_eq_true (by omega)]
theorem ofO_does {t : T} (ht : SmT 19 t) (hw : wtT 19 t ≤ 512) (ho : okT (okV 19) 19 t = true) (hd : depT 19 t ≤ 15) : Dz i_lat_Of_o none [A.t (T.node [t])] (1, [A.t (T.node [T.node [copyT (copyV 19) t]]), A.t (T.int 0), A.t (T.node [t])]) := by
  have hl := ht.1
  have hok : okT (listV 19 16) 19 t = true := by
    rw [okT_deep (S := okV 19) (e := 16) (fun f hf => listV_eq 19 16 (val f)), ho, decide_eq_true (by omega)]
    rfl
  have hsh := shaped_does (listV 19 16) 19 t ht 16 (by omega) (fun _ f hf => listed_does 19 16 _ (by omega) (ht.2 f hf))
  rw [hok] at hsh
  have hfr : ∀ f ∈ flds t, refV 19 (val f) = true := by
    intro f hf
    by_cases h4 : kd t = 4
    · have h1 := ((okT_parts ho).1 h4).2.2 f hf
      rw [refV_eq, h1]
      have : dep 19 (val f) ≤ 15 := by
        rw [depT, maxN_le] at hd
        exact hd _ (List.mem_map_of_mem hf)
      rw [decide_eq_true (by omega)]
      rfl
    · rw [okT_flds ho h4] at hf
      cases hf
  have hc2 : Dz i_lat_Of_o (some p_lat_Of_o_c2) [A.t (T.int (1 + depT 19 t : Nat)), A.t (T.int 1), A.t (T.int 0), A.t (T.node (flds t)), A.t (T.int ((flds t).length : Nat)), A.t (T.int 0), A.t (T.node [t]), A.t (T.node [T.node []])] (4, [A.t (T.int (1 + depT 19 t : Nat)), A.t (T.int 1), A.t (T.int 0), A.t (T.node [t]), A.t (T.node [T.node []])]) := by
    refine Dz.steps (i := i_lat_Of_o) (p := some p_lat_Of_o_c2) (R := (4, [A.t (T.int (1 + depT 19 t : Nat)), A.t (T.int 1), A.t (T.int 0), A.t (T.node [t]), A.t (T.node [T.node []])])) (flds t).length
      (fun j => [A.t (T.int (1 + depT 19 t : Nat)), A.t (T.int 1), A.t (T.int 0), A.t (T.node (flds t)), A.t (T.int ((flds t).length : Nat)), A.t (T.int j), A.t (T.node [t]), A.t (T.node [T.node []])]) (by
        refine Does.now fun m => ?_
        rw [q_lat_Of_o_c2]
        simp only [S0, S9, S1, S2, if_true, if_false]
        rw [if_neg (by omega)]) (fun j hj R hR => by
        have hw : IntKind.i64.wrap ((j : Int) + 1) = ((j + 1 : Nat) : Int) := i64succ (by omega)
        have g1 : (0 : Int) ≤ (j : Int) := by omega
        have g2 : (j : Int) < ((flds t).length : Int) := by omega
        have hm := List.getElem_mem hj
        have h1 := lrightD_does (ht.2 _ hm)
        rw [hfr _ hm] at h1
        obtain ⟨n0, h0⟩ := h1.both hR
        refine Does.of n0 fun m hm => ?_
        obtain ⟨q1, q2⟩ := h0 m hm
        rw [q_lat_Of_o_c2]
        simp only [S0, S9, S1, S2, if_true, if_false, g1, g2, and_self, at_get hj, val_eq, q1, hw, Bool.not_true]
        exact q2)
  have e1 : Dz i_lat_Of_o (some p_lat_Of_o_c1) [A.t (T.int (1 + depT 19 t : Nat)), A.t (T.int 1), A.t (T.int 1), A.t (T.node [t]), A.t (T.node [T.node []])] (2, [A.t (T.int (1 + depT 19 t : Nat)), A.t (T.node [t]), A.t (T.node [T.node []])]) := run_ofp 1 fun n => by kernel_rfl
  have e2 : Dz i_lat_Of_o (some p_lat_Of_o_c1) [A.t (T.int 1), A.t (T.int 1), A.t (T.int 0), A.t (T.node [t]), A.t (T.node [T.node []])] (2, [A.t (T.int (1 + depT 19 t : Nat)), A.t (T.node [t]), A.t (T.node [T.node []])]) := by
    obtain ⟨n1, h1⟩ := hc2.both e1
    obtain ⟨n2, h2⟩ := hsh.both (depthO_does (by omega) ht)
    refine Does.of (n1 + n2) fun m hm => ?_
    obtain ⟨q1, q2⟩ := h1 m (by omega)
    obtain ⟨q3, q4⟩ := h2 m (by omega)
    have ht0 : tAtD [t] 0 = t := rfl
    have q3' : den Tryz.prog G0 ents m i_lat_shaped none [A.t t, A.t (T.int 17)] = _ := q3
    have hmx : maxI 1 ((1 + depT 19 t : Nat) : Int) = ((1 + depT 19 t : Nat) : Int) := by unfold maxI; split <;> omega
    have hw1 : IntKind.i64.wrap ((0 : Int) + 1) = 1 := by decide
    rw [q_lat_Of_o_c1]
    simp only [S0, S9, S1, S2, if_true, if_false, List.length_cons, List.length_nil, Int.toNat_zero, ht0, q3', q4, hmx, q1, hw1, q2, Bool.not_true]
    simp
  obtain ⟨n1, h1⟩ := e2.both (settle1_does ht hw)
  refine Does.of n1 fun m hm => ?_
  obtain ⟨q1, q2⟩ := h1 m hm
  have q1' : den Tryz.prog G0 ents m i_lat_Of_o (some p_lat_Of_o_c1) [A.t (T.int 1), A.t (T.int ((0 + 1 : Nat) : Int)), A.t (T.int 0), A.t (T.node [t]), A.t (T.node [T.node []])] = _ := q1
  have g : ¬ (((1 + depT 19 t : Nat) : Int) > 16) := by omega
  have g0 : ¬ (((0 + 1 : Nat) : Int) > 512) := by omega
  rw [q_lat_Of_o]
  simp only [S0, S9, S1, S2, if_true, if_false, List.length_cons, List.length_nil, g0, q1', g, q2]
def pone (v : T) : T × Int := if refV 20 v = true then (if (terms v).length = 1 ∧ kd (oneT v) ≠ 5 then (if kd (oneT v) = 4 then (copyT (copyV 19) (oneT v), 0) else (oneT v, 0)) else (noTrm, if (terms v).length = 0 then 31 else 28)) else (noTrm, 1)
theorem pone_does {v : T} (h : Sm 20 v) : Dz i_fact_One none [A.t v] (1, [A.t (pone v).1, A.t (T.int (pone v).2)]) := by
  obtain ⟨n1, h1⟩ := (lright_does h).both (fone_does v)
  unfold pone
  cases hr : refV 20 v with
  | false =>
    rw [hr] at h1
    refine Does.of n1 fun m hm => ?_
    rw [q_fact_One]
    simp only [S0, S9, S1, S2, if_true, if_false, (h1 m hm).1, Bool.not_false, noTrm_eq]
  | true =>
    rw [hr] at h1
    unfold fone at h1
    by_cases c : (terms v).length = 1 ∧ kd (oneT v) ≠ 5
    rotate_left
    · rw [if_pos rfl, if_neg c]
      rw [if_neg c] at h1
      refine Does.of n1 fun m hm => ?_
      have ge : ¬ ((if (terms v).length = 0 then (31 : Int) else 28) = 0) := by split <;> omega
      rw [q_fact_One]
      simp only [S0, S9, S1, S2, if_true, if_false, (h1 m hm).1, (h1 m hm).2, Bool.not_true, ge]
    rw [if_pos rfl, if_pos c]
    rw [if_pos c] at h1
    have hm0 : oneT v ∈ terms v := by unfold oneT; rw [at_get (by omega)]; exact List.getElem_mem _
    by_cases h4 : kd (oneT v) = 4
    · rw [if_pos h4]
      have hok := okV_term (refV_ok hr) hm0
      have hdp : depT 19 (oneT v) ≤ 15 := by
        rw [refV_eq, Bool.and_eq_true, decide_eq_true_eq, dep_succ] at hr
        have : maxN ((terms v).map (depT 19)) ≤ 15 := by omega
        rw [maxN_le] at this
        exact this _ (List.mem_map_of_mem hm0)
      obtain ⟨n2, h2⟩ := ofO_does (h.term hm0) (h.wtT hm0) hok hdp
      refine Does.of (n1 + n2) fun m hm => ?_
      have e0 : T.get (T.node [T.node [copyT (copyV 19) (oneT v)]]) 0 = T.node [copyT (copyV 19) (oneT v)] := rfl
      have e1 : (terms (T.node [T.node [copyT (copyV 19) (oneT v)]])) = [copyT (copyV 19) (oneT v)] := rfl
      rw [q_fact_One]
      simp only [S0, S9, S1, S2, if_true, if_false, (h1 m (by omega)).1, (h1 m (by omega)).2, Bool.not_true, kd_eq, h4, h2 m (by omega), e1, List.length_cons, List.length_nil]
      rfl
    · rw [if_neg h4]
      refine Does.of n1 fun m hm => ?_
      rw [q_fact_One]
      simp only [S0, S9, S1, S2, if_true, if_false, (h1 m (by omega)).1, (h1 m (by omega)).2, Bool.not_true, kd_eq, h4]
theorem cmpV_self : ∀ (d : Nat) (v : T), cmpV d v v = 0
  | 0, v => rfl
  | d + 1, v => by
    rw [cmpV_succ]
    have := cmpL_map (f := cmpT d) (g := fun t => t) (l := terms v) fun t _ => by
      unfold cmpT
      rw [plainC_self, fst_zero]
      have := cmpL_map (f := cmpG d) (g := fun t => t) (l := flds t) fun f _ => by
        unfold cmpG
        rw [cmpB_self, fst_zero]
        exact cmpV_self d (val f)
      rwa [List.map_id'] at this
    rwa [List.map_id'] at this
theorem cmpT_self (d : Nat) (t : T) : cmpT d t t = 0 := by
  unfold cmpT
  rw [plainC_self, fst_zero]
  have := cmpL_map (f := cmpG d) (g := fun t => t) (l := flds t) fun f _ => by
    unfold cmpG
    rw [cmpB_self, fst_zero]
    exact cmpV_self d (val f)
  rwa [List.map_id'] at this
theorem cmpT_copy (d : Nat) (t : T) : cmpT d (copyT (copyV d) t) t = 0 := by
  unfold cmpT
  rw [show plainC (copyT (copyV d) t) t = plainC t t from rfl, plainC_self, fst_zero]
  show cmpL (cmpG d) ((flds t).map (copyF (copyV d))) (flds t) = 0
  refine cmpL_map fun f _ => ?_
  unfold cmpG
  rw [show nm (copyF (copyV d) f) = nm f from rfl, cmpB_self, fst_zero]
  exact cmpV_copy d (val f)
theorem copy_SmT {d : Nat} {t : T} (h : SmT d t) : SmT d (copyT (copyV d) t) := by
  refine ⟨by show ((flds t).map (copyF (copyV d))).length ≤ 100; simpa using h.1, fun f hf => ?_⟩
  have hf' : f ∈ (flds t).map (copyF (copyV d)) := hf
  obtain ⟨g, hg, rfl⟩ := List.mem_map.1 hf'
  exact copy_Sm (h.2 g hg)
theorem Sm_noTrm (d : Nat) : SmT d noTrm := ⟨by decide, fun f hf => absurd hf (by show ¬ f ∈ []; simp)⟩
theorem same_one {v : T} (h : Sm 20 v) : Dz i_R08_Terms none [A.t (pone v).1, A.t (rone v).1] (1, [A.t (T.int 0)]) ∧ (pone v).2 = (rone v).2 := by
  unfold pone rone
  cases hr : refV 20 v with
  | false =>
    simp only [Bool.false_eq_true, if_false]
    have := rt_does (Sm_noTrm 19) (Sm_noTrm 19)
    rw [cmpT_self] at this
    exact ⟨this, trivial⟩
  | true =>
    simp only [if_true]
    by_cases c : (terms v).length = 1 ∧ kd (oneT v) ≠ 5
    · have hm0 : oneT v ∈ terms v := by unfold oneT; rw [at_get (by omega)]; exact List.getElem_mem _
      have hne : ¬ (terms v).length = 0 := by omega
      rw [if_pos c, if_neg hne, if_pos c]
      have ht := h.term hm0
      by_cases h4 : kd (oneT v) = 4
      · rw [if_pos h4]
        have := rt_does (copy_SmT ht) ht
        rw [cmpT_copy] at this
        exact ⟨this, rfl⟩
      · rw [if_neg h4]
        have := rt_does ht ht
        rw [cmpT_self] at this
        exact ⟨this, rfl⟩
    · rw [if_neg c, if_neg c]
      have := rt_does (Sm_noTrm 19) (Sm_noTrm 19)
      rw [cmpT_self] at this
      split
      · exact ⟨this, rfl⟩
      · exact ⟨this, rfl⟩
theorem all_ready_same : ∀ (d : Nat) (v : T), okV d v = true → allV readyS d v = allV (refOne true) d v
  | 0, v, h => rfl
  | d + 1, v, h => by
    rw [allV, allV]
    by_cases h1 : (terms v).length = 1
    rotate_left
    · rw [decide_eq_false h1, Bool.false_and, Bool.false_and]
    have hm : oneT v ∈ terms v := by unfold oneT; rw [at_get (by omega)]; exact List.getElem_mem _
    have hp := okT_parts (okV_term h hm)
    by_cases h5 : kd (oneT v) = 5
    · rw [decide_eq_true h5]; simp
    by_cases h4 : kd (oneT v) = 4
    · rw [if_pos h4, if_pos h4]
      have : ((flds (oneT v)).all fun f => allV readyS d (val f)) = (flds (oneT v)).all fun f => allV (refOne true) d (val f) := by
        rw [Bool.eq_iff_iff, List.all_eq_true, List.all_eq_true]
        constructor
        · intro hh f hf; rw [← all_ready_same d (val f) ((hp.1 h4).2.2 f hf)]; exact hh f hf
        · intro hh f hf; rw [all_ready_same d (val f) ((hp.1 h4).2.2 f hf)]; exact hh f hf
      rw [this]
    · rw [if_neg h4, if_neg h4]
      have : readyS (oneT v) = refOne true (oneT v) := by
        unfold readyS refOne
        rw [hp.2 h4 h5]
        cases mb (oneT v) <;> cases one (oneT v) <;> rfl
      rw [this]
theorem awake_does : Dz i_L11_awake none [] (1, [A.t (T.bool true)]) := run_of 60 fun n => by kernel_rfl
end Go.Proofs.YtoekafpmpopigaaGreatDoorFP
namespace Go.Proofs.YtoekafpmpopigaaGreatDoorFP
open Go Go.Proofs.YtoekafpmpopigaaGreatDoorVM
set_option linter.unusedVariables false
set_option linter.unusedSimpArgs false
set_option maxRecDepth 100000

def ShpV : Nat → T → Prop
  | 0, _ => True
  | d + 1, v => ∃ l, v = .node [.node l] ∧ ∀ t ∈ l, ∃ a0 a1 a2 a3 a4 a5 a6 fs, t = .node [a0, a1, a2, a3, a4, a5, a6, .node fs] ∧ ∀ f ∈ fs, ∃ s w, f = .node [.str s, w] ∧ ShpV d w
theorem map_self {α : Type} {g : α → α} : ∀ {l : List α}, (∀ x ∈ l, g x = x) → l.map g = l
  | [], _ => rfl
  | x :: l, h => by rw [List.map_cons, h x List.mem_cons_self, map_self fun y hy => h y (List.mem_cons_of_mem _ hy)]
theorem copyV_id : ∀ (d : Nat) (v : T), Vd d v → ShpV d v → copyV d v = v
  | 0, v, h, _ => h.elim
  | d + 1, v, hv, h => by
    obtain ⟨l, rfl, hl⟩ := h
    have e : copyV (d + 1) (.node [.node l]) = .node [.node (l.map (copyT (copyV d)))] := rfl
    rw [e, map_self fun t ht => ?_]
    obtain ⟨a0, a1, a2, a3, a4, a5, a6, fs, rfl, hf⟩ := hl t ht
    have e2 : copyT (copyV d) (.node [a0, a1, a2, a3, a4, a5, a6, .node fs]) = .node [a0, a1, a2, a3, a4, a5, a6, .node (fs.map (copyF (copyV d)))] := rfl
    rw [e2, map_self fun f hf' => ?_]
    have hvf := ((hv _ ht).2.2 f hf').2
    obtain ⟨s, w, rfl, hw⟩ := hf f hf'
    have e3 : copyF (copyV d) (.node [.str s, w]) = .node [.str s, copyV d w] := rfl
    rw [e3, copyV_id d w hvf hw]
theorem shp_of : ∀ (d : Nat) (v : T), TOk Tryz.prog 24 v → ShpV d v
  | 0, v, _ => trivial
  | d + 1, v, h => by
    obtain ⟨xs, rfl, hx⟩ := TOk.struct_of (fs := [(22, 1)]) (by kernel_rfl) h
    match xs, hx with
    | [x], ⟨h1, _⟩ =>
      obtain ⟨l, rfl, _, hl⟩ := TOk.row_of Tryz.underlying22 h1
      refine ⟨l, rfl, fun t ht => ?_⟩
      obtain ⟨ys, rfl, hy⟩ := TOk.struct_of (fs := [(3, 1), (3, 1), (3, 1), (9, 1), (4, 1), (4, 1), (4, 1), (36, 1)]) (by kernel_rfl) (hl t ht)
      match ys, hy with
      | [a0, a1, a2, a3, a4, a5, a6, a7], ⟨_, _, _, _, _, _, _, h7, _⟩ =>
        obtain ⟨fs, rfl, _, hf⟩ := TOk.row_of Tryz.underlying36 h7
        refine ⟨a0, a1, a2, a3, a4, a5, a6, fs, rfl, fun f hf' => ?_⟩
        obtain ⟨zs, rfl, hz⟩ := TOk.struct_of (fs := [(9, 1), (24, 1)]) (by kernel_rfl) (hf f hf')
        match zs, hz with
        | [a, w], ⟨ha, hw, _⟩ =>
          obtain ⟨s, rfl, _⟩ := TOk.str_of Tryz.underlying9 ha
          exact ⟨s, w, rfl, shp_of d w hw⟩
theorem copy_same {v : T} (hs : Sm 20 v) (h : TOk Tryz.prog 24 v) : copyV 20 v = v := copyV_id 20 v hs.1 (shp_of 20 v h)
end Go.Proofs.YtoekafpmpopigaaGreatDoorFP
namespace Go.Proofs.YtoekafpmpopigaaGreatDoorFP
open Go Go.Proofs.YtoekafpmpopigaaGreatDoorVM
set_option linter.unusedVariables false
set_option linter.unusedSimpArgs false
set_option maxRecDepth 100000

structure Good {α : Type} (f : α → α → Int) : Prop where
  anti : ∀ a b, f b a = - f a b
  trans : ∀ a b c, f a b ≤ 0 → f b c ≤ 0 → f a c ≤ 0
theorem Good.lt {α : Type} {f : α → α → Int} (h : Good f) {a b c : α} (h1 : f a b < 0) (h2 : f b c < 0) : f a c < 0 := by
  have h3 := h.trans a b c (by omega) (by omega)
  have h4 := h.anti a b
  have h5 := h.anti a c
  have h6 := h.anti b c
  rcases Int.lt_or_eq_of_le h3 with h7 | h7
  · exact h7
  · have := h.trans b c a (by omega) (by omega)
    omega
theorem good_map {α β : Type} {f : α → α → Int} (h : Good f) (g : β → α) : Good fun a b => f (g a) (g b) := ⟨fun a b => h.anti _ _, fun a b c => h.trans _ _ _⟩
theorem good_fst {α : Type} {f g : α → α → Int} (hf : Good f) (hg : Good g) : Good fun a b => fst (f a b) (g a b) := by
  constructor
  · intro a b
    have h1 := hf.anti a b
    have h2 := hg.anti a b
    unfold fst
    by_cases h : f a b = 0
    · rw [if_pos h, if_pos (by omega)]; exact h2
    · rw [if_neg h, if_neg (by omega)]; exact h1
  · intro a b c
    unfold fst
    have t1 := hf.trans a b c
    have t2 := hf.trans b c a
    have t3 := hf.trans c a b
    have t4 := hf.trans c b a
    have a1 := hf.anti a b
    have a2 := hf.anti b c
    have a3 := hf.anti a c
    have g1 := hg.trans a b c
    intro h1 h2
    by_cases e1 : f a b = 0
    · rw [if_pos e1] at h1
      by_cases e2 : f b c = 0
      · rw [if_pos e2] at h2
        have e3 : f a c = 0 := by omega
        rw [if_pos e3]
        exact g1 h1 h2
      · rw [if_neg e2] at h2
        rw [if_neg (by omega)]
        omega
    · rw [if_neg e1] at h1
      by_cases e2 : f b c = 0
      · rw [if_pos e2] at h2
        rw [if_neg (by omega)]
        omega
      · rw [if_neg e2] at h2
        rw [if_neg (by omega)]
        omega
theorem cmpI_cases (a b : Int) : (a < b ∧ cmpI a b = -1) ∨ (b < a ∧ cmpI a b = 1) ∨ (a = b ∧ cmpI a b = 0) := by
  unfold cmpI
  rcases Int.lt_trichotomy a b with h | h | h
  · exact .inl ⟨h, if_pos h⟩
  · exact .inr (.inr ⟨h, by rw [if_neg (by omega), if_neg (by omega)]⟩)
  · exact .inr (.inl ⟨h, by rw [if_neg (by omega), if_pos h]⟩)
theorem good_I : Good cmpI := by
  constructor
  · intro a b
    have h1 := cmpI_cases a b
    have h2 := cmpI_cases b a
    omega
  · intro a b c
    have h1 := cmpI_cases a b
    have h2 := cmpI_cases b c
    have h3 := cmpI_cases a c
    omega
theorem good_F1 : Good cmpF1 := ⟨fun a b => by cases a <;> cases b <;> rfl, fun a b c => by cases a <;> cases b <;> cases c <;> simp [cmpF1]⟩
theorem good_B : Good cmpB := by
  constructor
  · intro a b
    unfold cmpB
    rcases slt_tri a b with h | h | h
    · simp [h, slt_asymm h]
    · simp [h, slt_asymm h]
    · subst h; simp [slt_irrefl]
  · intro a b c
    unfold cmpB
    intro h1 h2
    rcases slt_tri a b with h | h | h
    · rcases slt_tri b c with k | k | k
      · simp [slt_trans h k]
      · simp [k, slt_asymm k] at h2
      · subst k; simp [h]
    · simp [h, slt_asymm h] at h1
    · subst h
      exact h2
theorem good_L {f : T → T → Int} (hf : Good f) : Good (cmpL f) := by
  have anti : ∀ (l m : List T), cmpL f m l = - cmpL f l m := by
    intro l
    induction l with
    | nil => intro m; cases m <;> rfl
    | cons a l ih =>
      intro m
      cases m with
      | nil => rfl
      | cons b m =>
        rw [cmpL_cons, cmpL_cons]
        have h1 := hf.anti a b
        have h2 := ih m
        unfold fst
        by_cases h : f a b = 0
        · rw [if_pos h, if_pos (by omega)]; exact h2
        · rw [if_neg h, if_neg (by omega)]; exact h1
  refine ⟨anti, ?_⟩
  intro l
  induction l with
  | nil =>
    intro m n h1 h2
    cases n with
    | nil => show (0 : Int) ≤ 0; omega
    | cons c n => show (-1 : Int) ≤ 0; omega
  | cons a l ih =>
    intro m n h1 h2
    cases m with
    | nil =>
      have : (1 : Int) ≤ 0 := h1
      omega
    | cons b m =>
      cases n with
      | nil =>
        have : (1 : Int) ≤ 0 := h2
        omega
      | cons c n =>
        rw [cmpL_cons] at h1 h2 ⊢
        have t1 := hf.trans a b c
        have t2 := hf.trans b c a
        have t3 := hf.trans c a b
        have t4 := hf.trans c b a
        have a1 := hf.anti a b
        have a2 := hf.anti b c
        have a3 := hf.anti a c
        have g1 := ih m n
        unfold fst at h1 h2 ⊢
        by_cases e1 : f a b = 0
        · rw [if_pos e1] at h1
          by_cases e2 : f b c = 0
          · rw [if_pos e2] at h2
            have e3 : f a c = 0 := by omega
            rw [if_pos e3]
            exact g1 h1 h2
          · rw [if_neg e2] at h2
            have e3 : f a c ≠ 0 := fun e => by omega
            rw [if_neg e3]
            omega
        · rw [if_neg e1] at h1
          have e3 : f a c ≠ 0 := fun e => by
            by_cases e2 : f b c = 0
            · omega
            · rw [if_neg e2] at h2; omega
          rw [if_neg e3]
          by_cases e2 : f b c = 0
          · omega
          · rw [if_neg e2] at h2
            omega
theorem good_plain : Good plainC :=
  good_fst (good_map good_I fun t : T => (t.get 0).num) (good_fst (good_map good_I fun t : T => (t.get 1).num) (good_fst (good_map good_I fun t : T => (t.get 2).num) (good_fst (good_map good_B fun t : T => (t.get 3).txt)
    (good_fst (good_map good_F1 fun t : T => (t.get 4).tf) (good_fst (good_map good_F1 fun t : T => (t.get 5).tf) (good_map good_F1 fun t : T => (t.get 6).tf))))))
theorem good_G {d : Nat} (h : Good (cmpV d)) : Good (cmpG d) := good_fst (good_map good_B nm) (good_map h val)
theorem good_T {d : Nat} (h : Good (cmpV d)) : Good (cmpT d) := good_fst good_plain (good_map (good_L (good_G h)) flds)
theorem good_V : ∀ d, Good (cmpV d)
  | 0 => ⟨fun _ _ => rfl, fun _ _ _ _ _ => by show (0 : Int) ≤ 0; omega⟩
  | d + 1 => good_map (good_L (good_T (good_V d))) terms
theorem good_terms (d : Nat) : Good (cmpT d) := good_T (good_V d)
end Go.Proofs.YtoekafpmpopigaaGreatDoorFP
namespace Go.Proofs.YtoekafpmpopigaaGreatDoorFP
open Go Go.Proofs.YtoekafpmpopigaaGreatDoorVM
set_option linter.unusedVariables false
set_option linter.unusedSimpArgs false
set_option maxRecDepth 100000

theorem refV_okD {d : Nat} {v : T} (h : refV d v = true) : okV d v = true := by rw [refV_eq, Bool.and_eq_true] at h; exact h.1
theorem ofOD_does {d : Nat} (hdd : d ≤ 900) {t : T} (ht : SmT d t) (hw : wtT d t ≤ 512) (ho : okT (okV d) d t = true) (hd : depT d t ≤ 15) : Dz i_lat_Of_o none [A.t (T.node [t])] (1, [A.t (T.node [T.node [copyT (copyV d) t]]), A.t (T.int 0), A.t (T.node [t])]) := by
  have hl := ht.1
  have hok : okT (listV d 16) d t = true := by
    rw [okT_deep (S := okV d) (e := 16) (fun f hf => listV_eq d 16 (val f)), ho, decide_eq_true (by omega)]
    rfl
  have hsh := shaped_does (listV d 16) d t ht 16 (by omega) (fun _ f hf => listed_does d 16 _ (by omega) (ht.2 f hf))
  rw [hok] at hsh
  have hfr : ∀ f ∈ flds t, refV d (val f) = true := by
    intro f hf
    by_cases h4 : kd t = 4
    · have h1 := ((okT_parts ho).1 h4).2.2 f hf
      rw [refV_eq, h1]
      have : dep d (val f) ≤ 15 := by
        rw [depT, maxN_le] at hd
        exact hd _ (List.mem_map_of_mem hf)
      rw [decide_eq_true (by omega)]
      rfl
    · rw [okT_flds ho h4] at hf
      cases hf
  have hc2 : Dz i_lat_Of_o (some p_lat_Of_o_c2) [A.t (T.int (1 + depT d t : Nat)), A.t (T.int 1), A.t (T.int 0), A.t (T.node (flds t)), A.t (T.int ((flds t).length : Nat)), A.t (T.int 0), A.t (T.node [t]), A.t (T.node [T.node []])] (4, [A.t (T.int (1 + depT d t : Nat)), A.t (T.int 1), A.t (T.int 0), A.t (T.node [t]), A.t (T.node [T.node []])]) := by
    refine Dz.steps (i := i_lat_Of_o) (p := some p_lat_Of_o_c2) (R := (4, [A.t (T.int (1 + depT d t : Nat)), A.t (T.int 1), A.t (T.int 0), A.t (T.node [t]), A.t (T.node [T.node []])])) (flds t).length
      (fun j => [A.t (T.int (1 + depT d t : Nat)), A.t (T.int 1), A.t (T.int 0), A.t (T.node (flds t)), A.t (T.int ((flds t).length : Nat)), A.t (T.int j), A.t (T.node [t]), A.t (T.node [T.node []])]) (by
        refine Does.now fun m => ?_
        rw [q_lat_Of_o_c2]
        simp only [S0, S9, S1, S2, if_true, if_false]
        rw [if_neg (by omega)]) (fun j hj R hR => by
        have hw : IntKind.i64.wrap ((j : Int) + 1) = ((j + 1 : Nat) : Int) := i64succ (by omega)
        have g1 : (0 : Int) ≤ (j : Int) := by omega
        have g2 : (j : Int) < ((flds t).length : Int) := by omega
        have hm := List.getElem_mem hj
        have h1 := lrightD_does (ht.2 _ hm)
        rw [hfr _ hm] at h1
        obtain ⟨n0, h0⟩ := h1.both hR
        refine Does.of n0 fun m hm => ?_
        obtain ⟨q1, q2⟩ := h0 m hm
        rw [q_lat_Of_o_c2]
        simp only [S0, S9, S1, S2, if_true, if_false, g1, g2, and_self, at_get hj, val_eq, q1, hw, Bool.not_true]
        exact q2)
  have e1 : Dz i_lat_Of_o (some p_lat_Of_o_c1) [A.t (T.int (1 + depT d t : Nat)), A.t (T.int 1), A.t (T.int 1), A.t (T.node [t]), A.t (T.node [T.node []])] (2, [A.t (T.int (1 + depT d t : Nat)), A.t (T.node [t]), A.t (T.node [T.node []])]) := run_ofp 1 fun n => by kernel_rfl
  have e2 : Dz i_lat_Of_o (some p_lat_Of_o_c1) [A.t (T.int 1), A.t (T.int 1), A.t (T.int 0), A.t (T.node [t]), A.t (T.node [T.node []])] (2, [A.t (T.int (1 + depT d t : Nat)), A.t (T.node [t]), A.t (T.node [T.node []])]) := by
    obtain ⟨n1, h1⟩ := hc2.both e1
    obtain ⟨n2, h2⟩ := hsh.both (depthO_does (by omega) ht)
    refine Does.of (n1 + n2) fun m hm => ?_
    obtain ⟨q1, q2⟩ := h1 m (by omega)
    obtain ⟨q3, q4⟩ := h2 m (by omega)
    have ht0 : tAtD [t] 0 = t := rfl
    have q3' : den Tryz.prog G0 ents m i_lat_shaped none [A.t t, A.t (T.int 17)] = _ := q3
    have hmx : maxI 1 ((1 + depT d t : Nat) : Int) = ((1 + depT d t : Nat) : Int) := by unfold maxI; split <;> omega
    have hw1 : IntKind.i64.wrap ((0 : Int) + 1) = 1 := by decide
    rw [q_lat_Of_o_c1]
    simp only [S0, S9, S1, S2, if_true, if_false, List.length_cons, List.length_nil, Int.toNat_zero, ht0, q3', q4, hmx, q1, hw1, q2, Bool.not_true]
    simp
  obtain ⟨n1, h1⟩ := e2.both (settle1_does ht hw)
  refine Does.of n1 fun m hm => ?_
  obtain ⟨q1, q2⟩ := h1 m hm
  have q1' : den Tryz.prog G0 ents m i_lat_Of_o (some p_lat_Of_o_c1) [A.t (T.int 1), A.t (T.int ((0 + 1 : Nat) : Int)), A.t (T.int 0), A.t (T.node [t]), A.t (T.node [T.node []])] = _ := q1
  have g : ¬ (((1 + depT d t : Nat) : Int) > 16) := by omega
  have g0 : ¬ (((0 + 1 : Nat) : Int) > 512) := by omega
  rw [q_lat_Of_o]
  simp only [S0, S9, S1, S2, if_true, if_false, List.length_cons, List.length_nil, g0, q1', g, q2]
def poneD (d : Nat) (v : T) : T × Int := if refV (d + 1) v = true then (if (terms v).length = 1 ∧ kd (oneT v) ≠ 5 then (if kd (oneT v) = 4 then (copyT (copyV d) (oneT v), 0) else (oneT v, 0)) else (noTrm, if (terms v).length = 0 then 31 else 28)) else (noTrm, 1)
theorem poneD_does {d : Nat} (hdd : d ≤ 900) {v : T} (h : Sm (d + 1) v) : Dz i_fact_One none [A.t v] (1, [A.t (poneD d v).1, A.t (T.int (poneD d v).2)]) := by
  obtain ⟨n1, h1⟩ := (lrightD_does h).both (fone_does v)
  unfold poneD
  cases hr : refV (d + 1) v with
  | false =>
    rw [hr] at h1
    refine Does.of n1 fun m hm => ?_
    rw [q_fact_One]
    simp only [S0, S9, S1, S2, if_true, if_false, (h1 m hm).1, Bool.not_false, noTrm_eq]
  | true =>
    rw [hr] at h1
    unfold fone at h1
    by_cases c : (terms v).length = 1 ∧ kd (oneT v) ≠ 5
    rotate_left
    · rw [if_pos rfl, if_neg c]
      rw [if_neg c] at h1
      refine Does.of n1 fun m hm => ?_
      have ge : ¬ ((if (terms v).length = 0 then (31 : Int) else 28) = 0) := by split <;> omega
      rw [q_fact_One]
      simp only [S0, S9, S1, S2, if_true, if_false, (h1 m hm).1, (h1 m hm).2, Bool.not_true, ge]
    rw [if_pos rfl, if_pos c]
    rw [if_pos c] at h1
    have hm0 : oneT v ∈ terms v := by unfold oneT; rw [at_get (by omega)]; exact List.getElem_mem _
    by_cases h4 : kd (oneT v) = 4
    · rw [if_pos h4]
      have hok := okV_term (refV_okD hr) hm0
      have hdp : depT d (oneT v) ≤ 15 := by
        rw [refV_eq, Bool.and_eq_true, decide_eq_true_eq, dep_succ] at hr
        have : maxN ((terms v).map (depT d)) ≤ 15 := by omega
        rw [maxN_le] at this
        exact this _ (List.mem_map_of_mem hm0)
      obtain ⟨n2, h2⟩ := ofOD_does hdd (h.term hm0) (h.wtT hm0) hok hdp
      refine Does.of (n1 + n2) fun m hm => ?_
      have e0 : T.get (T.node [T.node [copyT (copyV d) (oneT v)]]) 0 = T.node [copyT (copyV d) (oneT v)] := rfl
      have e1 : (terms (T.node [T.node [copyT (copyV d) (oneT v)]])) = [copyT (copyV d) (oneT v)] := rfl
      rw [q_fact_One]
      simp only [S0, S9, S1, S2, if_true, if_false, (h1 m (by omega)).1, (h1 m (by omega)).2, Bool.not_true, kd_eq, h4, h2 m (by omega), e1, List.length_cons, List.length_nil]
      rfl
    · rw [if_neg h4]
      refine Does.of n1 fun m hm => ?_
      rw [q_fact_One]
      simp only [S0, S9, S1, S2, if_true, if_false, (h1 m (by omega)).1, (h1 m (by omega)).2, Bool.not_true, kd_eq, h4]
def roneD (d : Nat) (v : T) : T × Int := if refV (d + 1) v = true then (if (terms v).length = 0 then (noTrm, 31) else if (terms v).length = 1 ∧ kd (oneT v) ≠ 5 then (oneT v, 0) else (noTrm, 28)) else (noTrm, 1)
theorem roneD_does {d : Nat} (hdd : d ≤ 900) {v : T} (h : Sm (d + 1) v) : Dz i_R11_One none [A.t v] (1, [A.t (roneD d v).1, A.t (T.int (roneD d v).2)]) := by
  obtain ⟨n0, h0⟩ := rright_val (d + 1) v (by omega) h
  refine Does.of n0 fun m hm => ?_
  rw [q_R11_One]
  unfold roneD oneT
  simp only [S0, S9, S1, S2, if_true, if_false, h0 m hm, noTrm_eq, kd_eq, Bool.not_eq_true']
  cases refV (d + 1) v with
  | false => simp
  | true =>
    simp only [Bool.true_eq_false, if_false, if_true]
    by_cases h0 : (terms v).length = 0
    · rw [if_pos (by omega), if_pos h0]
    rw [if_neg (by omega), if_neg h0]
    by_cases h1 : (terms v).length = 1
    · rw [if_pos (by omega), if_pos (by omega)]
      by_cases h5 : kd (tAtD (terms v) 0) = 5
      · rw [if_pos h5, if_neg (fun e => e.2 h5)]
      · rw [if_neg h5, if_pos (by omega), if_pos ⟨h1, h5⟩]
    · rw [if_neg (by omega), if_neg (fun e => h1 e.1)]
end Go.Proofs.YtoekafpmpopigaaGreatDoorFP
namespace Go.Proofs.YtoekafpmpopigaaGreatDoorFP
open Go Go.Proofs.YtoekafpmpopigaaGreatDoorVM
set_option linter.unusedVariables false
set_option linter.unusedSimpArgs false
set_option maxRecDepth 100000

def Asc (d : Nat) (l : List T) : Prop := (∀ t ∈ l, SmT d t) ∧ ∀ i (h : i + 1 < l.length), cmpT d (l[i]'(by omega)) l[i + 1] < 0
theorem Asc.lt {d : Nat} {l : List T} (h : Asc d l) : ∀ (k i : Nat) (h2 : i + 1 + k < l.length), cmpT d (l[i]'(by omega)) l[i + 1 + k] < 0
  | 0, i, h2 => h.2 i h2
  | k + 1, i, h2 => (good_terms d).lt (h.lt k i (by omega)) (h.2 (i + 1 + k) h2)
theorem Asc.gt {d : Nat} {l : List T} (h : Asc d l) {i j : Nat} (hij : i < j) (hj : j < l.length) : 0 < cmpT d l[j] (l[i]'(by omega)) := by
  obtain ⟨k, rfl⟩ : ∃ k, j = i + 1 + k := ⟨j - i - 1, by omega⟩
  have h1 := h.lt k i hj
  have h2 := (good_terms d).anti (l[i]'(by omega)) l[i + 1 + k]
  omega
theorem Asc.cmp {d : Nat} {l : List T} (h : Asc d l) {i j : Nat} (hij : i < j) (hj : j < l.length) : ∃ c : Int, 0 < c ∧ Dz i_rank_Terms none [A.t l[j], A.t (l[i]'(by omega))] (1, [A.t (T.int c)]) :=
  ⟨_, h.gt hij hj, pt_does (h.1 _ (List.getElem_mem hj)) (h.1 _ (List.getElem_mem _))⟩
theorem ins_c2 {d : Nat} {l : List T} (h : Asc d l) (hl : l.length ≤ 49) {n i : Nat} (h1 : 1 ≤ i) (hi : i < l.length) :
    Dz i_slices_insertionSortCmpFunc_Term_Terms_o (some p_slices_insertionSortCmpFunc_Term_Terms_o_c2) [A.t (T.int 0), A.t (T.int n), A.t (T.int i), A.t (T.int i), A.t (T.node l)] (4, [A.t (T.int 0), A.t (T.int n), A.t (T.int i), A.t (T.node l)]) := by
  obtain ⟨c, hc, n0, h0⟩ := h.cmp (show i - 1 < i by omega) hi
  have hp : IntKind.i64.wrap ((i : Int) - 1) = ((i - 1 : Nat) : Int) := by rw [w64 (by omega) (by omega)]; omega
  refine Does.of n0 fun m hm => ?_
  have q := h0 m hm
  rw [q_slices_insertionSortCmpFunc_Term_Terms_o_c2]
  simp only [S0, S9, S1, hp, Int.toNat_natCast, at_get hi, at_get (show i - 1 < l.length by omega), q]
  rw [if_pos (by omega), if_pos (by omega), if_pos (by omega), if_pos (by omega), if_pos (by omega), if_neg (by omega)]
theorem ins_does {d : Nat} {l : List T} (h : Asc d l) (hl : l.length ≤ 49) : Dz i_slices_insertionSortCmpFunc_Term_Terms_o none [A.t (T.int 0), A.t (T.int (l.length : Nat)), A.t (T.node l)] (1, [A.t (T.node l)]) := by
  have loop : ∀ (k i : Nat), 1 ≤ i → i + k = max l.length 1 → Dz i_slices_insertionSortCmpFunc_Term_Terms_o (some p_slices_insertionSortCmpFunc_Term_Terms_o_c1) [A.t (T.int 0), A.t (T.int (l.length : Nat)), A.t (T.int i), A.t (T.node l)] (2, [A.t (T.node l)]) := by
    intro k
    induction k with
    | zero =>
      intro i h1 hi
      refine Does.now fun m => ?_
      rw [q_slices_insertionSortCmpFunc_Term_Terms_o_c1]
      simp only [S0, S9, S1, S2, if_true, if_false]
      rw [if_neg (by omega)]
    | succ k ih =>
      intro i h1 hi
      have hw : IntKind.i64.wrap ((i : Int) + 1) = ((i + 1 : Nat) : Int) := i64succ (by omega)
      obtain ⟨n0, h0⟩ := (ins_c2 h hl (n := l.length) h1 (by omega)).both (ih (i + 1) (by omega) (by omega))
      refine Does.of n0 fun m hm => ?_
      obtain ⟨q1, q2⟩ := h0 m hm
      rw [q_slices_insertionSortCmpFunc_Term_Terms_o_c1]
      simp only [S0, S9, S1, S2, if_true, if_false, q1, hw, q2]
      rw [if_pos (by omega)]
  obtain ⟨n0, h0⟩ := loop (max l.length 1 - 1) 1 (by omega) (by omega)
  refine Does.of n0 fun m hm => ?_
  have q : den Tryz.prog G0 ents m i_slices_insertionSortCmpFunc_Term_Terms_o (some p_slices_insertionSortCmpFunc_Term_Terms_o_c1) [A.t (T.int 0), A.t (T.int (l.length : Nat)), A.t (T.int 1), A.t (T.node l)] = _ := h0 m hm
  have hw1 : IntKind.i64.wrap ((0 : Int) + 1) = 1 := by decide
  rw [q_slices_insertionSortCmpFunc_Term_Terms_o]
  simp only [S0, S9, S1, S2, if_true, if_false, hw1, q]
theorem order2_does {d : Nat} {l : List T} (h : Asc d l) {a b : Nat} (hab : a < b) (hb : b < l.length) (s : Int) :
    Dz i_slices_order2CmpFunc_Term_Terms_o none [A.t (T.int a), A.t (T.int b), A.t (T.node l), A.t (T.int s)] (1, [A.t (T.int a), A.t (T.int b), A.t (T.node l), A.t (T.int s)]) := by
  obtain ⟨c, hc, n0, h0⟩ := h.cmp hab hb
  refine Does.of n0 fun m hm => ?_
  have q := h0 m hm
  rw [q_slices_order2CmpFunc_Term_Terms_o]
  simp only [S0, S9, S1, Int.toNat_natCast, at_get hb, at_get (show a < l.length by omega), q]
  rw [if_pos (by omega), if_pos (by omega), if_pos (by omega), if_pos (by omega), if_neg (by omega)]
theorem median_does {d : Nat} {l : List T} (h : Asc d l) {a b c : Nat} (hab : a < b) (hbc : b < c) (hc : c < l.length) :
    Dz i_slices_medianCmpFunc_Term_Terms_o none [A.t (T.int a), A.t (T.int b), A.t (T.int c), A.t (T.node l), A.t (T.int 0)] (1, [A.t (T.int b), A.t (T.node l), A.t (T.int 0)]) := by
  obtain ⟨n0, h0⟩ := (order2_does h hab (by omega) 0).both (order2_does h hbc hc 0)
  refine Does.of n0 fun m hm => ?_
  obtain ⟨q1, q2⟩ := h0 m hm
  rw [q_slices_medianCmpFunc_Term_Terms_o]
  simp only [S0, S9, S1, q1, q2]
theorem pivot_does {d : Nat} {l : List T} (h : Asc d l) (h12 : 12 < l.length) (hl : l.length ≤ 49) :
    Dz i_slices_choosePivotCmpFunc_Term_Terms_o none [A.t (T.int 0), A.t (T.int (l.length : Nat)), A.t (T.node l)] (1, [A.t (T.int (l.length / 4 * 2 : Nat)), A.t (T.int 1), A.t (T.node l)]) := by
  have e0 : IntKind.i64.wrap (((l.length : Nat) : Int) - 0) = ((l.length : Nat) : Int) := by rw [w64 (by omega) (by omega)]; omega
  have e1 : IntKind.i64.wrap (Int.tdiv ((l.length : Nat) : Int) 4) = ((l.length / 4 : Nat) : Int) := by rw [show (4 : Int) = ((4 : Nat) : Int) from rfl, tdivN, w64 (by omega) (by omega)]
  have ek : ∀ k : Nat, k ≤ 3 → IntKind.i64.wrap (0 + IntKind.i64.wrap (((l.length / 4 : Nat) : Int) * ((k : Nat) : Int))) = ((l.length / 4 * k : Nat) : Int) := fun k hk => by
    have : (l.length / 4) * k ≤ 100 := by
      have h1 : l.length / 4 ≤ 12 := by omega
      calc (l.length / 4) * k ≤ 12 * 3 := Nat.mul_le_mul h1 hk
        _ ≤ 100 := by decide
    rw [show ((l.length / 4 : Nat) : Int) * ((k : Nat) : Int) = ((l.length / 4 * k : Nat) : Int) from (Int.natCast_mul _ _).symm, w64 (n := ((l.length / 4 * k : Nat) : Int)) (by omega) (by omega), w64 (by omega) (by omega)]
    omega
  have k1 : IntKind.i64.wrap (0 + IntKind.i64.wrap (((l.length / 4 : Nat) : Int) * 1)) = ((l.length / 4 * 1 : Nat) : Int) := ek 1 (by omega)
  have k2 : IntKind.i64.wrap (0 + IntKind.i64.wrap (((l.length / 4 : Nat) : Int) * 2)) = ((l.length / 4 * 2 : Nat) : Int) := ek 2 (by omega)
  have k3 : IntKind.i64.wrap (0 + IntKind.i64.wrap (((l.length / 4 : Nat) : Int) * 3)) = ((l.length / 4 * 3 : Nat) : Int) := ek 3 (by omega)
  obtain ⟨n0, h0⟩ := median_does h (a := l.length / 4 * 1) (b := l.length / 4 * 2) (c := l.length / 4 * 3) (by omega) (by omega) (by omega)
  refine Does.of n0 fun m hm => ?_
  have q := h0 m hm
  rw [q_slices_choosePivotCmpFunc_Term_Terms_o]
  simp only [S0, S9, S1, e0, e1, k1, k2, k3, q]
  rw [if_pos (by omega), if_neg (by omega)]
  rfl
theorem partial_does {d : Nat} {l : List T} (h : Asc d l) (h12 : 12 < l.length) (hl : l.length ≤ 49) :
    Dz i_slices_partialInsertionSortCmpFunc_Term_Terms_o none [A.t (T.int 0), A.t (T.int (l.length : Nat)), A.t (T.node l)] (1, [A.t (T.bool true), A.t (T.node l)]) := by
  have loop : ∀ (k i : Nat), 1 ≤ i → i + k = l.length → Dz i_slices_partialInsertionSortCmpFunc_Term_Terms_o (some p_slices_partialInsertionSortCmpFunc_Term_Terms_o_c2) [A.t (T.int 0), A.t (T.int (l.length : Nat)), A.t (T.int i), A.t (T.int 0), A.t (T.node l)] (4, [A.t (T.int 0), A.t (T.int (l.length : Nat)), A.t (T.int (l.length : Nat)), A.t (T.int 0), A.t (T.node l)]) := by
    intro k
    induction k with
    | zero =>
      intro i h1 hi
      obtain rfl : i = l.length := by omega
      refine Does.now fun m => ?_
      rw [q_slices_partialInsertionSortCmpFunc_Term_Terms_o_c2]
      simp only [S0, S9, S1, S2, if_true, if_false]
      rw [if_neg (by omega)]
    | succ k ih =>
      intro i h1 hi
      have hil : i < l.length := by omega
      obtain ⟨c, hc, hcd⟩ := h.cmp (show i - 1 < i by omega) hil
      have hp : IntKind.i64.wrap ((i : Int) - 1) = ((i - 1 : Nat) : Int) := by rw [w64 (by omega) (by omega)]; omega
      have hw : IntKind.i64.wrap ((i : Int) + 1) = ((i + 1 : Nat) : Int) := i64succ (by omega)
      obtain ⟨n0, h0⟩ := hcd.both (ih (i + 1) (by omega) (by omega))
      refine Does.of n0 fun m hm => ?_
      obtain ⟨q1, q2⟩ := h0 m hm
      rw [q_slices_partialInsertionSortCmpFunc_Term_Terms_o_c2]
      simp only [S0, S9, S1, hp, hw, Int.toNat_natCast, at_get hil, at_get (show i - 1 < l.length by omega), q1, q2]
      have hcf : decide (c < 0) = false := decide_eq_false (by omega)
      rw [if_pos (by omega), if_pos (by omega), if_pos (by omega), if_pos (by omega), if_pos (by omega), hcf]
      rfl
  have e1 : Dz i_slices_partialInsertionSortCmpFunc_Term_Terms_o (some p_slices_partialInsertionSortCmpFunc_Term_Terms_o_c1) [A.t (T.int 0), A.t (T.int (l.length : Nat)), A.t (T.int 1), A.t (T.int 0), A.t (T.node l)] (1, [A.t (T.bool true), A.t (T.node l)]) := by
    obtain ⟨n0, h0⟩ := loop (l.length - 1) 1 (by omega) (by omega)
    refine Does.of n0 fun m hm => ?_
    have q : den Tryz.prog G0 ents m i_slices_partialInsertionSortCmpFunc_Term_Terms_o (some p_slices_partialInsertionSortCmpFunc_Term_Terms_o_c2) [A.t (T.int 0), A.t (T.int (l.length : Nat)), A.t (T.int 1), A.t (T.int 0), A.t (T.node l)] = _ := h0 m hm
    have t5 : decide ((0 : Int) < 5) = true := rfl
    rw [q_slices_partialInsertionSortCmpFunc_Term_Terms_o_c1]
    simp only [S9, S1, num_int, kids_node, q, t5, cond_true, Option.bind_some, aAt_zero, aAt_succ, tree_t, Nat.beq_refl, beq_self_eq_true]
  obtain ⟨n0, h0⟩ := e1
  refine Does.of n0 fun m hm => ?_
  have hw1 : IntKind.i64.wrap ((0 : Int) + 1) = 1 := by decide
  rw [q_slices_partialInsertionSortCmpFunc_Term_Terms_o]
  simp only [S0, S9, S1, S2, if_true, if_false, hw1, h0 m hm]
theorem len_tab : ∀ n : Fin 50, 12 < n.val → (Array.getD (ByteArray.data (ByteArray.mk (List.toArray (List.append (List.append [0,1,2,2,3,3,3,3,4,4,4,4,4,4,4,4,5,5,5,5,5,5,5,5,5,5,5,5,5,5,5,5,6,6,6,6,6,6,6,6,6,6,6,6,6,6,6,6,6,6,6,6,6,6,6,6,6,6,6,6,6,6,6,6] [7,7,7,7,7,7,7,7,7,7,7,7,7,7,7,7,7,7,7,7,7,7,7,7,7,7,7,7,7,7,7,7,7,7,7,7,7,7,7,7,7,7,7,7,7,7,7,7,7,7,7,7,7,7,7,7,7,7,7,7,7,7,7,7]) (List.append [8,8,8,8,8,8,8,8,8,8,8,8,8,8,8,8,8,8,8,8,8,8,8,8,8,8,8,8,8,8,8,8,8,8,8,8,8,8,8,8,8,8,8,8,8,8,8,8,8,8,8,8,8,8,8,8,8,8,8,8,8,8,8,8] [8,8,8,8,8,8,8,8,8,8,8,8,8,8,8,8,8,8,8,8,8,8,8,8,8,8,8,8,8,8,8,8,8,8,8,8,8,8,8,8,8,8,8,8,8,8,8,8,8,8,8,8,8,8,8,8,8,8,8,8,8,8,8,8]))))) n.val (0 : UInt8)).toNat ≠ 0 := by decide +kernel
theorem len_does (n : Nat) (hn : n ≤ 49) : ∃ k : Nat, (12 < n → k ≠ 0) ∧ Dz i_math_bits_Len none [A.t (T.int n)] (1, [A.t (T.int k)]) := by
  have hb : IntKind.u8.wrap ((n : Nat) : Int) = ((n : Nat) : Int) := by rw [wu8, Nat.mod_eq_of_lt (by omega)]
  have tab := len_tab ⟨n, by omega⟩
  dsimp only at tab
  refine ⟨_, tab, Does.of 1 fun m hm => ?_⟩
  obtain ⟨m, rfl⟩ : ∃ k, m = Nat.succ k := ⟨m - 1, by omega⟩
  have c1 : decide (((n : Nat) : Int) ≥ 4294967296) = false := decide_eq_false (by omega)
  have c2 : decide (((n : Nat) : Int) ≥ 65536) = false := decide_eq_false (by omega)
  have c3 : decide (((n : Nat) : Int) ≥ 256) = false := decide_eq_false (by omega)
  have c4 : (decide (0 ≤ ((n : Nat) : Int)) && decide (((n : Nat) : Int) < 256)) = true := by rw [decide_eq_true (by omega), decide_eq_true (by omega)]; rfl
  rw [q_math_bits_Len]
  simp only [S9, S1, q_math_bits_Len64, num_int, c1, c2, c3, hb, c4, cond_true, cond_false, Int.toNat_natCast, Option.map_some, Option.bind_some, aAt_zero, tree_t]
  have hw : ∀ b : UInt8, IntKind.i64.wrap (0 + IntKind.i64.wrap ((b.toNat : Nat) : Int)) = ((b.toNat : Nat) : Int) := fun b => by
    have := UInt8.toNat_lt b
    rw [w64 (n := ((b.toNat : Nat) : Int)) (by omega) (by omega), w64 (by omega) (by omega)]
    omega
  rw [hw]
theorem pdq_does {d : Nat} {l : List T} (h : Asc d l) (hl : l.length ≤ 49) {k : Nat} (hk : 12 < l.length → k ≠ 0) :
    Dz i_slices_pdqsortCmpFunc_Term_Terms_o none [A.t (T.int 0), A.t (T.int (l.length : Nat)), A.t (T.int k), A.t (T.node l)] (1, [A.t (T.node l)]) := by
  have e0 : IntKind.i64.wrap (((l.length : Nat) : Int) - 0) = ((l.length : Nat) : Int) := by rw [w64 (by omega) (by omega)]; omega
  have e1 : Dz i_slices_pdqsortCmpFunc_Term_Terms_o (some p_slices_pdqsortCmpFunc_Term_Terms_o_c1) [A.t (T.int 0), A.t (T.int (l.length : Nat)), A.t (T.int k), A.t (T.bool true), A.t (T.bool true), A.t (T.node l)] (1, [A.t (T.node l)]) := by
    by_cases h12 : l.length ≤ 12
    · obtain ⟨n0, h0⟩ := ins_does h hl
      have c1 : decide (((l.length : Nat) : Int) ≤ 12) = true := decide_eq_true (by omega)
      refine Does.of n0 fun m hm => ?_
      refine (q_slices_pdqsortCmpFunc_Term_Terms_o_c1 m (T.int (l.length : Nat)) (T.int k) (T.node l)).trans ?_
      simp only [S9, S1, num_int, kids_node, e0, c1, cond_true, h0 m hm, Option.map_some, Option.bind_some, aAt_zero, tree_t]
    · obtain ⟨n0, h0⟩ := (pivot_does h (by omega) hl).both (partial_does h (by omega) hl)
      have c1 : decide (((l.length : Nat) : Int) ≤ 12) = false := decide_eq_false (by omega)
      have c2 : (((k : Nat) : Int) == 0) = false := beq_eq_false_iff_ne.2 (by have := hk (by omega); omega)
      refine Does.of n0 fun m hm => ?_
      obtain ⟨q1, q2⟩ := h0 m hm
      refine (q_slices_pdqsortCmpFunc_Term_Terms_o_c1 m (T.int (l.length : Nat)) (T.int k) (T.node l)).trans ?_
      simp only [S9, S1, num_int, tf_bool, kids_node, e0, c1, c2, cond_true, cond_false, Bool.not_true, q1, q2, Option.map_some, Option.bind_some, aAt_zero, aAt_succ, tree_t]
      rfl
  obtain ⟨n0, h0⟩ := e1
  refine Does.of n0 fun m hm => ?_
  rw [q_slices_pdqsortCmpFunc_Term_Terms_o]
  simp only [S0, S9, S1, S2, if_true, if_false, h0 m hm]
theorem sortA_does {d : Nat} {l : List T} (h : Asc d l) (hl : l.length ≤ 49) : Dz i_slices_SortFunc_Term_Terms_o none [A.t (T.node l)] (1, [A.t (T.node l)]) := by
  obtain ⟨k, hk, hlen⟩ := len_does l.length hl
  obtain ⟨n0, h0⟩ := hlen.both (pdq_does h hl hk)
  have hw : IntKind.u64.wrap (((l.length : Nat) : Int)) = ((l.length : Nat) : Int) := by rw [wu64, Nat.mod_eq_of_lt (by omega)]
  refine Does.of n0 fun m hm => ?_
  obtain ⟨q1, q2⟩ := h0 m hm
  rw [q_slices_SortFunc_Term_Terms_o]
  simp only [S0, S9, S1, S2, if_true, if_false, hw, q1, q2]
theorem compactA_does {d : Nat} {l : List T} (h : Asc d l) (hl : l.length ≤ 49) : Dz i_slices_CompactFunc_Term_settle1_o none [A.t (T.node l)] (1, [A.t (T.node l)]) := by
  have loop : ∀ (k i : Nat), 1 ≤ i → i + k = max l.length 1 → Dz i_slices_CompactFunc_Term_settle1_o (some p_slices_CompactFunc_Term_settle1_o_c1) [A.t (T.int i), A.t (T.node l)] (2, [A.t (T.node l)]) := by
    intro k
    induction k with
    | zero =>
      intro i h1 hi
      refine Does.now fun m => ?_
      rw [q_slices_CompactFunc_Term_settle1_o_c1]
      simp only [S0, S9, S1, S2, if_true, if_false]
      rw [if_neg (by omega)]
    | succ k ih =>
      intro i h1 hi
      have hil : i < l.length := by omega
      obtain ⟨c, hc, hcd⟩ := h.cmp (show i - 1 < i by omega) hil
      have hp : IntKind.i64.wrap ((i : Int) - 1) = ((i - 1 : Nat) : Int) := by rw [w64 (by omega) (by omega)]; omega
      have hw : IntKind.i64.wrap ((i : Int) + 1) = ((i + 1 : Nat) : Int) := i64succ (by omega)
      obtain ⟨n0, h0⟩ := hcd.both (ih (i + 1) (by omega) (by omega))
      refine Does.of (n0 + 1) fun m hm => ?_
      have q2 := (h0 m (by omega)).2
      obtain ⟨m', rfl⟩ : ∃ k, m = Nat.succ k := ⟨m - 1, by omega⟩
      have q1 := (h0 m' (by omega)).1
      have hc0 : (c == 0) = false := beq_eq_false_iff_ne.2 (by omega)
      rw [q_slices_CompactFunc_Term_settle1_o_c1]
      simp only [S0, S9, S1, hp, hw, Int.toNat_natCast, at_get hil, at_get (show i - 1 < l.length by omega), q_lat_settle_1, q1, hc0, q2]
      rw [if_pos (by omega), if_pos (by omega), if_pos (by omega), if_pos (by omega), if_pos (by omega)]
      rfl
  by_cases h2 : l.length < 2
  · refine Does.now fun m => ?_
    rw [q_slices_CompactFunc_Term_settle1_o]
    simp only [S0, S9, S1, S2, if_true, if_false]
    rw [if_pos (by omega)]
  · obtain ⟨n0, h0⟩ := loop (max l.length 1 - 1) 1 (by omega) (by omega)
    refine Does.of n0 fun m hm => ?_
    have q : den Tryz.prog G0 ents m i_slices_CompactFunc_Term_settle1_o (some p_slices_CompactFunc_Term_settle1_o_c1) [A.t (T.int 1), A.t (T.node l)] = _ := h0 m hm
    rw [q_slices_CompactFunc_Term_settle1_o]
    simp only [S0, S9, S1, S2, if_true, if_false, q]
    rw [if_neg (by omega)]
end Go.Proofs.YtoekafpmpopigaaGreatDoorFP
namespace Go.Proofs.YtoekafpmpopigaaGreatDoorFP
open Go Go.Proofs.YtoekafpmpopigaaGreatDoorVM
set_option linter.unusedVariables false
set_option linter.unusedSimpArgs false
set_option maxRecDepth 100000

def fsum (d : Nat) (t : T) : Nat := sumN ((flds t).map fun f => wt d (val f))
theorem weightA_c2 {d : Nat} {t : T} (ht : SmT d t) (l : List T) (ln i : Int) : ∀ (k j n : Nat), j + k = (flds t).length → n + 600 * k ≤ 100000000 →
    Dz i_rank_Weight_o (some p_rank_Weight_o_c2) [A.t (T.int n), A.t (T.int ln), A.t (T.int i), A.t (T.node (flds t)), A.t (T.int ((flds t).length : Nat)), A.t (T.int j), A.t (T.node l)] (4, [A.t (T.int (n + sumN (((flds t).drop j).map fun f => wt d (val f)) : Nat)), A.t (T.int ln), A.t (T.int i), A.t (T.node l)]) := by
  have hl := ht.1
  intro k
  induction k with
  | zero =>
    intro j n hj hn
    rw [List.drop_of_length_le (by omega)]
    refine Does.now fun m => ?_
    rw [q_rank_Weight_o_c2]
    simp only [S0, S9, S1, S2, if_true, if_false]
    rw [if_neg (by omega)]
    rfl
  | succ k ih =>
    intro j n hj hn
    have hlt : j < (flds t).length := by omega
    have hs := ht.2 _ (List.getElem_mem hlt)
    have hsw := hs.2
    have hw : IntKind.i64.wrap ((j : Int) + 1) = ((j + 1 : Nat) : Int) := i64succ (by omega)
    have ha : IntKind.i64.wrap (((n : Nat) : Int) + ((wt d (val (flds t)[j]) : Nat) : Int)) = ((n + wt d (val (flds t)[j]) : Nat) : Int) := by rw [w64 (by omega) (by omega)]; omega
    have hih := ih (j + 1) (n + wt d (val (flds t)[j])) (by omega) (by omega)
    rw [Nat.add_assoc] at hih
    obtain ⟨n0, h0⟩ := (pweight_does d _ hs).both hih
    rw [List.drop_eq_getElem_cons hlt, List.map_cons, sum_cons]
    refine Does.of n0 fun m hm => ?_
    obtain ⟨q1, q2⟩ := h0 m hm
    rw [q_rank_Weight_o_c2]
    simp only [S0, S9, S1, Int.toNat_natCast, at_get hlt, val_eq, q1, ha, hw, q2]
    rw [if_pos (by omega), if_pos (by omega)]
theorem fsum_le {d : Nat} {t : T} (ht : SmT d t) : fsum d t ≤ 51200 := by
  have : ∀ (l : List T), (∀ f ∈ l, Sm d (val f)) → sumN (l.map fun f => wt d (val f)) ≤ 512 * l.length := by
    intro l
    induction l with
    | nil => intro _; simp [sumN]
    | cons f l ih =>
      intro h
      have h1 := (h f List.mem_cons_self).2
      have h2 := ih fun x hx => h x (List.mem_cons_of_mem _ hx)
      rw [List.map_cons, sum_cons, List.length_cons]
      omega
  have h1 := this (flds t) ht.2
  have h2 := ht.1
  unfold fsum
  omega
theorem weightA_does {d : Nat} {l : List T} (hs : ∀ t ∈ l, SmT d t) (hl : l.length ≤ 49) : Dz i_rank_Weight_o none [A.t (T.node l)] (1, [A.t (T.int (l.length + sumN (l.map (fsum d)) : Nat)), A.t (T.node l)]) := by
  have loop : ∀ (k j n : Nat), j + k = l.length → n + 60000 * k ≤ 90000000 → Dz i_rank_Weight_o (some p_rank_Weight_o_c1) [A.t (T.int n), A.t (T.int (l.length : Nat)), A.t (T.int j), A.t (T.node l)] (2, [A.t (T.int (n + sumN ((l.drop j).map (fsum d)) : Nat)), A.t (T.node l)]) := by
    intro k
    induction k with
    | zero =>
      intro j n hj hn
      rw [List.drop_of_length_le (by omega)]
      refine Does.now fun m => ?_
      rw [q_rank_Weight_o_c1]
      simp only [S0, S9, S1, S2, if_true, if_false]
      rw [if_neg (by omega)]
      rfl
    | succ k ih =>
      intro j n hj hn
      have hlt : j < l.length := by omega
      have ht := hs _ (List.getElem_mem hlt)
      have hle := fsum_le ht
      have hfl := ht.1
      have hw : IntKind.i64.wrap ((j : Int) + 1) = ((j + 1 : Nat) : Int) := i64succ (by omega)
      have h2 := weightA_c2 ht l (l.length : Nat) j (flds l[j]).length 0 n (by omega) (by omega)
      rw [List.drop_zero] at h2
      have hih := ih (j + 1) (n + fsum d l[j]) (by omega) (by omega)
      rw [Nat.add_assoc] at hih
      obtain ⟨n0, h0⟩ := h2.both hih
      rw [List.drop_eq_getElem_cons hlt, List.map_cons, sum_cons]
      refine Does.of n0 fun m hm => ?_
      obtain ⟨q1, q2⟩ := h0 m hm
      have q1' : den Tryz.prog G0 ents m i_rank_Weight_o (some p_rank_Weight_o_c2) [A.t (T.int n), A.t (T.int (l.length : Nat)), A.t (T.int j), A.t (T.node (flds l[j])), A.t (T.int ((flds l[j]).length : Nat)), A.t (T.int 0), A.t (T.node l)] = some (4, [A.t (T.int (n + fsum d l[j] : Nat)), A.t (T.int (l.length : Nat)), A.t (T.int j), A.t (T.node l)]) := q1
      rw [q_rank_Weight_o_c1]
      simp only [S0, S9, S1, S2, if_true, if_false, at_get hlt, q1', hw, q2]
      rw [if_pos (by omega), if_pos (by omega), if_pos (by omega)]
  obtain ⟨n0, h0⟩ := loop l.length 0 l.length (by omega) (by omega)
  rw [List.drop_zero] at h0
  refine Does.of n0 fun m hm => ?_
  have q : den Tryz.prog G0 ents m i_rank_Weight_o (some p_rank_Weight_o_c1) [A.t (T.int (l.length : Nat)), A.t (T.int (l.length : Nat)), A.t (T.int 0), A.t (T.node l)] = _ := h0 m hm
  rw [q_rank_Weight_o]
  simp only [S0, S9, S1, S2, if_true, if_false, q]
theorem wt_fsum (d : Nat) (v : T) : wt (d + 1) v = (terms v).length + sumN ((terms v).map (fsum d)) := by
  have : ∀ l : List T, sumN (l.map (wtT d)) = l.length + sumN (l.map (fsum d)) := by
    intro l
    induction l with
    | nil => rfl
    | cons t l ih =>
      rw [List.map_cons, List.map_cons, sum_cons, sum_cons, List.length_cons, ih]
      unfold wtT fsum
      omega
  rw [wt_succ, this]
theorem cloneOA_eq (n : Nat) (l : List T) : den Tryz.prog G0 ents (Nat.succ n) i_slices_Clone_Term_o none [A.t (T.node l)] = Option.map (fun o => (1, o)) (cloneOF [A.t (T.node l)]) := by kernel_rfl
theorem cloneOA_does (l : List T) (h : l.length ≤ 1000000000) : Dz i_slices_Clone_Term_o none [A.t (T.node l)] (1, [A.t (T.node l), A.t (T.node l)]) := by
  have : cloneOF [A.t (T.node l)] = some [A.t (T.node l), A.t (T.node l)] := by
    show (bif decide (l.length ≤ 1000000000) then _ else _) = _
    rw [decide_eq_true h]; rfl
  exact Does.now fun n => by rw [cloneOA_eq, this]; rfl
theorem copyA_does {d : Nat} {l : List T} (hs : ∀ t ∈ l, SmT d t) (hl : l.length ≤ 49) : Dz i_rank_Copy_o none [A.t (T.node l)] (1, [A.t (T.node [T.node (l.map (copyT (copyV d)))]), A.t (T.node l)]) := by
  have loop := Dz.steps (i := i_rank_Copy_o) (p := some p_rank_Copy_o_c1) (R := (2, [A.t (T.node l), A.t (T.node [T.node []]), A.t (T.node (l.map (copyT (copyV d))))])) l.length
    (fun j => [A.t (T.int (l.length : Nat)), A.t (T.int j), A.t (T.node l), A.t (T.node [T.node []]), A.t (T.node (half (copyT (copyV d)) l j))]) (by
      refine Does.now fun m => ?_
      rw [q_rank_Copy_o_c1]
      simp only [S0, S9, S1, S2, if_true, if_false, half_end]
      rw [if_neg (by omega)]) (fun j hj R hR => by
      have hw : IntKind.i64.wrap ((j : Int) + 1) = ((j + 1 : Nat) : Int) := i64succ (by omega)
      have ht := hs _ (List.getElem_mem hj)
      have hfl := ht.1
      have hc2 := copyO_c2 (copyV d) (j : Nat) (l.length : Nat) (j : Nat) (T.node l) (T.node [T.node []]) (T.node (half (copyT (copyV d)) l j)) (flds l[j]) (by omega) (fun f hf => copy_does d _ (ht.2 f hf))
      obtain ⟨n1, h1⟩ := (cloneFd_does (flds l[j]) (by omega)).both hc2
      obtain ⟨n2, h2⟩ := hR
      have hset := half_set (g := copyT (copyV d)) hj
      refine Does.of (n1 + n2) fun m hm => ?_
      obtain ⟨q1, q2⟩ := h1 m (by omega)
      have q3 := h2 m (by omega)
      rw [← hset] at q3
      simp only [kids_node] at q2
      rw [q_rank_Copy_o_c1]
      simp only [S0, S9, S1, S2, if_true, if_false, half_len, half_at hj, q1, q2, hw]
      rw [if_pos (by omega), if_pos (by omega), if_pos (by omega), if_pos (by omega), if_pos (by omega)]
      exact q3)
  rw [half_zero] at loop
  obtain ⟨n2, h2⟩ := (cloneOA_does l (by omega)).both loop
  refine Does.of n2 fun m hm => ?_
  obtain ⟨q1, q2⟩ := h2 m hm
  have q2' : den Tryz.prog G0 ents m i_rank_Copy_o (some p_rank_Copy_o_c1) [A.t (T.int (l.length : Nat)), A.t (T.int 0), A.t (T.node l), A.t (T.node [T.node []]), A.t (T.node l)] = _ := q2
  rw [q_rank_Copy_o]
  simp only [S0, S9, S1, S2, if_true, if_false, q1, q2']
theorem below_terms {d : Nat} {v : T} (h : Sm (d + 1) v) (ho : okV (d + 1) v = true) : ∀ x ∈ terms v, ∀ y ∈ terms v, Dz i_lat_below none [A.t x, A.t y] (1, [A.t (T.bool (belowT (underV d) x y))]) := by
  have hN : ∀ t ∈ terms v, NRt d t := fun t ht => NRt_of (fun f hf h => okV_NR d _ h) (okV_term ho ht)
  exact fun x hx y hy =>
    lbelow_does (underV d) x y (by have := h.flds hx; omega) (by have := h.flds hy; omega) (fun h4 => (hN x hx h4).1) (fun h4 => (hN y hy h4).1)
      fun h1 h2 f hf g hg => lunder_does d _ _ (h.sub hx hf) (h.sub hy hg) ((hN x hx h1).2 f hf) ((hN y hy h2).2 g hg)
theorem apart_false {d : Nat} {v : T} (ho : okV (d + 1) v = true) {i k : Nat} (hi : i < (terms v).length) (hk : k < (terms v).length) (hik : i ≠ k) : belowT (underV d) (terms v)[i] (terms v)[k] = false := by
  rw [okV, Bool.and_eq_true] at ho
  have h1 := (allN_iff _ _ _).1 ho.2 i (by omega) (by omega)
  have h2 := (allN_iff _ _ _).1 h1 k (by omega) (by omega)
  unfold apart at h2
  rw [decide_eq_false hik, Bool.false_or, at_get hi, at_get hk] at h2
  cases hb : belowT (underV d) (terms v)[i] (terms v)[k] with
  | false => rfl
  | true => rw [hb] at h2; cases h2
theorem asc_of {d : Nat} {v : T} (h : Sm (d + 1) v) (ho : okV (d + 1) v = true) : Asc d (terms v) := by
  refine ⟨fun t ht => h.term ht, fun i hi => ?_⟩
  rw [okV, Bool.and_eq_true] at ho
  have h1 := (allN_iff _ _ _).1 ho.1 (i + 1) (by omega) (by omega)
  rw [Bool.and_eq_true] at h1
  have h2 := h1.2
  unfold ascAt at h2
  rw [show (i + 1 == 0) = false from rfl, Bool.false_or, show i + 1 - 1 = i from rfl, at_get (show i < (terms v).length by omega), at_get hi] at h2
  exact of_decide_eq_true h2
theorem settleA_does {d : Nat} {v : T} (h : Sm (d + 1) v) (ho : okV (d + 1) v = true) (hl : (terms v).length ≤ 49) : Dz i_lat_settle none [A.t (T.node (terms v))] (1, [A.t (copyV (d + 1) v), A.t (T.int 0)]) := by
  have hasc := asc_of h ho
  have hbel := below_terms h ho
  have c2 : ∀ (i : Nat) (hi : i < (terms v).length) (out : List T) (k j : Nat), j + k = (terms v).length →
      Dz i_lat_settle (some p_lat_settle_c2) [A.t (T.int i), A.t (T.int ((terms v).length : Nat)), A.t (T.int i), A.t (T.int ((terms v).length : Nat)), A.t (T.int j), A.t (T.node (terms v)), A.t (T.node [T.node []]), A.t (T.node out), A.t (terms v)[i]]
        (4, [A.t (T.int ((terms v).length : Nat)), A.t (T.int i), A.t (T.node (terms v)), A.t (T.node [T.node []]), A.t (T.node out), A.t (terms v)[i]]) := by
    intro i hi out k
    induction k with
    | zero =>
      intro j hj
      refine Does.now fun m => ?_
      rw [q_lat_settle_c2]
      simp only [S0, S9, S1, S2, if_true, if_false]
      rw [if_neg (by omega)]
    | succ k ih =>
      intro j hj
      have hlt : j < (terms v).length := by omega
      have hw : IntKind.i64.wrap ((j : Int) + 1) = ((j + 1 : Nat) : Int) := i64succ (by omega)
      have hbd := hbel _ (List.getElem_mem hi) _ (List.getElem_mem hlt)
      by_cases hij : i = j
      · obtain ⟨n0, h0⟩ := ih (j + 1) (by omega)
        have hne : ((((i : Nat) : Int) != ((j : Nat) : Int)) == true) = false := by rw [hij]; simp
        refine Does.of n0 fun m hm => ?_
        rw [q_lat_settle_c2]
        simp only [S9, S1, num_int, kids_node, hne, hw, h0 m hm, cond_false, cond_true, Int.toNat_natCast]
        rw [decide_eq_true (show (j : Int) < (((terms v).length : Nat) : Int) by omega), decide_eq_true (show (0 : Int) ≤ (j : Int) by omega), decide_eq_true hlt]
        rfl
      · rw [apart_false ho hi hlt hij] at hbd
        obtain ⟨n0, h0⟩ := hbd.both (ih (j + 1) (by omega))
        have hne : ((((i : Nat) : Int) != ((j : Nat) : Int)) == true) = true := by rw [bne_iff_ne.2 (by omega : ((i : Nat) : Int) ≠ ((j : Nat) : Int))]; rfl
        refine Does.of n0 fun m hm => ?_
        obtain ⟨q1, q2⟩ := h0 m hm
        rw [q_lat_settle_c2]
        simp only [S9, S1, num_int, kids_node, hne, hw, at_get hlt, q1, q2, cond_false, cond_true, Int.toNat_natCast, Option.map_some, Option.bind_some, aAt_zero, tree_t, tf_bool]
        rw [decide_eq_true (show (j : Int) < (((terms v).length : Nat) : Int) by omega), decide_eq_true (show (0 : Int) ≤ (j : Int) by omega), decide_eq_true hlt]
        rfl
  have c1 : ∀ (k i : Nat), i + k = (terms v).length → Dz i_lat_settle (some p_lat_settle_c1) [A.t (T.int ((terms v).length : Nat)), A.t (T.int i), A.t (T.node (terms v)), A.t (T.node [T.node []]), A.t (T.node ((terms v).take i))] (2, [A.t (T.node [T.node []]), A.t (T.node (terms v))]) := by
    intro k
    induction k with
    | zero =>
      intro i hi
      obtain rfl : i = (terms v).length := by omega
      refine Does.now fun m => ?_
      rw [q_lat_settle_c1, List.take_length]
      simp only [S0, S9, S1, S2, if_true, if_false]
      rw [if_neg (by omega)]
    | succ k ih =>
      intro i hi
      have hlt : i < (terms v).length := by omega
      have hw : IntKind.i64.wrap ((i : Int) + 1) = ((i + 1 : Nat) : Int) := i64succ (by omega)
      obtain ⟨n0, h0⟩ := (c2 i hlt ((terms v).take i) (terms v).length 0 (by omega)).both (ih (i + 1) (by omega))
      have htl : ((terms v).take i).length = i := by rw [List.length_take]; omega
      refine Does.of n0 fun m hm => ?_
      obtain ⟨q1, q2⟩ := h0 m hm
      have q1' : den Tryz.prog G0 ents m i_lat_settle (some p_lat_settle_c2) [A.t (T.int i), A.t (T.int ((terms v).length : Nat)), A.t (T.int i), A.t (T.int ((terms v).length : Nat)), A.t (T.int 0), A.t (T.node (terms v)), A.t (T.node [T.node []]), A.t (T.node ((terms v).take i)), A.t (terms v)[i]] = _ := q1
      rw [List.take_succ_eq_append_getElem hlt] at q2
      rw [q_lat_settle_c1]
      simp only [S0, S9, S1, at_get hlt, Int.toNat_natCast, q1', hw, htl, q2]
      rw [if_pos (by omega), if_pos (by omega), if_pos (by omega), if_pos (by first | exact trivial | omega), if_pos (by omega)]
  have hl0 := c1 (terms v).length 0 (by omega)
  rw [List.take_zero] at hl0
  obtain ⟨n1, h1⟩ := (cloneT_does (terms v) (by omega)).both (sortA_does hasc hl)
  obtain ⟨n2, h2⟩ := (compactA_does hasc hl).both hl0
  obtain ⟨n3, h3⟩ := (weightA_does (fun t ht => h.term ht) hl).both (copyA_does (fun t ht => h.term ht) hl)
  have hwt := h.2
  rw [wt_fsum] at hwt
  refine Does.of (n1 + n2 + n3) fun m hm => ?_
  obtain ⟨q1, q2⟩ := h1 m (by omega)
  obtain ⟨q3, q4⟩ := h2 m (by omega)
  obtain ⟨q5, q6⟩ := h3 m (by omega)
  have q4' : den Tryz.prog G0 ents m i_lat_settle (some p_lat_settle_c1) [A.t (T.int ((terms v).length : Nat)), A.t (T.int 0), A.t (T.node (terms v)), A.t (T.node [T.node []]), A.t (T.node [])] = _ := q4
  rw [q_lat_settle]
  simp only [S0, S9, S1, S2, if_true, if_false, q1, q2, q3, q4', q5, q6]
  rw [if_neg (by omega)]
  rfl
end Go.Proofs.YtoekafpmpopigaaGreatDoorFP
namespace Go.Proofs.YtoekafpmpopigaaGreatDoorFP
open Go Go.Proofs.YtoekafpmpopigaaGreatDoorVM
set_option linter.unusedVariables false
set_option linter.unusedSimpArgs false
set_option maxRecDepth 100000

theorem refV_term {d : Nat} {v : T} (hr : refV (d + 1) v = true) {t : T} (ht : t ∈ terms v) : okT (okV d) d t = true ∧ depT d t ≤ 15 := by
  refine ⟨okV_term (refV_okD hr) ht, ?_⟩
  rw [refV_eq, Bool.and_eq_true, decide_eq_true_eq, dep_succ] at hr
  have : maxN ((terms v).map (depT d)) ≤ 15 := by omega
  rw [maxN_le] at this
  exact this _ (List.mem_map_of_mem ht)
theorem refV_fld {d : Nat} {t : T} (ho : okT (okV d) d t = true) (hd : depT d t ≤ 15) : ∀ f ∈ flds t, refV d (val f) = true := by
  intro f hf
  by_cases h4 : kd t = 4
  · have h1 := ((okT_parts ho).1 h4).2.2 f hf
    rw [refV_eq, h1]
    have : dep d (val f) ≤ 15 := by
      rw [depT, maxN_le] at hd
      exact hd _ (List.mem_map_of_mem hf)
    rw [decide_eq_true (by omega)]
    rfl
  · rw [okT_flds ho h4] at hf
    cases hf
theorem ofA_does {d : Nat} (hdd : d ≤ 900) {v : T} (h : Sm (d + 1) v) (hr : refV (d + 1) v = true) (hl : (terms v).length ≤ 49) : Dz i_lat_Of none [A.t (T.node (terms v))] (1, [A.t (copyV (d + 1) v), A.t (T.int 0)]) := by
  have loop : ∀ (k j dp : Nat), j + k = (terms v).length → dp ≤ 16 → ∃ dp', dp' ≤ 16 ∧ Dz i_lat_Of (some p_lat_Of_c1) [A.t (T.node (terms v)), A.t (T.int dp), A.t (T.node (terms v)), A.t (T.int ((terms v).length : Nat)), A.t (T.int j), A.t (T.node [T.node []])] (2, [A.t (T.node (terms v)), A.t (T.int (dp' : Nat)), A.t (T.node [T.node []])]) := by
    intro k
    induction k with
    | zero =>
      intro j dp hj hdp
      refine ⟨dp, hdp, Does.now fun m => ?_⟩
      rw [q_lat_Of_c1]
      simp only [S0, S9, S1, S2, if_true, if_false]
      rw [if_neg (by omega)]
    | succ k ih =>
      intro j dp hj hdp
      have hlt : j < (terms v).length := by omega
      have hm0 := List.getElem_mem hlt
      have ht := h.term hm0
      obtain ⟨ho, hd⟩ := refV_term hr hm0
      have hfr := refV_fld ho hd
      have hfl := ht.1
      have hw : IntKind.i64.wrap ((j : Int) + 1) = ((j + 1 : Nat) : Int) := i64succ (by omega)
      have hok : okT (listV d 16) d (terms v)[j] = true := by
        rw [okT_deep (S := okV d) (e := 16) (fun f hf => listV_eq d 16 (val f)), ho, decide_eq_true (by omega)]
        rfl
      have hsh := shaped_does (listV d 16) d _ ht 16 (by omega) (fun _ f hf => listed_does d 16 _ (by omega) (ht.2 f hf))
      rw [hok] at hsh
      obtain ⟨dp', hdp', hih⟩ := ih (j + 1) (max dp (1 + depT d (terms v)[j])) (by omega) (by omega)
      have hc2 := Dz.steps (i := i_lat_Of) (p := some p_lat_Of_c2) (R := (4, [A.t (T.node (terms v)), A.t (T.int (max dp (1 + depT d (terms v)[j]) : Nat)), A.t (T.node (terms v)), A.t (T.int ((terms v).length : Nat)), A.t (T.int j), A.t (T.node [T.node []])])) (flds (terms v)[j]).length
        (fun i => [A.t (T.node (terms v)), A.t (T.int (max dp (1 + depT d (terms v)[j]) : Nat)), A.t (T.node (terms v)), A.t (T.int ((terms v).length : Nat)), A.t (T.int j), A.t (T.node (flds (terms v)[j])), A.t (T.int ((flds (terms v)[j]).length : Nat)), A.t (T.int i), A.t (T.node [T.node []])]) (by
          refine Does.now fun m => ?_
          rw [q_lat_Of_c2]
          simp only [S0, S9, S1, S2, if_true, if_false]
          rw [if_neg (by omega)]) (fun i hi R hR => by
          have hw : IntKind.i64.wrap ((i : Int) + 1) = ((i + 1 : Nat) : Int) := i64succ (by omega)
          have g1 : (0 : Int) ≤ (i : Int) := by omega
          have g2 : (i : Int) < ((flds (terms v)[j]).length : Int) := by omega
          have hm := List.getElem_mem hi
          have h1 := lrightD_does (ht.2 _ hm)
          rw [hfr _ hm] at h1
          obtain ⟨n0, h0⟩ := h1.both hR
          refine Does.of n0 fun m hm => ?_
          obtain ⟨q1, q2⟩ := h0 m hm
          rw [q_lat_Of_c2]
          simp only [S0, S9, S1, S2, if_true, if_false, g1, g2, and_self, at_get hi, val_eq, q1, hw, Bool.not_true]
          exact q2)
      refine ⟨dp', hdp', ?_⟩
      obtain ⟨n1, h1⟩ := hc2.both hih
      obtain ⟨n2, h2⟩ := hsh.both (depthO_does (by omega) ht)
      refine Does.of (n1 + n2) fun m hm => ?_
      obtain ⟨q1, q2⟩ := h1 m (by omega)
      obtain ⟨q3, q4⟩ := h2 m (by omega)
      have q3' : den Tryz.prog G0 ents m i_lat_shaped none [A.t (terms v)[j], A.t (T.int 17)] = _ := q3
      have q1' : den Tryz.prog G0 ents m i_lat_Of (some p_lat_Of_c2) [A.t (T.node (terms v)), A.t (T.int (max dp (1 + depT d (terms v)[j]) : Nat)), A.t (T.node (terms v)), A.t (T.int ((terms v).length : Nat)), A.t (T.int j), A.t (T.node (flds (terms v)[j])), A.t (T.int ((flds (terms v)[j]).length : Nat)), A.t (T.int 0), A.t (T.node [T.node []])] = _ := q1
      rw [q_lat_Of_c1]
      simp only [S0, S9, S1, S2, if_true, if_false, at_get hlt, q3', q4, maxI_nat, q1', hw, q2, Bool.not_true]
      rw [if_pos (by omega), if_pos (by omega)]
  obtain ⟨dp', hdp', hloop⟩ := loop (terms v).length 0 1 (by omega) (by omega)
  obtain ⟨n1, h1⟩ := hloop.both (settleA_does h (refV_okD hr) hl)
  refine Does.of n1 fun m hm => ?_
  obtain ⟨q1, q2⟩ := h1 m hm
  have q1' : den Tryz.prog G0 ents m i_lat_Of (some p_lat_Of_c1) [A.t (T.node (terms v)), A.t (T.int 1), A.t (T.node (terms v)), A.t (T.int ((terms v).length : Nat)), A.t (T.int 0), A.t (T.node [T.node []])] = _ := q1
  rw [q_lat_Of]
  simp only [S0, S9, S1, S2, if_true, if_false, q1', q2]
  rw [if_neg (by omega), if_neg (by omega)]
end Go.Proofs.YtoekafpmpopigaaGreatDoorFP
namespace Go.Proofs.YtoekafpmpopigaaGreatDoorFP
open Go Go.Proofs.YtoekafpmpopigaaGreatDoorVM
set_option linter.unusedVariables false
set_option linter.unusedSimpArgs false
set_option maxRecDepth 100000

def noV : T := .node [.node []]
theorem Sm_noV : Sm 20 noV := ⟨fun t ht => (by cases ht), by decide⟩
theorem copyT_id {d : Nat} {v : T} (h : Sm (d + 1) v) (hs : ShpV (d + 1) v) {t : T} (ht : t ∈ terms v) : copyT (copyV d) t = t := by
  have h1 := copyV_id (d + 1) v h.1 hs
  have h2 : terms (copyV (d + 1) v) = (terms v).map (copyT (copyV d)) := rfl
  rw [h1] at h2
  obtain ⟨j, hj, rfl⟩ := List.getElem_of_mem ht
  have hj2 : j < ((terms v).map (copyT (copyV d))).length := by rw [List.length_map]; exact hj
  have h3 : ((terms v).map (copyT (copyV d)))[j] = copyT (copyV d) (terms v)[j] := List.getElem_map _
  have h4 : (terms v)[j]? = ((terms v).map (copyT (copyV d)))[j]? := congrArg (fun l => l[j]?) h2
  rw [List.getElem?_eq_getElem hj, List.getElem?_eq_getElem hj2, h3] at h4
  exact (Option.some.inj h4).symm
theorem one_mem {v : T} (h : (terms v).length = 1) : oneT v ∈ terms v := by unfold oneT; rw [at_get (by omega)]; exact List.getElem_mem _
theorem pone_rone {d : Nat} {v : T} (h : Sm (d + 1) v) (hs : ShpV (d + 1) v) : poneD d v = roneD d v := by
  unfold poneD roneD
  by_cases hr : refV (d + 1) v = true
  · rw [if_pos hr, if_pos hr]
    by_cases c : (terms v).length = 1 ∧ kd (oneT v) ≠ 5
    · rw [if_pos c, if_neg (show ¬ (terms v).length = 0 by omega), if_pos c]
      by_cases h4 : kd (oneT v) = 4
      · rw [if_pos h4, copyT_id h hs (one_mem c.1)]
      · rw [if_neg h4]
    · rw [if_neg c]
      by_cases h0 : (terms v).length = 0
      · rw [if_pos h0, if_pos h0]
      · rw [if_neg h0, if_neg h0, if_neg c]
  · rw [if_neg hr, if_neg hr]
def Okv (d : Nat) (v : T) : Prop := Sm d v ∧ ShpV d v ∧ wt d v ≤ 40 ∧ d ≤ 20
theorem roneD_ok {d : Nat} {v : T} (h0 : (roneD d v).2 = 0) : refV (d + 1) v = true ∧ (terms v).length = 1 ∧ (roneD d v).1 = oneT v ∧ kd (oneT v) ≠ 5 := by
  unfold roneD at h0 ⊢
  by_cases hr : refV (d + 1) v = true
  · rw [if_pos hr] at h0 ⊢
    by_cases h1 : (terms v).length = 0
    · rw [if_pos h1] at h0; cases h0
    rw [if_neg h1] at h0 ⊢
    by_cases c : (terms v).length = 1 ∧ kd (oneT v) ≠ 5
    · rw [if_pos c] at h0 ⊢
      exact ⟨hr, c.1, rfl, c.2⟩
    · rw [if_neg c] at h0; cases h0
  · rw [if_neg hr] at h0; cases h0
theorem fld_shape {d : Nat} {v t f : T} (hs : ShpV (d + 1) v) (ht : t ∈ terms v) (hf : f ∈ flds t) : ShpV d (val f) := by
  obtain ⟨l, rfl, hl⟩ := hs
  obtain ⟨a0, a1, a2, a3, a4, a5, a6, fs, rfl, h⟩ := hl t ht
  obtain ⟨s, w, rfl, hw⟩ := h f hf
  exact hw
theorem fld_wt {d : Nat} {v t f : T} (ht : t ∈ terms v) (hf : f ∈ flds t) : wt d (val f) ≤ wt (d + 1) v := by
  have h1 : wt d (val f) ≤ wtT d t := by
    unfold wtT
    have := sum_mem (f := fun f => wt d (val f)) hf
    omega
  have h2 : wtT d t ≤ wt (d + 1) v := sum_mem (f := wtT d) ht
  omega
theorem fidx_does (l : List T) (s : ByteArray) (hl : l.length ≤ 1000) : Dz i_slices_IndexFunc_Field_Pick1 none [A.t (T.node l), A.t (T.str s)] (1, [A.t (T.int (findF l s 0)), A.t (T.str s)]) := by
  have loop : ∀ (k j : Nat), j + k = l.length → Dz i_slices_IndexFunc_Field_Pick1 (some p_slices_IndexFunc_Field_Pick1_c1) [A.t (T.node l), A.t (T.int (l.length : Nat)), A.t (T.int j), A.t (T.str s)] (if findF (l.drop j) s j < 0 then (2, [A.t (T.str s)]) else (1, [A.t (T.int (findF (l.drop j) s j)), A.t (T.str s)])) := by
    intro k
    induction k with
    | zero =>
      intro j hj
      rw [List.drop_of_length_le (by omega)]
      refine Does.now fun m => ?_
      rw [q_slices_IndexFunc_Field_Pick1_c1]
      simp only [S0, S9, S1, S2, if_true, if_false]
      rw [if_neg (by omega)]
      rfl
    | succ k ih =>
      intro j hj
      have hlt : j < l.length := by omega
      have hw : IntKind.i64.wrap ((j : Int) + 1) = ((j + 1 : Nat) : Int) := i64succ (by omega)
      have hp : Dz i_fact_Pick_1 none [A.t l[j], A.t (T.str s)] (1, [A.t (T.bool (seqB (nm l[j]) s)), A.t (T.str s)]) := by
        refine Does.now fun m => ?_
        rw [q_fact_Pick_1]
        simp only [S0, S9, S1, S2, if_true, if_false, nm_eq]
      obtain ⟨n0, h0⟩ := hp.both (ih (j + 1) (by omega))
      rw [List.drop_eq_getElem_cons hlt, findF]
      refine Does.of n0 fun m hm => ?_
      obtain ⟨q1, q2⟩ := h0 m hm
      rw [q_slices_IndexFunc_Field_Pick1_c1]
      simp only [S0, S9, S1, Int.toNat_natCast, at_get hlt, q1, hw, q2]
      rw [if_pos (by omega), if_pos (by omega)]
      rw [seq_dec]
      by_cases hs : nm l[j] = s
      · simp only [hs, decide_true, if_true]
        rw [if_neg (by omega)]
      · simp [hs]
  obtain ⟨n0, h0⟩ := loop l.length 0 (by omega)
  rw [List.drop_zero] at h0
  refine Does.of n0 fun m hm => ?_
  have q : den Tryz.prog G0 ents m i_slices_IndexFunc_Field_Pick1 (some p_slices_IndexFunc_Field_Pick1_c1) [A.t (T.node l), A.t (T.int (l.length : Nat)), A.t (T.int 0), A.t (T.str s)] = _ := h0 m hm
  rw [q_slices_IndexFunc_Field_Pick1]
  simp only [S0, S9, S1, S2, if_true, if_false, q]
  by_cases hn : findF l s 0 < 0
  · have e : findF l s 0 = -1 := by have := (findF_le l s 0).1; omega
    rw [if_pos hn, e]
    rfl
  · rw [if_neg hn]
    rfl
theorem pick_loop (p : List T) (hp : p.length ≤ 20) (hps : ∀ s ∈ p, ∃ b, s = T.str b) : ∀ (k j d : Nat) (v : T), j + k = p.length → Okv d v → refV d v = true →
    (∃ d' v', Okv (d' + 1) v' ∧ refV (d' + 1) v' = true ∧ Dz i_fact_Pick (some p_fact_Pick_c1) [A.t (T.node p), A.t (T.int (p.length : Nat)), A.t (T.int j), A.t v, A.t noV] (2, [A.t v', A.t noV]) ∧ Dz i_R11_Pick (some p_R11_Pick_c1) [A.t (T.node p), A.t (T.int j), A.t v, A.t noV] (2, [A.t v', A.t noV])) ∨
    (∃ e : Int, Dz i_fact_Pick (some p_fact_Pick_c1) [A.t (T.node p), A.t (T.int (p.length : Nat)), A.t (T.int j), A.t v, A.t noV] (1, [A.t (T.int e), A.t noV]) ∧ Dz i_R11_Pick (some p_R11_Pick_c1) [A.t (T.node p), A.t (T.int j), A.t v, A.t noV] (1, [A.t (T.int e), A.t noV])) := by
  intro k
  induction k with
  | zero =>
    intro j d v hj hv hr
    cases d with
    | zero => exact hv.1.1.elim
    | succ d =>
      refine .inl ⟨d, v, hv, hr, Does.now fun m => ?_, Does.now fun m => ?_⟩
      · rw [q_fact_Pick_c1]
        simp only [S0, S9, S1, S2, if_true, if_false]
        rw [if_neg (by omega)]
      · rw [q_R11_Pick_c1]
        simp only [S0, S9, S1, S2, if_true, if_false]
        rw [if_neg (by omega)]
  | succ k ih =>
    intro j d v hj hv hr
    cases d with
    | zero => exact hv.1.1.elim
    | succ d =>
      obtain ⟨h, hs, hw40, hd⟩ := hv
      have hlt : j < p.length := by omega
      obtain ⟨b, hb⟩ := hps _ (List.getElem_mem hlt)
      have hw : IntKind.i64.wrap ((j : Int) + 1) = ((j + 1 : Nat) : Int) := i64succ (by omega)
      have h1 := poneD_does (d := d) (by omega) h
      rw [pone_rone h hs] at h1
      have h2 := roneD_does (d := d) (by omega) h
      have nv : ∀ x : List A, x = x := fun _ => rfl
      by_cases he : (roneD d v).2 = 0
      · obtain ⟨hr1, hlen, ho, h5⟩ := roneD_ok he
        rw [he, ho] at h1 h2
        by_cases h4 : kd (oneT v) = 4
        · have hm0 := one_mem hlen
          have ht := h.term hm0
          have hfl := ht.1
          have hx := findF_le (flds (oneT v)) b 0
          have i1 := fidx_does (flds (oneT v)) b (by omega)
          have i2 := rfind_does (flds (oneT v)) b (by omega)
          by_cases hneg : findF (flds (oneT v)) b 0 < 0
          · obtain ⟨n1, k1⟩ := h1.both i1
            obtain ⟨n2, k2⟩ := h2.both i2
            refine .inr ⟨29, Does.of n1 fun m hm => ?_, Does.of n2 fun m hm => ?_⟩
            · obtain ⟨q1, q2⟩ := k1 m hm
              rw [q_fact_Pick_c1]
              simp only [S0, S9, S1, S2, if_true, if_false, at_get hlt, hb, q1, kd_eq, h4, flds_eq, q2]
              rw [if_pos (by omega), if_pos (by omega), if_neg (not_not_intro trivial), if_neg (not_not_intro trivial), if_pos hneg]
              rfl
            · obtain ⟨q1, q2⟩ := k2 m hm
              rw [q_R11_Pick_c1]
              simp only [S0, S9, S1, S2, if_true, if_false, at_get hlt, hb, q1, kd_eq, h4, flds_eq, q2]
              rw [if_pos (by omega), if_neg (not_not_intro trivial), if_neg (not_not_intro trivial), if_pos (by omega), if_pos hneg]
              rfl
          · obtain ⟨i, hi⟩ : ∃ i : Nat, findF (flds (oneT v)) b 0 = (i : Int) := ⟨(findF (flds (oneT v)) b 0).toNat, by omega⟩
            rw [hi] at i1 i2 hx
            have hil : i < (flds (oneT v)).length := by omega
            have hf0 := List.getElem_mem hil
            obtain ⟨hok, hdp⟩ := refV_term hr hm0
            have hsub : Okv d (val (flds (oneT v))[i]) := ⟨h.sub hm0 hf0, fld_shape hs hm0 hf0, by have := fld_wt (d := d) hm0 hf0; omega, by omega⟩
            have hrs := refV_fld hok hdp _ hf0
            have stepP : ∀ R, Dz i_fact_Pick (some p_fact_Pick_c1) [A.t (T.node p), A.t (T.int (p.length : Nat)), A.t (T.int (j + 1 : Nat)), A.t (val (flds (oneT v))[i]), A.t noV] R → Dz i_fact_Pick (some p_fact_Pick_c1) [A.t (T.node p), A.t (T.int (p.length : Nat)), A.t (T.int j), A.t v, A.t noV] R := by
              intro R hR
              obtain ⟨n1, k1⟩ := h1.both i1
              obtain ⟨n2, k2⟩ := hR
              refine Does.of (n1 + n2) fun m hm => ?_
              obtain ⟨q1, q2⟩ := k1 m (by omega)
              have q3 := k2 m (by omega)
              rw [q_fact_Pick_c1]
              simp only [S0, S9, S1, S2, if_true, if_false, at_get hlt, hb, q1, kd_eq, h4, flds_eq, q2, at_get hil, val_eq, hw, q3]
              rw [if_pos (by omega), if_pos (by omega), if_neg (not_not_intro trivial), if_neg (not_not_intro trivial), if_neg (by omega), if_pos (by omega)]
            have stepR : ∀ R, Dz i_R11_Pick (some p_R11_Pick_c1) [A.t (T.node p), A.t (T.int (j + 1 : Nat)), A.t (val (flds (oneT v))[i]), A.t noV] R → Dz i_R11_Pick (some p_R11_Pick_c1) [A.t (T.node p), A.t (T.int j), A.t v, A.t noV] R := by
              intro R hR
              obtain ⟨n1, k1⟩ := h2.both i2
              obtain ⟨n2, k2⟩ := hR
              refine Does.of (n1 + n2) fun m hm => ?_
              obtain ⟨q1, q2⟩ := k1 m (by omega)
              have q3 := k2 m (by omega)
              rw [q_R11_Pick_c1]
              simp only [S0, S9, S1, S2, if_true, if_false, at_get hlt, hb, q1, kd_eq, h4, flds_eq, q2, at_get hil, val_eq, hw, q3]
              rw [if_pos (by omega), if_neg (not_not_intro trivial), if_neg (not_not_intro trivial), if_pos (by omega), if_neg (by omega), if_pos (by omega)]
            rcases ih (j + 1) d _ (by omega) hsub hrs with ⟨d', v', a1, a2, a3, a4⟩ | ⟨e, a3, a4⟩
            · exact .inl ⟨d', v', a1, a2, stepP _ a3, stepR _ a4⟩
            · exact .inr ⟨e, stepP _ a3, stepR _ a4⟩
        · obtain ⟨n1, k1⟩ := h1
          obtain ⟨n2, k2⟩ := h2
          refine .inr ⟨27, Does.of n1 fun m hm => ?_, Does.of n2 fun m hm => ?_⟩
          · rw [q_fact_Pick_c1]
            simp only [S0, S9, S1, S2, if_true, if_false, k1 m hm, kd_eq]
            rw [if_pos (by omega), if_pos (by omega), if_neg (not_not_intro trivial), if_pos h4]
            rfl
          · rw [q_R11_Pick_c1]
            simp only [S0, S9, S1, S2, if_true, if_false, k2 m hm, kd_eq]
            rw [if_pos (by omega), if_neg (not_not_intro trivial), if_pos h4]
            rfl
      · obtain ⟨n1, k1⟩ := h1
        obtain ⟨n2, k2⟩ := h2
        refine .inr ⟨(roneD d v).2, Does.of n1 fun m hm => ?_, Does.of n2 fun m hm => ?_⟩
        · rw [q_fact_Pick_c1]
          simp only [S0, S9, S1, S2, if_true, if_false, k1 m hm]
          rw [if_pos (by omega), if_pos (by omega), if_pos he]
          rfl
        · rw [q_R11_Pick_c1]
          simp only [S0, S9, S1, S2, if_true, if_false, k2 m hm]
          rw [if_pos (by omega), if_pos he]
          rfl
end Go.Proofs.YtoekafpmpopigaaGreatDoorFP
namespace Go.Proofs.YtoekafpmpopigaaGreatDoorFP
open Go Go.Proofs.YtoekafpmpopigaaGreatDoorVM
set_option linter.unusedVariables false
set_option linter.unusedSimpArgs false
set_option maxRecDepth 100000

theorem Okv_noV : Okv 1 noV := ⟨⟨fun t ht => (by cases ht), by decide⟩, ⟨[], rfl, fun t ht => (by cases ht)⟩, by decide, by omega⟩
theorem pick_both (p : List T) (hp : p.length ≤ 20) (hps : ∀ s ∈ p, ∃ b, s = T.str b) {v : T} (hv : Okv 20 v) :
    ∃ (d : Nat) (b : T) (e : Int), Okv (d + 1) b ∧ Dz i_fact_Pick none [A.t v, A.t (T.node p)] (1, [A.t b, A.t (T.int e)]) ∧ Dz i_R11_Pick none [A.t v, A.t (T.node p)] (1, [A.t b, A.t (T.int e)]) := by
  have hnv : T.node [T.node []] = noV := rfl
  obtain ⟨n0, h0⟩ := lright_does hv.1
  cases hr : refV 20 v with
  | false =>
    rw [hr] at h0
    refine ⟨0, noV, 1, Okv_noV, Does.of n0 fun m hm => ?_, ?_⟩
    · rw [q_fact_Pick]
      simp only [S0, S9, S1, S2, if_true, if_false, h0 m hm, Bool.not_false]
      rfl
    · by_cases hl : p.length = 0
      · have e1 : Dz i_R11_Pick (some p_R11_Pick_c1) [A.t (T.node p), A.t (T.int 0), A.t v, A.t noV] (2, [A.t v, A.t noV]) := by
          refine Does.now fun m => ?_
          rw [q_R11_Pick_c1]
          simp only [S0, S9, S1, S2, if_true, if_false]
          rw [if_neg (by omega)]
        have e2 := refRight_does hv.1
        rw [hr] at e2
        obtain ⟨n1, h1⟩ := e1.both e2
        refine Does.of n1 fun m hm => ?_
        obtain ⟨q1, q2⟩ := h1 m hm
        rw [q_R11_Pick]
        simp only [S0, S9, S1, S2, if_true, if_false, hnv, q1, q2, Bool.not_false]
      · have e1 : Dz i_R11_Pick (some p_R11_Pick_c1) [A.t (T.node p), A.t (T.int 0), A.t v, A.t noV] (1, [A.t (T.int 1), A.t noV]) := by
          have h2 := roneD_does (d := 19) (by omega) hv.1
          have ho : roneD 19 v = (noTrm, 1) := by unfold roneD; rw [if_neg (by rw [hr]; decide)]
          rw [ho] at h2
          obtain ⟨n1, h1⟩ := h2
          refine Does.of n1 fun m hm => ?_
          rw [q_R11_Pick_c1]
          simp only [S0, S9, S1, S2, if_true, if_false, h1 m hm]
          rw [if_pos (by omega), if_pos (by decide)]
          rfl
        obtain ⟨n1, h1⟩ := e1
        refine Does.of n1 fun m hm => ?_
        rw [q_R11_Pick]
        simp only [S0, S9, S1, S2, if_true, if_false, hnv, h1 m hm]
  | true =>
    rw [hr] at h0
    rcases pick_loop p hp hps p.length 0 20 v (by omega) hv hr with ⟨d', v', a1, a2, a3, a4⟩ | ⟨e, a3, a4⟩
    · have hlen : (terms v').length ≤ 49 := by
        have := a1.2.2.1
        rw [wt_fsum] at this
        omega
      have hof := ofA_does (d := d') (by have := a1.2.2.2; omega) a1.1 a2 hlen
      rw [copyV_id (d' + 1) v' a1.1.1 a1.2.1] at hof
      have hrr := rright_val (d' + 1) v' (by have := a1.2.2.2; omega) a1.1
      rw [a2] at hrr
      obtain ⟨n1, h1⟩ := a3.both hof
      obtain ⟨n2, h2⟩ := a4.both hrr
      refine ⟨d', v', 0, a1, Does.of (n0 + n1) fun m hm => ?_, Does.of n2 fun m hm => ?_⟩
      · obtain ⟨q1, q2⟩ := h1 m (by omega)
        have q1' : den Tryz.prog G0 ents m i_fact_Pick (some p_fact_Pick_c1) [A.t (T.node p), A.t (T.int (p.length : Nat)), A.t (T.int 0), A.t v, A.t noV] = _ := q1
        rw [q_fact_Pick]
        simp only [S0, S9, S1, S2, if_true, if_false, hnv, h0 m (by omega), Bool.not_true, q1', q2]
      · obtain ⟨q1, q2⟩ := h2 m (by omega)
        have q1' : den Tryz.prog G0 ents m i_R11_Pick (some p_R11_Pick_c1) [A.t (T.node p), A.t (T.int 0), A.t v, A.t noV] = _ := q1
        rw [q_R11_Pick]
        simp only [S0, S9, S1, S2, if_true, if_false, hnv, q1', q2, Bool.not_true]
    · obtain ⟨n1, h1⟩ := a3
      obtain ⟨n2, h2⟩ := a4
      refine ⟨0, noV, e, Okv_noV, Does.of (n0 + n1) fun m hm => ?_, Does.of n2 fun m hm => ?_⟩
      · have q1' : den Tryz.prog G0 ents m i_fact_Pick (some p_fact_Pick_c1) [A.t (T.node p), A.t (T.int (p.length : Nat)), A.t (T.int 0), A.t v, A.t noV] = _ := h1 m (by omega)
        rw [q_fact_Pick]
        simp only [S0, S9, S1, S2, if_true, if_false, hnv, h0 m (by omega), Bool.not_true, q1']
      · have q1' : den Tryz.prog G0 ents m i_R11_Pick (some p_R11_Pick_c1) [A.t (T.node p), A.t (T.int 0), A.t v, A.t noV] = _ := h2 m (by omega)
        rw [q_R11_Pick]
        simp only [S0, S9, S1, S2, if_true, if_false, hnv, q1']
def plainD (d : Nat) (b : T) (k : Int) : T × Bool × Int :=
  if (roneD d b).2 ≠ 0 then (noTrm, false, (roneD d b).2) else if kd (roneD d b).1 ≠ k then (noTrm, false, 27) else if mb (roneD d b).1 then (noTrm, true, 0) else if one (roneD d b).1 then ((roneD d b).1, false, 0) else (noTrm, false, 28)
theorem rplain_does {d : Nat} {b : T} (h : Okv (d + 1) b) (k : Int) : Dz i_R11_Plain none [A.t b, A.t (T.int k)] (1, [A.t (plainD d b k).1, A.t (T.bool (plainD d b k).2.1), A.t (T.int (plainD d b k).2.2)]) := by
  obtain ⟨n1, h1⟩ := (roneD_does (d := d) (by have := h.2.2.2; omega) h.1).both (single_does (roneD d b).1)
  refine Does.of n1 fun m hm => ?_
  obtain ⟨q1, q2⟩ := h1 m hm
  rw [q_R11_Plain]
  unfold plainD
  simp only [S0, S9, S1, S2, if_true, if_false, q1, q2, kd_eq, mb_eq, noTrm_eq]
  by_cases c1 : (roneD d b).2 = 0
  · rw [if_neg (not_not_intro c1), if_neg (not_not_intro c1)]
    by_cases c2 : kd (roneD d b).1 = k
    · rw [if_neg (not_not_intro c2), if_neg (not_not_intro c2)]
      cases mb (roneD d b).1 <;> cases one (roneD d b).1 <;> simp
    · rw [if_pos c2, if_pos c2]
  · rw [if_pos c1, if_pos c1]
theorem fplain_does {d : Nat} {b : T} (h : Okv (d + 1) b) (k : Int) (hk : k = 2 ∨ k = 3) : Dz i_fact_plain none [A.t b, A.t (T.int k)] (1, [A.t (plainD d b k).1, A.t (T.bool (plainD d b k).2.1), A.t (T.int (plainD d b k).2.2)]) := by
  have h0 := poneD_does (d := d) (by have := h.2.2.2; omega) h.1
  rw [pone_rone h.1 h.2.1] at h0
  obtain ⟨n1, h1⟩ := h0.both (atom_does (roneD d b).1)
  refine Does.of n1 fun m hm => ?_
  obtain ⟨q1, q2⟩ := h1 m hm
  rw [q_fact_plain]
  unfold plainD
  simp only [S0, S9, S1, S2, if_true, if_false, q1, q2, kd_eq, mb_eq, noTrm_eq]
  by_cases c1 : (roneD d b).2 = 0
  · rw [if_neg (not_not_intro c1), if_neg (not_not_intro c1)]
    by_cases c2 : kd (roneD d b).1 = k
    · rw [if_neg (not_not_intro c2), if_neg (not_not_intro c2)]
      have hat : atomS (roneD d b).1 = one (roneD d b).1 := by
        obtain ⟨hr1, hlen, ho, h5⟩ := roneD_ok c1
        rw [ho] at c2 ⊢
        have hok := (refV_term hr1 (one_mem hlen)).1
        have := (okT_parts hok).2 (by omega) (by omega)
        unfold atomS
        rw [this, Bool.true_and]
      rw [hat]
      cases mb (roneD d b).1 <;> cases one (roneD d b).1 <;> simp
    · rw [if_pos c2, if_pos c2]
  · rw [if_pos c1, if_pos c1]
theorem strs_of {p : T} (h : TOk Tryz.prog 25 p) : ∀ s ∈ p.kids, ∃ b, s = T.str b := by
  obtain ⟨l, rfl, _, hl⟩ := TOk.row_of Tryz.underlying25 h
  intro s hs
  obtain ⟨b, hb, _⟩ := TOk.str_of Tryz.underlying9 (hl s hs)
  exact ⟨b, hb⟩
theorem law_does (v p : T) (hv : TOk Tryz.prog 24 v) (hps : ∀ s ∈ p.kids, ∃ b, s = T.str b) : Dz i_L11_FactPicks none [A.t v, A.t p] (1, [A.t (T.bool true)]) := by
  obtain ⟨n1, h1⟩ := (few_does v).both awake_does
  cases hf : few v with
  | false =>
    rw [hf] at h1
    refine Does.of n1 fun m hm => ?_
    obtain ⟨q1, q2⟩ := h1 m hm
    rw [q_L11_FactPicks]
    simp only [S0, S9, S1, S2, if_true, if_false, q1, q2, Bool.not_false, Bool.true_eq_false]
  | true =>
  rw [hf] at h1
  by_cases hl : p.kids.length > 20
  · refine Does.of n1 fun m hm => ?_
    obtain ⟨q1, q2⟩ := h1 m hm
    rw [q_L11_FactPicks]
    simp only [S0, S9, S1, S2, if_true, if_false, q1, q2, Bool.not_true]
    rw [if_pos (by omega)]
  · have hs := few_sm hf
    have hwt : wt 20 v ≤ 40 := by
      unfold few at hf
      rw [Bool.and_eq_true, decide_eq_true_eq, decide_eq_true_eq] at hf
      exact hf.2
    obtain ⟨d, b, e, hb, hp1, hp2⟩ := pick_both p.kids (by omega) hps (v := v) ⟨hs, shp_of 20 v hv, hwt, by omega⟩
    have hsame : Dz i_R08_Same none [A.t b, A.t b] (1, [A.t (T.bool true)]) := by
      obtain ⟨n0, h0⟩ := rcompare_does (d + 1) b b hb.1 hb.1
      rw [cmpV_self] at h0
      refine Does.of n0 fun m hm => ?_
      rw [q_R08_Same]
      simp only [S0, S9, S1, S2, if_true, if_false, h0 m hm]
      rfl
    have hnum : Dz i_fact_Number none [A.t b] (1, [A.t (T.int (lo (plainD d b 2).1)), A.t (T.bool (plainD d b 2).2.1), A.t (T.int (plainD d b 2).2.2)]) := by
      obtain ⟨n0, h0⟩ := fplain_does hb 2 (.inl rfl)
      refine Does.of n0 fun m hm => ?_
      rw [q_fact_Number]
      simp only [S0, S9, S1, S2, if_true, if_false, h0 m hm, lo_eq]
    have htxt : Dz i_fact_Text none [A.t b] (1, [A.t (T.str (tx (plainD d b 3).1)), A.t (T.bool (plainD d b 3).2.1), A.t (T.int (plainD d b 3).2.2)]) := by
      obtain ⟨n0, h0⟩ := fplain_does hb 3 (.inr rfl)
      refine Does.of n0 fun m hm => ?_
      rw [q_fact_Text]
      simp only [S0, S9, S1, S2, if_true, if_false, h0 m hm, tx_eq]
    obtain ⟨n2, h2⟩ := hp1.both hp2
    obtain ⟨n3, h3⟩ := hnum.both (rplain_does hb 2)
    obtain ⟨n4, h4⟩ := htxt.both (rplain_does hb 3)
    obtain ⟨n5, h5⟩ := hsame
    refine Does.of (n1 + n2 + n3 + n4 + n5) fun m hm => ?_
    obtain ⟨q1, q2⟩ := h1 m (by omega)
    obtain ⟨q3, q4⟩ := h2 m (by omega)
    obtain ⟨q5, q6⟩ := h3 m (by omega)
    obtain ⟨q7, q8⟩ := h4 m (by omega)
    have q9 := h5 m (by omega)
    have hbb : ∀ o : Bool, (o == o) = true := fun o => by cases o <;> rfl
    rw [q_L11_FactPicks]
    simp only [S0, S9, S1, S2, if_true, if_false, q1, q2, q3, q4, q5, q6, q7, q8, q9, Bool.not_true, lo_eq, tx_eq, seq_dec, beq_self_eq_true, hbb, decide_true]
    rw [if_neg (by omega)]
    simp
end Go.Proofs.YtoekafpmpopigaaGreatDoorFP
