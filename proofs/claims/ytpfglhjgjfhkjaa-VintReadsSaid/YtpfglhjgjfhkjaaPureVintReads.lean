/- A reader tells of any bytes what the document's reader tells, call by call. No condition. -/
import Derived.Test.YtpfglhjgjfhkjaaXP7
import Derived.Test.YtpfglhjgjfhkjaaQvint
import Derived.Test.YtpfglhjgjfhkjaaQvput
namespace Go.Proofs.Ytpfglhjgjfhkjaa.Pure
set_option linter.unusedVariables false
open Go.RowKit Go.Proofs.Ytpfglhjgjfhkjaa.XP Go.Proofs.YtpfglhjgjfhkjaaW.PrintWords Go.Proofs.YtpfglhjgjfhkjaaW.PrintLast Go.Proofs.Ytpfglhjgjfhkjaa.Mget Go.Proofs.Ytpfglhjgjfhkjaa.Mvint Go.Proofs.Ytpfglhjgjfhkjaa.Qcrc Go.Proofs.Ytpfglhjgjfhkjaa.Qvint Go.Proofs.Ytpfglhjgjfhkjaa.Qvput

theorem drop_ext (s : ByteArray) (f : Nat) : (s.extract f s.size).data.toList = s.data.toList.drop f := by
  simp only [ByteArray.data_extract, Array.toList_extract, List.extract_eq_take_drop]
  rw [List.take_of_length_le]
  simp
/-- both readers' Get: the number, the place, the error -/
theorem gets (s : ByteArray) (hs : s.size ≤ 400) (a e : Int) (h0 : 0 ≤ a) (h1 : a ≤ (s.size : Int)) (k : Nat) (hk : 40 ≤ k) :
    ∃ n a' e', treillageref03_Get.f s a e = some (s, a', e', n) ∧ vint_Reader_Get.f k s a e = some (n, s, a', e') ∧ 0 ≤ a' ∧ a' ≤ (s.size : Int) ∧ 0 ≤ n ∧ n < 18446744073709551616 ∧ (e ≠ 0 → e' ≠ 0) := by
  by_cases he : e = 0
  · subst he
    obtain ⟨f, rfl⟩ : ∃ f : Nat, a = (f : Int) := ⟨a.toNat, by omega⟩
    have hg := get_some s (by omega) f (by omega) k hk
    have hr : treillageref03_Get.f s (f : Int) 0 = some (s, (if (scanE (s.data.toList.drop f)).1 = 0 then ((f + (scanE (s.data.toList.drop f)).2.1 : Nat) : Int) else f), (scanE (s.data.toList.drop f)).1, (scanE (s.data.toList.drop f)).2.2) := by
      unfold treillageref03_Get.f
      rw [if_neg (by simp), if_pos ⟨h0, h1, by omega⟩, Int.toNat_natCast, drop_ext, Int.natCast_add]
    have hok := scan_ok (s.data.toList.drop f)
    have hz : (s.data.toList.drop f).length = s.size - f := by simp
    refine ⟨_, _, _, hr, hg, ?_, ?_, ?_, ?_, fun h => absurd rfl h⟩
    · split <;> omega
    · split
      · rename_i h; have := (hok h).1; omega
      · omega
    · by_cases h : (scanE (s.data.toList.drop f)).1 = 0
      · exact (hok h).2.2.2.1
      · have : (scanE (s.data.toList.drop f)).2.2 = 0 := by
          unfold scanE at h ⊢
          repeat (split; rfl)
          rename_i g1 g2 g3 g4
          rw [if_neg g1, if_neg g2, if_neg g3, if_neg g4] at h
          exact absurd rfl h
        omega
    · by_cases h : (scanE (s.data.toList.drop f)).1 = 0
      · exact (hok h).2.2.2.2
      · have : (scanE (s.data.toList.drop f)).2.2 = 0 := by
          unfold scanE at h ⊢
          repeat (split; rfl)
          rename_i g1 g2 g3 g4
          rw [if_neg g1, if_neg g2, if_neg g3, if_neg g4] at h
          exact absurd rfl h
        omega
  · refine ⟨0, a, e, ?_, ?_, h0, h1, by omega, by omega, fun h => h⟩
    · unfold treillageref03_Get.f; rw [if_pos he]
    · unfold vint_Reader_Get.f; rw [if_neg he]
theorem mosts (s : ByteArray) (hs : s.size ≤ 400) (a e b : Int) (h0 : 0 ≤ a) (h1 : a ≤ (s.size : Int)) (k : Nat) (hk : 40 ≤ k) :
    ∃ n a' e', treillageref03_Most.f s a e b = some (s, a', e', n) ∧ vint_Reader_Most.f k s a e b = some (n, s, a', e') ∧ 0 ≤ a' ∧ a' ≤ (s.size : Int) := by
  obtain ⟨n, a', e', hr, hv, r0, r1, _, _, _⟩ := gets s hs a e h0 h1 k hk
  unfold treillageref03_Most.f vint_Reader_Most.f
  rw [hr, hv, Option.bind_some, Option.bind_some]
  dsimp only
  by_cases he : e' = 0
  · rw [if_pos he]
    by_cases hn : n > b
    · rw [if_pos hn, if_pos ⟨he, hn⟩]
      exact ⟨0, a, 9, rfl, rfl, h0, h1⟩
    · rw [if_neg hn, if_neg (fun h => hn h.2)]
      exact ⟨n, a', e', rfl, rfl, r0, r1⟩
  · rw [if_neg he, if_neg (fun h => he h.1)]
    exact ⟨n, a', e', rfl, rfl, r0, r1⟩
theorem getints (s : ByteArray) (hs : s.size ≤ 400) (a e : Int) (h0 : 0 ≤ a) (h1 : a ≤ (s.size : Int)) (k : Nat) (hk : 40 ≤ k) :
    ∃ n a' e', treillageref03_GetInt.f s a e = some (s, a', e', n) ∧ vint_Reader_GetInt.f k s a e = some (n, s, a', e') ∧ 0 ≤ a' ∧ a' ≤ (s.size : Int) := by
  obtain ⟨n, a', e', hr, hv, r0, r1, _, _, _⟩ := gets s hs a e h0 h1 k hk
  unfold treillageref03_GetInt.f vint_Reader_GetInt.f
  rw [hr, hv, Option.bind_some, Option.bind_some]
  dsimp only
  by_cases he : Int.tmod n 2 = 1
  · rw [if_pos he, if_pos he]
    exact ⟨_, a', e', rfl, rfl, r0, r1⟩
  · rw [if_neg he, if_neg he]
    exact ⟨_, a', e', rfl, rfl, r0, r1⟩
theorem gettexts (s : ByteArray) (hs : s.size ≤ 400) (a e b : Int) (hb : b ≤ 9223372036854775807) (h0 : 0 ≤ a) (h1 : a ≤ (s.size : Int)) (k : Nat) (hk : 40 ≤ k) :
    ∃ v a' e', treillageref03_GetText.f (k + 1) s a e b = some (s, a', e', v) ∧ vint_Reader_GetText.f (k + 1) s a e b = some (v, s, a', e') ∧ 0 ≤ a' ∧ a' ≤ (s.size : Int) := by
  obtain ⟨n, a', e', hr, hv, r0, r1, r2, r3, _⟩ := gets s hs a e h0 h1 (k + 1) (by omega)
  obtain ⟨c, hc⟩ : ∃ c, c = if b < 0 then 0 else b := ⟨_, rfl⟩
  have hc0 : 0 ≤ c ∧ c ≤ 9223372036854775807 := by rw [hc]; split <;> omega
  have hj : treillageref03_GetText.f (k + 1) s a e b = treillageref03_GetText.j0 (k + 1) c s a e := by
    unfold treillageref03_GetText.f
    rw [hc]
    by_cases h : b < 0
    · rw [if_pos h, if_pos h]
    · rw [if_neg h, if_neg h]
  rw [hj, treillageref03_GetText.j0, u64i c (by omega)]
  unfold vint_Reader_GetText.f treillageref03_Most.f
  rw [if_pos hb, hr, hv, Option.bind_some, Option.bind_some, ← hc]
  dsimp only
  by_cases he : e' = 0
  · subst he
    rw [if_pos rfl, if_pos rfl]
    by_cases hn : n > c
    · rw [if_pos hn, if_pos hn]
      exact ⟨⟨#[]⟩, a, 9, rfl, rfl, h0, h1⟩
    · rw [if_neg hn, if_neg hn, Option.bind_some]
      dsimp only
      rw [if_pos rfl, w64i ((s.size : Int) - a') (by omega), u64i ((s.size : Int) - a') (by omega), if_pos (show 0 ≤ a' ∧ a' ≤ (s.size : Int) ∧ s.size ≤ 140737488355328 ∧ 0 ≤ n ∧ n < 18446744073709551616 from ⟨r0, r1, by omega, r2, r3⟩)]
      by_cases hl : n > (s.size : Int) - a'
      · rw [if_pos hl, if_pos hl]
        exact ⟨⟨#[]⟩, a, 3, rfl, rfl, h0, h1⟩
      · rw [if_neg hl, if_neg hl, w64i n (by omega), w64i (a' + n) (by omega), if_pos r0, if_pos (by omega), if_pos (by omega)]
        exact ⟨_, a' + n, 0, rfl, rfl, by omega, by omega⟩
  · rw [if_neg he, if_neg he, Option.bind_some]
    dsimp only
    rw [if_neg he]
    exact ⟨⟨#[]⟩, a', e', rfl, rfl, r0, r1⟩
theorem ends (s : ByteArray) (hs : s.size ≤ 400) (a e : Int) (h0 : 0 ≤ a) (h1 : a ≤ (s.size : Int)) :
    ∃ v, treillageref03_End.f s a e = some v ∧ vint_Reader_End.f s a e = some (v, s, a, e) := by
  unfold treillageref03_End.f vint_Reader_End.f vint_Reader_Err.f vint_Reader_Left.f
  simp only [Option.bind_some]
  by_cases he : e = 0
  · subst he
    rw [if_pos rfl, if_pos rfl, w64i _ (by omega)]
    by_cases h : a < (s.size : Int)
    · rw [if_pos h, if_pos (by omega)]; exact ⟨_, rfl, rfl⟩
    · rw [if_neg h, if_neg (by omega)]; exact ⟨_, rfl, rfl⟩
  · rw [if_neg he, if_neg he]; exact ⟨_, rfl, rfl⟩

theorem reads_end (s : ByteArray) (l : List S54) (k : Nat) (i a e : Int) (hi : ¬ i < (l.length : Int)) : treillagelaw03_VintReads.l0 (k + 1) s l i s a e s a e = some true := by
  rw [treillagelaw03_VintReads.l0, if_neg hi, awake3]
  simp [vint_Reader_Get_nil.f, vint_Reader_Most_nil.f, vint_Reader_GetInt_nil.f, vint_Reader_GetText_nil.f, vint_Reader_Left_nil.f, vint_Reader_Err_nil.f, vint_Reader_End_nil.f, ByteArray.toList_eq]
theorem reads_l0 (s : ByteArray) (hs : s.size ≤ 400) (l : List S54) (hl : l.length ≤ 60) (hw : ∀ x ∈ l, x.f1 ≤ 9223372036854775807) :
    ∀ d i k a e, i + d = l.length → 2 * d + 100 ≤ k → 0 ≤ a → a ≤ (s.size : Int) → treillagelaw03_VintReads.l0 k s l (i : Int) s a e s a e = some true
  | 0, i, k, a, e, h, hk, _, _ => by
    obtain ⟨k, rfl⟩ : ∃ m, k = m + 1 := ⟨k - 1, by omega⟩
    exact reads_end s l k i a e (by omega)
  | d + 1, i, k, a, e, h, hk, h0, h1 => by
    obtain ⟨k, rfl⟩ : ∃ m, k = m + 1 + 1 := ⟨k - 2, by omega⟩
    have hj : ∀ a' e', 0 ≤ a' → a' ≤ (s.size : Int) → treillagelaw03_VintReads.j2 (k + 1) s l (i : Int) true s a' e' s a' e' = some true := by
      intro a' e' r0 r1
      obtain ⟨v, e1, e2⟩ := ends s hs a' e' r0 r1
      rw [treillagelaw03_VintReads.j2, if_pos rfl, show vint_Reader_Err.f s a' e' = some (e', s, a', e') from rfl, Option.bind_some]
      dsimp only
      rw [if_pos rfl, show vint_Reader_Left.f s a' e' = some (wrap64 ((s.size : Int) - a'), s, a', e') from rfl, Option.bind_some]
      dsimp only
      rw [if_pos rfl, e2, Option.bind_some, e1, Option.bind_some]
      dsimp only
      rw [if_pos rfl, wr ((i : Int) + 1) (i + 1) (by omega) (by omega)]
      exact reads_l0 s hs l hl hw d (i + 1) k a' e' (by omega) (by omega) r0 r1
    have hx : rd_T54 l (i : Int) = l[i] := by
      unfold rd_T54
      rw [Int.toNat_natCast, List.getD_eq_getElem?_getD, List.getElem?_eq_getElem (by omega)]; rfl
    rw [treillagelaw03_VintReads.l0, if_pos (by omega), if_pos (by omega), hx]
    obtain ⟨n1, a1, e1, p1, q1, u1, v1, _⟩ := gets s hs a e h0 h1 (k + 1) (by omega)
    obtain ⟨n2, a2, e2, p2, q2, u2, v2⟩ := mosts s hs a e (IntKind.u64.wrap l[i].f1) h0 h1 (k + 1) (by omega)
    obtain ⟨n3, a3, e3, p3, q3, u3, v3⟩ := getints s hs a e h0 h1 (k + 1) (by omega)
    obtain ⟨n4, a4, e4, p4, q4, u4, v4⟩ := gettexts s hs a e l[i].f1 (hw _ (List.getElem_mem _)) h0 h1 k (by omega)
    by_cases c0 : Go.bits .and .u8 l[i].f0 3 = 0
    · rw [if_pos c0, p1, Option.bind_some, q1, Option.bind_some]
      dsimp only
      rw [beq_self_eq_true]
      exact hj a1 e1 u1 v1
    rw [if_neg c0]
    by_cases c1 : Go.bits .and .u8 l[i].f0 3 = 1
    · rw [if_pos c1, p2, Option.bind_some, q2, Option.bind_some]
      dsimp only
      rw [beq_self_eq_true]
      exact hj a2 e2 u2 v2
    rw [if_neg c1]
    by_cases c2 : Go.bits .and .u8 l[i].f0 3 = 2
    · rw [if_pos c2, p3, Option.bind_some, q3, Option.bind_some]
      dsimp only
      rw [beq_self_eq_true]
      exact hj a3 e3 u3 v3
    rw [if_neg c2, p4, Option.bind_some, q4, Option.bind_some]
    dsimp only
    rw [beq_self_eq_true]
    exact hj a4 e4 u4 v4

theorem VintReads (s : ByteArray) (l : List S54) (hs : s.size ≤ 140737488351232) (hm : l.length ≤ maxLen) (hw : ∀ x ∈ l, (Lit.int .u8 x.f0).wf = true ∧ (Lit.int .i64 x.f1).wf = true) :
    ∃ k, treillagelaw03_VintReads.f k s l = some true := by
  refine ⟨1000 + 1, ?_⟩
  have htrue : treillagelaw03_VintReads.j0 (1000 + 1) s l true = some true := by
    rw [treillagelaw03_VintReads.j0, if_pos rfl, awake3]; rfl
  have hfalse : s.size ≤ 400 → l.length ≤ 60 → treillagelaw03_VintReads.j0 (1000 + 1) s l false = some true := by
    intro h1 h2
    rw [treillagelaw03_VintReads.j0, if_neg (by simp), show vint_New.f s = some (s, 0, 0) from rfl, Option.bind_some]
    refine reads_l0 s h1 l h2 (fun x hx => ?_) l.length 0 1000 0 0 (by omega) (by omega) (by omega) (by omega)
    have h : IntKind.i64.min ≤ x.f1 ∧ x.f1 ≤ IntKind.i64.max := by simpa [Lit.wf] using (hw x hx).2
    have e2 : IntKind.i64.max = 9223372036854775807 := rfl
    omega
  unfold treillagelaw03_VintReads.f
  by_cases h1 : (s.size : Int) > 400
  · rw [if_pos h1]; exact htrue
  rw [if_neg h1]
  by_cases h2 : (l.length : Int) > 60
  · rw [decide_eq_true h2]; exact htrue
  · rw [decide_eq_false h2]; exact hfalse (by omega) (by omega)

end Go.Proofs.Ytpfglhjgjfhkjaa.Pure
