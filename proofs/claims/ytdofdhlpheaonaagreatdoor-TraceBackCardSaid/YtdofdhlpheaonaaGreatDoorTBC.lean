/- A law's proof, a part: what the code answers. -/
import Derived.Test.YtdofdhlpheaonaaGreatDoorTBB
namespace Go.Proofs.YtdofdhlpheaonaaGreatDoorTB
open Go Go.Proofs.YtdofdhlpheaonaaGreatDoorVM
set_option linter.unusedVariables false
set_option linter.unusedSimpArgs false
set_option maxRecDepth 100000

def ShpD (d : T) : Prop := ∃ (s : ByteArray) (e : Int) (v : T), d = .node [.str s, .node [.int e, v]] ∧ ShpI 20 v
theorem shpD_of {d : T} (h : TOk Tryz.prog 36 d) : ShpD d := by
  obtain ⟨xs, rfl, hx⟩ := TOk.struct_of (fs := [(9, 1), (34, 2)]) (by kernel_rfl) h
  match xs, hx with
  | [a, b], ⟨h1, h2, _⟩ =>
    obtain ⟨s, rfl, _⟩ := TOk.str_of Tryz.underlying9 h1
    obtain ⟨ys, rfl, hy⟩ := TOk.struct_of (fs := [(25, 1), (32, 1)]) (by kernel_rfl) h2
    match ys, hy with
    | [e, v], ⟨h3, h4, _⟩ =>
      obtain ⟨n, rfl, _⟩ := TOk.int_of Tryz.underlying25 h3
      exact ⟨s, n, v, rfl, shpI_of 20 v h4⟩
theorem deps_of {x : T} (h : TOk Tryz.prog 22 x) : ∀ t ∈ x.kids, TOk Tryz.prog 36 t := by
  obtain ⟨l, rfl, _, hl⟩ := TOk.row_of Tryz.underlying22 h
  exact hl
def OkDep (d : T) : Prop := ShpD d ∧ (nm d).size ≤ 16 ∧ Sm 20 (rv (val d)) ∧ (encV 20 (rv (val d))).length ≤ 900000 ∧ goodR (val d) = true
theorem noV_of {v : T} (h : ShpI 20 v) (h0 : (terms v).length = 0) : v = noV := by
  obtain ⟨l, rfl, _⟩ := h
  have e : l = [] := List.length_eq_zero_iff.1 h0
  rw [e]
  rfl
theorem res_cases {d : T} (h : OkDep d) : (re (val d) = 0 ∧ refV 20 (rv (val d)) = true ∧ resB (val d) = numB 0 ++ textB (sb (encV 20 (rv (val d)))) ∧ val d = .node [.int 0, rv (val d)]) ∨
    ∃ n : Nat, n ≠ 0 ∧ n ≤ 63 ∧ resB (val d) = numB n ∧ val d = .node [.int (n : Nat), noV] := by
  obtain ⟨⟨s, e, v, rfl, hp⟩, h1, h2, h3, h4⟩ := h
  have ev : val (T.node [.str s, .node [.int e, v]]) = .node [.int e, v] := rfl
  rw [ev] at h4 ⊢
  have hre : re (T.node [.int e, v]) = e := rfl
  have hrv : rv (T.node [.int e, v]) = v := rfl
  unfold goodR at h4
  rw [hre, hrv] at h4
  by_cases h0 : e = 0
  · left
    rw [if_pos h0] at h4
    subst h0
    refine ⟨rfl, h4, ?_, rfl⟩
    unfold resB
    rw [hre, if_pos rfl, hrv]
    rfl
  · right
    rw [if_neg h0] at h4
    simp only [Bool.and_eq_true, decide_eq_true_eq] at h4
    refine ⟨e.toNat, by omega, by omega, ?_, ?_⟩
    · unfold resB
      rw [hre, if_neg h0, List.append_nil]
    · rw [noV_of hp h4.2.2, Int.toNat_of_nonneg (by omega)]
theorem res_read {d : T} (h : OkDep d) : readR (sb (resB (val d))) = (val d, 0) ∧ RdOk (sb (resB (val d))) ∧ (sb (resB (val d))).size ≤ 1048576 := by
  have hlen := resB_len h.2.2.2.1
  have hs := h.2.2.1
  have hp : ShpI 20 (rv (val d)) := by
    obtain ⟨⟨s, e, v, rfl, hp⟩, _⟩ := h
    exact hp
  rcases res_cases h with ⟨h0, hr, hb, hv⟩ | ⟨n, hn0, hn, hb, hv⟩
  · have hd := dec_own hs hp hr
    have hm : rdMost 63 (numB 0 ++ textB (sb (encV 20 (rv (val d))))) = some (0, textB (sb (encV 20 (rv (val d))))) := rdMost_num _ (by omega) (by omega)
    have ht : rdText 1048576 (textB (sb (encV 20 (rv (val d))))) = some (sb (encV 20 (rv (val d))), []) := by
      have := rdText_text (b := 1048576) (s := sb (encV 20 (rv (val d)))) [] (by rw [sb_size]; have := h.2.2.2.1; omega) (by rw [sb_size]; have := h.2.2.2.1; omega)
      rw [List.append_nil] at this
      exact this
    refine ⟨?_, ?_, by rw [sb_size]; omega⟩
    · rw [hb]
      unfold readR
      rw [sb_list, hm]
      dsimp only
      rw [if_pos rfl, ht]
      dsimp only
      rw [hd, if_pos ⟨rfl, rfl⟩]
      exact congrArg (fun x => (x, (0 : Int))) hv.symm
    · intro r e1 t y e2 w hw
      rw [hb, sb_list, hm] at e1
      have er : textB (sb (encV 20 (rv (val d)))) = r := (Prod.mk.inj (Option.some.inj e1)).2
      rw [← er, ht] at e2
      have et : sb (encV 20 (rv (val d))) = t := (Prod.mk.inj (Option.some.inj e2)).1
      rw [← et, sb_list] at hw
      have h5 := read_own hs hp hr []
      rw [List.append_nil, hw] at h5
      have h6 : w = rv (val d) := (Prod.mk.inj (Option.some.inj h5)).1
      rw [h6]
      exact hs
  · have hm : rdMost 63 (numB n) = some (n, []) := by
      have := rdMost_num (b := 63) [] (show n < 18446744073709551616 by omega) hn
      rw [List.append_nil] at this
      exact this
    refine ⟨?_, ?_, by rw [sb_size]; omega⟩
    · rw [hb]
      unfold readR
      rw [sb_list, hm]
      dsimp only
      rw [if_neg hn0, if_pos (show ([] : List UInt8).length = 0 from rfl)]
      exact congrArg (fun x => (x, (0 : Int))) hv.symm
    · intro r e1
      rw [hb, sb_list, hm] at e1
      exact absurd (Prod.mk.inj (Option.some.inj e1)).1 hn0
theorem dep_shape {d : T} (h : OkDep d) : d = .node [.str (nm d), val d] := by
  obtain ⟨⟨s, e, v, rfl, _⟩, _⟩ := h
  rfl
theorem rdDeps_comp : ∀ (l : List T) (r : List UInt8), (∀ d ∈ l, OkDep d) → rdDeps l.length (l.flatMap depB ++ r) = some (l, r) ∧ Txt l.length (l.flatMap depB ++ r)
  | [], r, _ => ⟨rfl, trivial⟩
  | d :: l, r, h => by
    have hd := h d List.mem_cons_self
    obtain ⟨q1, q2, q3⟩ := res_read hd
    obtain ⟨i1, i2⟩ := rdDeps_comp l r fun x hx => h x (List.mem_cons_of_mem _ hx)
    have e1 : rdText 16 (depB d ++ (l.flatMap depB ++ r)) = some (nm d, textB (sb (resB (val d))) ++ (l.flatMap depB ++ r)) := by
      rw [depB, List.append_assoc]
      exact rdText_text _ (by have := hd.2.1; omega) hd.2.1
    have e2 : rdText 1048576 (textB (sb (resB (val d))) ++ (l.flatMap depB ++ r)) = some (sb (resB (val d)), l.flatMap depB ++ r) := rdText_text _ (by omega) q3
    rw [List.length_cons, List.flatMap_cons, List.append_assoc]
    refine ⟨?_, ?_⟩
    · rw [rdDeps, e1, Option.bind_some]
      dsimp only
      rw [e2, Option.bind_some]
      dsimp only
      rw [q1, if_pos rfl, i1]
      show some (T.node [T.str (nm d), val d] :: l, r) = _
      rw [← dep_shape hd]
    · intro a x h1 t y h2
      rw [e1] at h1
      have hx := (Prod.mk.inj (Option.some.inj h1)).2
      rw [← hx, e2] at h2
      obtain ⟨ht, hy⟩ := Prod.mk.inj (Option.some.inj h2)
      rw [← ht, ← hy]
      exact ⟨q2, fun _ => i2⟩
theorem rdDeps_ext : ∀ (m : Nat) (l : List UInt8) (us : List T) (r x : List UInt8), rdDeps m l = some (us, r) → rdDeps m (l ++ x) = some (us, r ++ x)
  | 0, l, us, r, x, h => by cases h; rfl
  | m + 1, l, us, r, x, h => by
    rw [rdDeps] at h ⊢
    obtain ⟨⟨s, y⟩, h1, h⟩ := bind_some h
    obtain ⟨⟨t, z⟩, h2, h⟩ := bind_some h
    rw [rdText_ext h1, Option.bind_some]
    dsimp only at h h2 ⊢
    rw [rdText_ext h2, Option.bind_some]
    dsimp only
    by_cases hc : (readR t).2 = 0
    · rw [if_pos hc] at h ⊢
      obtain ⟨⟨vs, w⟩, h3, h⟩ := map_some h
      simp only [Prod.mk.injEq] at h
      obtain ⟨rfl, rfl⟩ := h
      rw [rdDeps_ext m _ _ _ x h3]
      rfl
    · rw [if_neg hc] at h; cases h
theorem Txt.front : ∀ (m : Nat) {l x : List UInt8}, Txt m (l ++ x) → Txt m l
  | 0, _, _, _ => trivial
  | m + 1, l, x, h => fun a y h1 t z h2 => by
    obtain ⟨k1, k2⟩ := h a (y ++ x) (rdText_ext h1 x) t (z ++ x) (rdText_ext h2 x)
    exact ⟨k1, fun hc => Txt.front m (k2 hc)⟩
theorem rdMost_ofD (l : List T) (hl : l.length ≤ 20) : rdMost 256 (ofD l) = some (l.length, l.flatMap depB) := rdMost_num _ (by omega) (by omega)
theorem decD_own {l : List T} (hl : l.length ≤ 20) (h : ∀ d ∈ l, OkDep d) (hr : rightD l = true) : decD (sb (ofD l)) = (l, 0) := by
  have h1 := (rdDeps_comp l [] h).1
  rw [List.append_nil] at h1
  unfold decD
  rw [sb_list, rdMost_ofD l hl]
  dsimp only
  rw [h1]
  dsimp only
  rw [if_pos ⟨rfl, hr⟩]
theorem decD_cut {l : List T} (hl : l.length ≤ 20) (h : ∀ d ∈ l, OkDep d) {k : Nat} (hk : k < (ofD l).length) : decD (sb ((ofD l).take k)) = ([], 2) ∧ ∀ n r, rdMost 256 ((ofD l).take k) = some (n, r) → Txt n r := by
  have hall := rdDeps_comp l [] h
  rw [List.append_nil] at hall
  have key : ∀ n r, rdMost 256 ((ofD l).take k) = some (n, r) → n = l.length ∧ r ++ (ofD l).drop k = l.flatMap depB := fun n r e => by
    have h1 := rdMost_ext e ((ofD l).drop k)
    rw [List.take_append_drop, rdMost_ofD l hl] at h1
    obtain ⟨e1, e2⟩ := Prod.mk.inj (Option.some.inj h1)
    exact ⟨e1.symm, e2.symm⟩
  refine ⟨?_, fun n r e => ?_⟩
  · unfold decD
    rw [sb_list]
    cases e1 : rdMost 256 ((ofD l).take k) with
    | none => rfl
    | some p =>
      obtain ⟨n, r⟩ := p
      obtain ⟨k1, k2⟩ := key n r e1
      dsimp only
      cases e2 : rdDeps n r with
      | none => rfl
      | some p =>
        obtain ⟨us, y⟩ := p
        have h2 := rdDeps_ext n r us y ((ofD l).drop k) e2
        rw [k2, k1, hall.1] at h2
        have h3 : y ++ (ofD l).drop k = [] := (Prod.mk.inj (Option.some.inj h2)).2.symm
        have h4 := congrArg List.length h3
        rw [List.length_append, List.length_drop, List.length_nil] at h4
        omega
  · obtain ⟨k1, k2⟩ := key n r e
    have h1 := hall.2
    rw [← k2, ← k1] at h1
    exact Txt.front n h1
theorem deps_eq {a b : List T} (ha : ∀ d ∈ a, OkDep d) (hb : ∀ d ∈ b, OkDep d) (h : depsB a b = true) : a = b := by
  unfold depsB at h
  rw [Bool.and_eq_true, decide_eq_true_eq] at h
  refine List.ext_getElem h.1 fun j h1 h2 => ?_
  have h3 := allN_at h.2 h1
  have oa := ha _ (List.getElem_mem h1)
  have ob := hb _ (List.getElem_mem h2)
  unfold depAt sameR at h3
  rw [at_get h1, at_get h2, seq_dec, Bool.and_eq_true, Bool.and_eq_true, decide_eq_true_eq, decide_eq_true_eq, decide_eq_true_eq] at h3
  obtain ⟨e1, e2, e3⟩ := h3
  have va := oa.2.2.1.1
  obtain ⟨⟨s, e, v, hx, hp⟩, _⟩ := oa
  obtain ⟨⟨s', e', v', hx', hp'⟩, _⟩ := ob
  rw [hx] at e1 e2 e3 va ⊢
  rw [hx'] at e1 e2 e3 ⊢
  have f1 : s = s' := e1
  have f2 : e = e' := e2
  have f3 : v = v' := cmpV_eq 20 v v' va hp hp' e3
  rw [f1, f2, f3]
theorem rightD_names {l : List T} (h : rightD l = true) : ∀ d ∈ l, (nm d).size ≤ 16 := fun d hd => by
  obtain ⟨j, hj, rfl⟩ := List.getElem_of_mem hd
  have := allN_at h hj
  unfold okD at this
  rw [Bool.and_eq_true, Bool.and_eq_true, at_get hj] at this
  have h2 := this.2.1
  unfold nameB at h2
  rw [Bool.and_eq_true, Bool.and_eq_true] at h2
  exact of_decide_eq_true h2.1.1
theorem tawake_does : Dz i_L21_awake none [] (1, [A.t (T.bool true)]) := run_of 60 fun n => by kernel_rfl
theorem law_does (x y c : T) (hx : ∀ t ∈ x.kids, TOk Tryz.prog 36 t) (hy : ∀ t ∈ y.kids, TOk Tryz.prog 36 t) : Dz i_L21_TraceBack none [A.t x, A.t y, A.t c] (1, [A.t (T.bool true)]) := by
  obtain ⟨n1, h1⟩ := (fewD_does x.kids).both (fewD_does y.kids)
  obtain ⟨n2, h2⟩ := tawake_does
  cases hfa : fewD x.kids with
  | false =>
    rw [hfa] at h1
    refine Does.of (n1 + n2) fun m hm => ?_
    rw [q_L21_TraceBack]
    simp only [S0, S9, S1, S2, if_true, if_false, (h1 m (by omega)).1, h2 m (by omega), Bool.not_false, Bool.true_eq_false]
  | true =>
  cases hfb : fewD y.kids with
  | false =>
    rw [hfa, hfb] at h1
    refine Does.of (n1 + n2) fun m hm => ?_
    rw [q_L21_TraceBack]
    simp only [S0, S9, S1, S2, if_true, if_false, (h1 m (by omega)).1, (h1 m (by omega)).2, h2 m (by omega), Bool.not_false, Bool.not_true, Bool.true_eq_false]
  | true =>
  rw [hfa, hfb] at h1
  obtain ⟨la, fa⟩ := fewD_sm hfa
  obtain ⟨lb, fb⟩ := fewD_sm hfb
  have sa : ∀ d ∈ x.kids, Sm 20 (rv (val d)) := fun d hd => (fa d hd).2.1
  have sb' : ∀ d ∈ y.kids, Sm 20 (rv (val d)) := fun d hd => (fb d hd).2.1
  obtain ⟨n3, h3⟩ := (rrightD_does x.kids (by omega) sa).both (rrightD_does y.kids (by omega) sb')
  cases hra : rightD x.kids with
  | false =>
    rw [hra] at h3
    refine Does.of (n1 + n2 + n3) fun m hm => ?_
    rw [q_L21_TraceBack]
    simp only [S0, S9, S1, S2, if_true, if_false, (h1 m (by omega)).1, (h1 m (by omega)).2, h2 m (by omega), (h3 m (by omega)).1, Bool.not_false, Bool.not_true, Bool.true_eq_false]
  | true =>
  cases hrb : rightD y.kids with
  | false =>
    rw [hra, hrb] at h3
    refine Does.of (n1 + n2 + n3) fun m hm => ?_
    rw [q_L21_TraceBack]
    simp only [S0, S9, S1, S2, if_true, if_false, (h1 m (by omega)).1, (h1 m (by omega)).2, h2 m (by omega), (h3 m (by omega)).1, (h3 m (by omega)).2, Bool.not_false, Bool.not_true, Bool.true_eq_false]
  | true =>
  rw [hra, hrb] at h3
  have oa : ∀ d ∈ x.kids, OkDep d := fun d hd => ⟨shpD_of (hx d hd), rightD_names hra d hd, sa d hd, (fa d hd).2.2, rightD_good hra d hd⟩
  have ob : ∀ d ∈ y.kids, OkDep d := fun d hd => ⟨shpD_of (hy d hd), rightD_names hrb d hd, sb' d hd, (fb d hd).2.2, rightD_good hrb d hd⟩
  have ea := tencode_does x.kids la fa
  have eb := tencode_does y.kids lb fb
  unfold encA at ea eb
  rw [if_pos hra] at ea
  rw [if_pos hrb] at eb
  obtain ⟨n4, h4⟩ := ea.both eb
  have hn := numB_len x.kids.length
  have hpos : 1 ≤ (ofD x.kids).length := by
    unfold ofD
    rw [List.length_append]
    have := numB_pos x.kids.length
    omega
  have hlen : (ofD x.kids).length ≤ 50000000 := by
    have := flatD_len x.kids fun d hd => depB_len (fa d hd).1 (fa d hd).2.2
    have h20 : 900400 * x.kids.length ≤ 900400 * 20 := Nat.mul_le_mul_left _ la
    unfold ofD
    rw [List.length_append]
    omega
  have d1 : Dz i_trace_Decode none [A.t (T.str (sb (ofD x.kids)))] (1, [A.t (T.node x.kids), A.t (T.int 0)]) := by
    have := tdec_gen (s := sb (ofD x.kids)) (by rw [sb_size]; omega) fun n r e => by
      rw [sb_list, rdMost_ofD _ la] at e
      obtain ⟨e1, e2⟩ := Prod.mk.inj (Option.some.inj e)
      have h5 := (rdDeps_comp x.kids [] oa).2
      rw [List.append_nil] at h5
      rw [← e1, ← e2]
      exact h5
    rw [decD_own la oa hra] at this
    exact this
  obtain ⟨u, hu, hcu⟩ := wu_nat c.num
  have hk : u % (ofD x.kids).length < (ofD x.kids).length := Nat.mod_lt _ (by omega)
  have d2 : Dz i_trace_Decode none [A.t (T.str (sb ((ofD x.kids).take (u % (ofD x.kids).length))))] (1, [A.t (T.node []), A.t (T.int 2)]) := by
    obtain ⟨c1, c2⟩ := decD_cut la oa hk
    have := tdec_gen (s := sb ((ofD x.kids).take (u % (ofD x.kids).length))) (by rw [sb_size, List.length_take]; omega) fun n r e => c2 n r (by rw [sb_list] at e; exact e)
    rw [c1] at this
    exact this
  have s1 := rdeps_does x.kids x.kids (by omega) (by omega) sa sa
  rw [depsB_self] at s1
  have s2 := rdeps_does x.kids y.kids (by omega) (by omega) sa sb'
  have hsame : seqB (sb (ofD x.kids)) (sb (ofD y.kids)) = depsB x.kids y.kids := by
    rw [seq_dec, Bool.eq_iff_iff, decide_eq_true_eq]
    constructor
    · intro h
      have h' := sb_inj h
      have e1 := decD_own la oa hra
      have e2 := decD_own lb ob hrb
      rw [h', e2] at e1
      have : y.kids = x.kids := (Prod.mk.inj e1).1
      rw [this, depsB_self]
    · intro h
      rw [deps_eq oa ob h]
  obtain ⟨n5, h5⟩ := d1.both d2
  obtain ⟨n6, h6⟩ := s1.both s2
  have hz : (sb (ofD x.kids)).size = (ofD x.kids).length := sb_size _
  have hwl : IntKind.u64.wrap (((ofD x.kids).length : Nat) : Int) = (((ofD x.kids).length : Nat) : Int) := by rw [wu64, Nat.mod_eq_of_lt (by omega)]
  have hk6 : IntKind.i64.wrap (((u % (ofD x.kids).length : Nat) : Int)) = ((u % (ofD x.kids).length : Nat) : Int) := i64nat (by omega)
  have hext : ByteArray.extract (sb (ofD x.kids)) 0 (u % (ofD x.kids).length) = sb ((ofD x.kids).take (u % (ofD x.kids).length)) := by
    have hx := (Suf.all (sb (ofD x.kids))).ext (n := u % (ofD x.kids).length) (by rw [sb_list]; omega)
    rw [pos_all, Nat.zero_add, sb_list] at hx
    exact hx
  have hne : seqB (sb (ofD x.kids)) (ByteArray.mk (List.toArray [])) = false := by
    rw [seq_dec]
    refine decide_eq_false fun e => ?_
    have := congrArg ByteArray.size e
    rw [sb_size] at this
    have h0 : ByteArray.size (ByteArray.mk (List.toArray [])) = 0 := rfl
    omega
  refine Does.of (n1 + n2 + n3 + n4 + n5 + n6) fun m hm => ?_
  have a1 := (h1 m (by omega)).1
  have a2 := (h1 m (by omega)).2
  have a3 := h2 m (by omega)
  have a4 := (h3 m (by omega)).1
  have a5 := (h3 m (by omega)).2
  have a6 := (h4 m (by omega)).1
  have a7 := (h4 m (by omega)).2
  have a8 := (h5 m (by omega)).1
  have a9 := (h5 m (by omega)).2
  have a10 := (h6 m (by omega)).1
  have a11 := (h6 m (by omega)).2
  rw [q_L21_TraceBack]
  simp only [S9, S1, a1, a2, a4, a5, num_int, tf_bool, txt_str, kids_node, Option.map_some, Option.bind_some, aAt_zero, aAt_succ, tree_t, Bool.not_true, beq_self_eq_true, cond_true, cond_false]
  rw [a6, a7]
  simp only [S9, S1, num_int, tf_bool, txt_str, kids_node, Option.map_some, Option.bind_some, aAt_zero, aAt_succ, tree_t, a8, hne, a10, a11, hsame, hz, hwl, hcu, tmodN, hk6, hext, Int.toNat_natCast, a9, a3]
  have hb : ∀ o : Bool, (!o == o) = false := fun o => by cases o <;> rfl
  rw [hb, show ((((ofD x.kids).length : Nat) : Int) != 0) = true from bne_iff_ne.2 (by omega), decide_eq_true (show (0 : Int) ≤ ((u % (ofD x.kids).length : Nat) : Int) by omega), decide_eq_true (show ((u % (ofD x.kids).length : Nat) : Int) ≤ (((ofD x.kids).length : Nat) : Int) by omega)]
  rfl
end Go.Proofs.YtdofdhlpheaonaaGreatDoorTB
