/- The machine: functions of the library that are told by hand. -/
import Derived.Test.YtbejhhoakeapgaaVmZq
import Derived.Test.YtbejhhoakeapgaaVmZu
import Derived.Test.YtbejhhoakeapgaaVmB
import Derived.Shelf.Spec.SlicesInsertGrow
namespace Go.Proofs.YtbejhhoakeapgaaVM
open Go Go.Shelf Go.RowKit Go.Proofs
set_option linter.unusedVariables false
set_option linter.unusedSimpArgs false

structure InsSpec (P : Program) (f te : Nat) (zc : Value) : Prop where
  shift : ∀ (b off n c i vb voff m vc : Nat) (cs vs : List Value) (w : World), i < n → 0 < m → n + m ≤ c → c ≤ 9223372036854775807 → vb ≠ b → cs.length = n → vs.length = m →
    (∀ j v, cs[j]? = some v → w.cell? ⟨b, off + j, none⟩ = some v) → (∀ j, j < n + m → (w.cell? ⟨b, off + j, none⟩).isSome = true) → (∀ j, j < n + m → w.frozen? ⟨b, off + j, none⟩ = false) →
    (∀ j v, vs[j]? = some v → w.cell? ⟨vb, voff + j, none⟩ = some v) → (∀ v ∈ cs, v.oneCell' = true) → (∀ v ∈ vs, v.oneCell' = true) →
    ∀ (tA tB : TypeId) (kA kB : Nat), w.shape? vb = some (tA, kA) → w.shape? b = some (tB, kB) → kB ≠ 0 → w.frozen? ⟨vb, voff, none⟩ = false → w.frozen? ⟨vb, kA, none⟩ = false →
    Calls P f #[.slice (some ⟨b, off, none⟩) n c, .int .i64 i, .slice (some ⟨vb, voff, none⟩) m vc] w fun e w' =>
      e = .returned (.slice (some ⟨b, off, none⟩) (n + m) c) ∧ w' = (w.drew.setCells b (off + (i + m)) (cs.drop i)).setCells b (off + i) vs
  room : ∀ (b off n c vb voff m vc : Nat) (vs : List Value) (w : World), 0 < m → n + m ≤ c → c ≤ 9223372036854775807 → vs.length = m → (∀ j, j < m → (w.cell? ⟨b, off + n + j, none⟩).isSome = true) → (∀ j, j < m → w.frozen? ⟨b, off + n + j, none⟩ = false) →
    (∀ j v, vs[j]? = some v → w.cell? ⟨vb, voff + j, none⟩ = some v) → (∀ v ∈ vs, v.oneCell' = true) →
    Calls P f #[.slice (some ⟨b, off, none⟩) n c, .int .i64 n, .slice (some ⟨vb, voff, none⟩) m vc] w fun e w' =>
      e = .returned (.slice (some ⟨b, off, none⟩) (n + m) c) ∧ w' = w.setCells b (off + n) vs
  behind : ∀ (base : Option Addr) (n c vb voff m vc : Nat) (cs vs : List Value) (w : World), 0 < m → n ≤ c → c < n + m → n + m ≤ 1000000 → cs.length = n → vs.length = m → (base = none → n = 0) →
    (∀ a, base = some a → ∀ j v, cs[j]? = some v → w.cell? (a.add j) = some v) → (∀ j v, vs[j]? = some v → w.cell? ⟨vb, voff + j, none⟩ = some v) → (∀ v ∈ vs, v.oneCell' = true) →
    Calls P f #[.slice base n c, .int .i64 n, .slice (some ⟨vb, voff, none⟩) m vc] w fun e w' =>
      e = .returned (.slice (some ⟨w.heap.size, 0, none⟩) (n + m) (grownCap w (n + m) c te)) ∧
      w' = w.drew.alloc (.cells ((cs ++ vs).toArray ++ Builtin.zeroCells zc.cells (grownCap w (n + m) c te - (n + m))) te)
  grow : ∀ (b off n c i vb voff m vc : Nat) (cs vs : List Value) (w : World), i < n → 0 < m → n ≤ c → c < n + m → n + m ≤ 1000000 → cs.length = n → vs.length = m →
    (∀ j v, cs[j]? = some v → w.cell? ⟨b, off + j, none⟩ = some v) → (∀ j v, vs[j]? = some v → w.cell? ⟨vb, voff + j, none⟩ = some v) → (∀ v ∈ cs, v.oneCell' = true) → (∀ v ∈ vs, v.oneCell' = true) →
    Calls P f #[.slice (some ⟨b, off, none⟩) n c, .int .i64 i, .slice (some ⟨vb, voff, none⟩) m vc] w fun e w' =>
      e = .returned (.slice (some ⟨w.heap.size, 0, none⟩) (n + m) (grownCap w (n + m) c te)) ∧
      w' = (((w.alloc (.cells ((cs.take i).toArray ++ Builtin.zeroCells zc.cells (n + m - i) ++ Builtin.zeroCells zc.cells (grownCap w (n + m) c te - (n + m))) te)).drew.setCells w.heap.size i vs).drew).setCells w.heap.size (i + m) (cs.drop i)
  one : zc.cells.size = 1
theorem insStr {P : Program} {ρ : Ren} (L : Lays2.n22 P ρ) : InsSpec P (ρ.f 22) (ρ.t 9) (.string ⟨#[]⟩) where
  shift := fun b off n c i vb voff m vc cs vs w h1 h2 h3 h4 h5 h6 h7 h8 h9 h10 h11 h12 h13 tA tB kA kB a1 a2 a3 a4 a5 => Any2.slices_Insert_string_shift L b off n c i vb voff m vc cs vs w h1 h2 h3 h4 h5 h6 h7 h8 h9 h10 h11 h12 h13 tA tB kA kB a1 a2 a3 a4 a5
  room := fun b off n c vb voff m vc vs w h1 h2 h3 h4 h5 h6 h7 h8 => Any2.slices_Insert_string_end_room L b off n c vb voff m vc vs w h1 h2 h3 h4 h5 h6 h7 h8
  behind := fun base n c vb voff m vc cs vs w h1 h2 h3 h4 h5 h6 h7 h8 h9 h10 => Any2.slices_Insert_string_end_grow L base n c vb voff m vc cs vs w h1 h2 h3 (by omega) h5 h6 h7 h8 h9 h10
  grow := fun b off n c i vb voff m vc cs vs w h1 h2 h3 h4 h5 h6 h7 h8 h9 h10 h11 => Any2.slices_Insert_string_grow L b off n c i vb voff m vc cs vs w h1 h2 h3 h4 (by omega) h6 h7 h8 h9 h10 h11
  one := rfl
theorem insInt {P : Program} {ρ : Ren} (L : Lays2.n21 P ρ) : InsSpec P (ρ.f 21) (ρ.t 3) (.int .i64 0) where
  shift := fun b off n c i vb voff m vc cs vs w h1 h2 h3 h4 h5 h6 h7 h8 h9 h10 h11 h12 h13 tA tB kA kB a1 a2 a3 a4 a5 => Any2.slices_Insert_int_shift L b off n c i vb voff m vc cs vs w h1 h2 h3 h4 h5 h6 h7 h8 h9 h10 h11 h12 h13 tA tB kA kB a1 a2 a3 a4 a5
  room := fun b off n c vb voff m vc vs w h1 h2 h3 h4 h5 h6 h7 h8 => Any2.slices_Insert_int_end_room L b off n c vb voff m vc vs w h1 h2 h3 h4 h5 h6 h7 h8
  behind := fun base n c vb voff m vc cs vs w h1 h2 h3 h4 h5 h6 h7 h8 h9 h10 => Any2.slices_Insert_int_end_grow L base n c vb voff m vc cs vs w h1 h2 h3 (by omega) h5 h6 h7 h8 h9 h10
  grow := fun b off n c i vb voff m vc cs vs w h1 h2 h3 h4 h5 h6 h7 h8 h9 h10 h11 => Any2.slices_Insert_int_grow L b off n c i vb voff m vc cs vs w h1 h2 h3 h4 (by omega) h6 h7 h8 h9 h10 h11
  one := rfl

theorem heap_setCells {b : Nat} : ∀ (vs : List Value) (o : Nat) (W : World) (c : Array Value) (el : TypeId) (fr : Nat × Nat), W.heap[b]? = some (.cells c el fr) → o + vs.length ≤ c.size →
    (W.setCells b o vs).heap[b]? = some (.cells (splice c.toList o vs).toArray el fr) ∧ (W.setCells b o vs).heap.size = W.heap.size ∧ Wr (fun x => x = b) W (W.setCells b o vs)
  | [], o, W, c, el, fr, h, hl => ⟨by simp [World.setCells, splice, h], rfl, Wr.refl _ W⟩
  | v :: vs, o, W, c, el, fr, h, hl => by
    have hlt : o < c.size := by simp at hl; omega
    have hW1 : (W.setCell ⟨b, o, none⟩ v).heap[b]? = some (.cells (c.setIfInBounds o v) el fr) := by
      show (W.heap.modify b _)[b]? = _
      have hb : b < W.heap.size := (Array.getElem?_eq_some_iff.1 h).1
      rw [Array.getElem?_modify, if_pos rfl, h]; rfl
    obtain ⟨h1, h2, h3⟩ := heap_setCells vs (o + 1) (W.setCell ⟨b, o, none⟩ v) (c.setIfInBounds o v) el fr hW1 (by simp at hl ⊢; omega)
    refine ⟨?_, by rw [World.setCells, h2]; simp, ?_⟩
    · rw [World.setCells, h1]
      have hsz : o + vs.length + 1 ≤ c.toList.length := by simp at hl; simp; omega
      rw [← splice_cons c.toList o v vs hsz]
      simp [Array.setIfInBounds, hlt]
    · rw [World.setCells]
      refine Wr.trans (b := W.setCell ⟨b, o, none⟩ v) ⟨rfl, rfl, rfl, by simp, fun k hk hne => ?_⟩ h3
      exact Below.heap_setCell _ _ _ _ (show k ≠ (⟨b, o, none⟩ : Addr).block from hne)
theorem splice_get {c vs : List Value} {o : Nat} (h : o + vs.length ≤ c.length) (k : Nat) : (splice c o vs)[k]? = if k < o then c[k]? else if k < o + vs.length then vs[k - o]? else c[k]? := by
  unfold splice
  have hl : (c.take o).length = o := by rw [List.length_take]; omega
  by_cases h1 : k < o
  · rw [if_pos h1, List.getElem?_append_left (by omega), List.getElem?_take, if_pos h1]
  · rw [if_neg h1, List.getElem?_append_right (by omega), hl]
    by_cases h2 : k < o + vs.length
    · rw [if_pos h2, List.getElem?_append_left (by omega)]
    · rw [if_neg h2, List.getElem?_append_right (by omega), List.getElem?_drop]
      congr 1; omega
def Pt (P : Program) (W : World) (ok : Nat → Prop) (e : TypeId) (xs : List T) (cs : List Value) : Prop := xs.length = cs.length ∧ ∀ (j : Nat) (x : T) (w : Value), xs[j]? = some x → cs[j]? = some w → PRep P W ok e x [w]
section
variable {P : Program} {W : World} {ok : Nat → Prop} {e : TypeId} {xs ys : List T} {cs ds : List Value}
theorem Pt.take (h : Pt P W ok e xs cs) (i : Nat) : Pt P W ok e (xs.take i) (cs.take i) :=
  ⟨by simp [h.1], fun j x w h1 h2 => by
    rw [List.getElem?_take] at h1 h2
    split at h1
    · rename_i hj; rw [if_pos hj] at h2; exact h.2 j x w h1 h2
    · cases h1⟩
theorem Pt.drop (h : Pt P W ok e xs cs) (i : Nat) : Pt P W ok e (xs.drop i) (cs.drop i) :=
  ⟨by simp [h.1], fun j x w h1 h2 => by rw [List.getElem?_drop] at h1 h2; exact h.2 _ x w h1 h2⟩
theorem Pt.app (h : Pt P W ok e xs cs) (k : Pt P W ok e ys ds) : Pt P W ok e (xs ++ ys) (cs ++ ds) :=
  ⟨by simp [h.1, k.1], fun j x w h1 h2 => by
    by_cases hj : j < xs.length
    · rw [List.getElem?_append_left hj] at h1
      rw [List.getElem?_append_left (by rw [← h.1]; exact hj)] at h2
      exact h.2 j x w h1 h2
    · rw [List.getElem?_append_right (by omega)] at h1
      rw [List.getElem?_append_right (by rw [← h.1]; omega), ← h.1] at h2
      exact k.2 _ x w h1 h2⟩
theorem Pt.one (h : Pt P W ok e xs cs) : ∀ v ∈ cs, v.oneCell' = true := fun v hv => by
  obtain ⟨j, hj, rfl⟩ := List.getElem_of_mem hv
  have hj2 : j < xs.length := by rw [h.1]; exact hj
  have hx : xs[j]? = some xs[j] := List.getElem?_eq_getElem hj2
  exact (h.2 j _ _ hx (List.getElem?_eq_getElem hj)).one _ (by simp)
theorem Pt.stay {W' : World} {ok' : Nat → Prop} (h : Pt P W ok e xs cs) (hs : Stay ok ok' W W') : Pt P W' ok' e xs cs := ⟨h.1, fun j x w h1 h2 => (h.2 j x w h1 h2).stay hs⟩
end
theorem row_pt {M : Mem} {β : Places} {pl : Place} {e : TypeId} {xs : List T} (h : RO M β pl (.row e xs)) (hv : pl.virt = false) (h1 : pl.sz = 1) {c : Array Value} {el : TypeId} {fr : Nat × Nat} (hh : M.W.heap[pl.b]? = some (.cells c el fr)) (hl : pl.off + xs.length ≤ c.size) :
    Pt M.P M.W M.ok e xs ((c.toList.drop pl.off).take xs.length) ∧ ∀ j v, ((c.toList.drop pl.off).take xs.length)[j]? = some v → M.W.cell? ⟨pl.b, pl.off + j, none⟩ = some v := by
  obtain ⟨q1, q2, q3, _, q4⟩ := h
  obtain ⟨c', el', fr', q5, q6, q7, q8⟩ := q4 hv
  rw [hh] at q5; cases q5
  refine ⟨⟨by have hcl : c.toList.length = c.size := Array.length_toList; rw [List.length_take, List.length_drop]; omega, fun j x w hx hw => ?_⟩, fun j v hj => ?_⟩
  · have := q8 j x hx
    have hjl := (List.getElem?_eq_some_iff.1 hx).1
    rw [List.getElem?_take, if_pos hjl, List.getElem?_drop] at hw
    rw [h1, Nat.mul_one, take_one hw] at this
    exact this
  · have hjl : j < xs.length := by have := (List.getElem?_eq_some_iff.1 hj).1; rw [List.length_take] at this; omega
    rw [List.getElem?_take, if_pos hjl, List.getElem?_drop] at hj
    rw [cell_of hh, ← Array.getElem?_toList]
    exact hj
def insrtOk (i : Int) (s v : List T) : Bool := decide (0 ≤ i) && decide (i ≤ (s.length : Int)) && decide (1 ≤ v.length) && decide (s.length + v.length ≤ 1000000)
def insL (i : Int) (s v : List T) : List T := s.take i.toNat ++ v ++ s.drop i.toNat
def insFn (zs : List A) : Option (List A) := bif insrtOk (aAt zs 0).tree.num (aAt zs 1).tree.kids (aAt zs 2).tree.kids then some [.t (.node (aAt zs 2).tree.kids), .t (.node (insL (aAt zs 0).tree.num (aAt zs 1).tree.kids (aAt zs 2).tree.kids))] else none
def insE (f ti te : Nat) : Entry := { fid := f, ins := ⟨[(0, .o 0), (1, .v ti), (2, .o 1)], [.row te, .row te]⟩, outs := ⟨[(0, .o 2)], [.gone, .row te, .row te]⟩, cuts := [], prim := some insFn }
theorem nxt_ins {P : Program} {G : Globs} {C : Ctx} {β : Places} {free : Nat → Prop} {N : Nat} {regs : Regs} {look : Look} {a : Act} {W W' : World} {nm : Nat} (h : Rel P G C β free N regs look a W) (hfr : free nm) {te : TypeId} (hcs : csz P te = some 1)
    {n : Nat} {s new : List T} {pl0 : Place} (hl : look n = some (.row te s)) (hpl0 : β n = some pl0) {X : Nat → Prop} (hw : Wr X W W') (hX : ∀ b, X b → pl0.virt = false ∧ b = pl0.b)
    {b off cap : Nat} {c : Array Value} {el : TypeId} {fr : Nat × Nat} (hb : W.heap.size ≤ b ∨ (pl0.virt = false ∧ b = pl0.b)) (hh : W'.heap[b]? = some (.cells c el fr)) (hfr0 : fr = (0, 0)) (hmax : c.size ≤ maxLen) (hcap : off + cap ≤ c.size) (hlen : new.length ≤ cap)
    (hpt : Pt P W (okOf C β look) te new ((c.toList.drop off).take new.length)) {dst : Option Tmp} {touch : List Nat} :
    Nxt P G C β free N regs look dst nm { d := .own nm, upd := [(nm, some (.row te new)), (n, none)], touch := touch, fresh := 1 } (a.put dst (.slice (some ⟨b, off, none⟩) new.length cap)) W' := by
  subst hfr0
  refine nxt_moved h hfr hl rfl hpl0 hw hX rfl (pl := { b := b, off := off, len := new.length, sz := 1, lim := c.size }) (hb.elim (fun h => .inr (.inl h)) (fun h => .inr (.inr h))) (fun hle => ?_) (fun hle => ?_)
  · refine ⟨rfl, hcs, Nat.one_pos, (fun hv => by cases hv), fun _ => ⟨c, el, (0, 0), hh, rfl, ⟨fun o _ hx => by have := hx.2; omega, .inr ⟨rfl, by show c.size ≤ maxLen * 1; omega⟩⟩, fun i x hx => ?_⟩⟩
    have hi : i < new.length := (List.getElem?_eq_some_iff.1 hx).1
    have hc : c.toList[off + i]? = some (c.toList[off + i]'(by rw [Array.length_toList]; omega)) := List.getElem?_eq_getElem _
    have hg : ((c.toList.drop off).take new.length)[i]? = some (c.toList[off + i]'(by rw [Array.length_toList]; omega)) := by
      rw [List.getElem?_take, if_pos hi, List.getElem?_drop]; exact hc
    have := hpt.2 i x _ hx hg
    show PRep P W' _ te x ((c.toList.drop (off + i * 1)).take 1)
    rw [Nat.mul_one, take_one hc]
    exact this.stay hle.stay
  · refine RV_scalar ⟨_, setP_self, ?_⟩ rfl
    simp only [Bool.false_eq_true, if_false]
    exact ⟨cap, rfl, hlen, by omega⟩
theorem frz0 {W : World} {b : Nat} {c : Array Value} {el : TypeId} (h : W.heap[b]? = some (.cells c el (0, 0))) (o : Nat) : W.frozen? ⟨b, o, none⟩ = false := by
  simp only [World.frozen?, h]
  simp
theorem insert_ok {P : Program} {G : Globs} {f ti te : Nat} {zc : Value} (I : InsSpec P f te zc) (hti : P.underlying ti = some (.int .i64)) (hcs : csz P te = some 1) (hu8 : P.underlying te ≠ some (.int .u8)) (hen : Enters P f) : FnOk P G (insE f ti te) insFn := by
  refine FnOk.of_step (E := { call := fun _ _ => none, loop := fun _ _ => none, ents := [], cuts := [], σ0 := [], G := [] }) hen (by simp [insE]) ?_
  intro C β vals zs o W hW hF hl hrel
  unfold insFn at hF
  obtain ⟨hF1, hF2⟩ := bif_some hF
  cases hF2
  simp only [insrtOk, Bool.and_eq_true, decide_eq_true_eq] at hF1
  obtain ⟨⟨⟨f1, f2⟩, f3⟩, f4⟩ := hF1
  generalize hiN : (aAt zs 0).tree.num.toNat = i at *
  have hi : (aAt zs 0).tree.num = (i : Int) := by omega
  have hu : unRs P id zs (regRMs (insE f ti te).ins) 0 = ([.own 0, .int .i64 (aAt zs 0).tree.num, .own 1], 1) := by
    simp [insE, regRMs, unRs, unR, ofT, hti]
  rw [hu] at hrel ⊢
  have hlk : lookOf P (insE f ti te).ins.objs zs 1 = fun n => if n = 0 then some (.row te (aAt zs 1).tree.kids) else if n = 1 then some (.row te (aAt zs 2).tree.kids) else none := by
    funext n
    match n with
    | 0 => rfl
    | 1 => rfl
    | n + 2 => rfl
  generalize hs : (aAt zs 1).tree.kids = s at *
  generalize hv : (aAt zs 2).tree.kids = v at *
  refine ⟨{ d := .own 2, upd := [(2, some (.row te (insL (aAt zs 0).tree.num s v))), (0, none)], touch := [], fresh := 1 }, ⟨[.t (.node v), .t (.node (insL (aAt zs 0).tree.num s v))], [(2, some 2), (1, some 1)], [], []⟩, ?_, rfl, ?_⟩
  · rw [show ([D.own 0, D.int .i64 (aAt zs 0).tree.num, D.own 1], 1).2 = 1 from rfl, hlk]
    have hb : Nat.beq te te = true := Nat.beq_refl te
    simp [packShape, insE, regRMs, packTops, packTop, packR, packObjs, bindN, sigma, stays, hasName, updF, setF, goneAll, apartB, meets, sigBound, gonesOk, liveB, packT, hb, show Nat.beq 0 1 = false from rfl, show Nat.beq 1 1 = true from rfl, show Nat.beq 0 0 = true from rfl, show Nat.beq 1 0 = false from rfl, show Nat.beq 2 1 = false from rfl, show Nat.beq 1 2 = false from rfl, show Nat.beq 2 2 = true from rfl]
    rfl
  have hfree : (insE f ti te).ins.objs.length ≤ 2 := Nat.le_refl _
  have hl' : vals.length = 3 := hl
  have h0 := hrel.vals 0
  have h1 := hrel.vals 1
  have h2 := hrel.vals 2
  match vals, hl' with
  | [v0, v1, v2], _ =>
    obtain ⟨c1, hc1, hv1⟩ := h1
    have e1 : v1 = .int .i64 i := by
      have : c1 = [.int .i64 (aAt zs 0).tree.num] := hc1
      subst this
      simp [VF, scalar, regsOf, Array.getD] at hv1
      rw [← hv1, hi]
    subst e1
    -- what is laid in
    obtain ⟨c2, ⟨pl1, b1, b2⟩, hv2⟩ := h2
    obtain ⟨pl1', b3, b4⟩ := hrel.objs 1 (.row te v) (by rw [hlk]; rfl)
    rw [b1] at b3; cases b3
    have hb4 := b4
    obtain ⟨b5, b6, b7, b8, b9⟩ := b4
    have hvv : pl1.virt = false := by
      cases hq : pl1.virt with
      | false => rfl
      | true => have := b8 hq; rw [this] at f3; simp at f3
    have hsz1 : pl1.sz = 1 := by have : csz P te = some pl1.sz := b6; rw [hcs] at this; exact (Option.some.inj this).symm
    rw [hvv] at b2
    simp only [Bool.false_eq_true, if_false] at b2
    obtain ⟨cap1, e2, b10, b11⟩ := b2
    obtain ⟨cv, elv, frv, d1, d2, d3, d4⟩ := b9 hvv
    change W.heap[pl1.b]? = some (.cells cv elv frv) at d1
    have hfv : frv = (0, 0) ∧ cv.size ≤ maxLen * pl1.sz := d3.2.resolve_left hu8
    obtain ⟨rfl, _⟩ := hfv
    have e2' : v2 = .slice (some ⟨pl1.b, pl1.off, none⟩) v.length cap1 := by
      subst e2
      simp [VF, scalar, regsOf, Array.getD] at hv2
      rw [← hv2, b5]
    subst e2'
    rw [hsz1] at b11
    obtain ⟨pv, cellv⟩ := row_pt (M := memOf P C β (lookOf P (insE f ti te).ins.objs zs 1) W) hb4 hvv hsz1 d1 (by rw [← b5]; omega)
    generalize hvs : (cv.toList.drop pl1.off).take v.length = ws at *
    have hwl : ws.length = v.length := pv.1.symm
    -- where it is laid in
    obtain ⟨c0, ⟨pl0, a1, a2⟩, hv0⟩ := h0
    obtain ⟨pl0', a3, a4⟩ := hrel.objs 0 (.row te s) (by rw [hlk]; rfl)
    rw [a1] at a3; cases a3
    have ha4 := a4
    obtain ⟨a5, a6, a7, a8, a9⟩ := a4
    have hsz0 : pl0.sz = 1 := by have : csz P te = some pl0.sz := a6; rw [hcs] at this; exact (Option.some.inj this).symm
    have hnl : (insL (aAt zs 0).tree.num s v).length = s.length + v.length := by
      unfold insL
      rw [hiN]
      simp only [List.length_append, List.length_take, List.length_drop]
      omega
    have hnew : insL (aAt zs 0).tree.num s v = s.take i ++ v ++ s.drop i := by unfold insL; rw [hiN]
    have hins : i ≤ s.length := by omega
    cases hq : pl0.virt with
    | true =>
      have hs0 := a8 hq
      rw [hq] at a2
      simp only [if_true] at a2
      obtain ⟨ad, e0⟩ := a2
      have e0' : v0 = .slice ad 0 0 := by
        subst e0
        simp [VF, scalar, regsOf, Array.getD] at hv0
        exact hv0.symm
      subst e0'
      have hi0 : i = 0 := by rw [hs0] at hins; simpa using hins
      subst hi0
      refine (I.behind ad 0 0 pl1.b pl1.off v.length cap1 [] ws W (by omega) (Nat.le_refl _) (by omega) (by rw [hs0] at f4; simpa using f4) rfl hwl (fun _ => rfl) (fun a _ j x hj => by simp at hj) cellv pv.one).mono ?_
      rintro x W' ⟨rfl, rfl⟩
      have hge := grownCap_ge W (0 + v.length) 0 te
      have hmx := grownCap_le_maxLen W (0 + v.length) 0 te (by unfold maxLen; omega)
      have hn2 : (insL (aAt zs 0).tree.num s v).length = 0 + v.length := by rw [hnl, hs0]; rfl
      refine ⟨_, rfl, ?_⟩
      rw [← hn2]
      refine nxt_ins hrel hfree hcs (by rw [hlk]; rfl) a1 (Wr.grow W _) (fun _ hx => hx.elim) (.inl (Nat.le_refl _)) (heap_alloc_last W.drew _) rfl ?_ ?_ (by rw [hn2]; exact hge) ?_
      · simp only [Array.size_append, List.size_toArray, zeroCells_size, I.one, List.nil_append, hwl]
        rw [hn2]; omega
      · simp only [Array.size_append, List.size_toArray, zeroCells_size, I.one, List.nil_append, hwl]
        rw [hn2]; omega
      · rw [hn2, hnew, hs0]
        simp only [List.take_nil, List.drop_nil, List.nil_append, List.append_nil, List.drop_zero, Array.toList_append, Nat.zero_add]
        rw [List.take_append_of_le_length (by rw [hwl]; exact Nat.le_refl _), List.take_of_length_le (by rw [hwl]; exact Nat.le_refl _)]
        exact pv
    | false =>
      rw [hq] at a2
      simp only [Bool.false_eq_true, if_false] at a2
      obtain ⟨cap0, e0, a10, a11⟩ := a2
      obtain ⟨cv0, el0, fr0, g1, g2, g3, g4⟩ := a9 hq
      change W.heap[pl0.b]? = some (.cells cv0 el0 fr0) at g1
      have hfr0 : fr0 = (0, 0) ∧ cv0.size ≤ maxLen * pl0.sz := g3.2.resolve_left hu8
      obtain ⟨rfl, hmax0⟩ := hfr0
      rw [hsz0] at a11 hmax0
      rw [Nat.mul_one] at a11 hmax0
      have e0' : v0 = .slice (some ⟨pl0.b, pl0.off, none⟩) s.length cap0 := by
        subst e0
        simp [VF, scalar, regsOf, Array.getD] at hv0
        rw [← hv0, a5]
      subst e0'
      rw [a5] at a10
      obtain ⟨ps, cells⟩ := row_pt (M := memOf P C β (lookOf P (insE f ti te).ins.objs zs 1) W) ha4 hq hsz0 g1 (by omega)
      generalize hcs0 : (cv0.toList.drop pl0.off).take s.length = cs at *
      have hcl : cs.length = s.length := ps.1.symm
      have hne : pl1.b ≠ pl0.b := fun e => by
        have := hrel.inj 1 0 pl1 pl0 (by rw [hlk]; simp) (by rw [hlk]; simp) b1 a1 hvv hq e
        omega
      have hptn : Pt P W (okOf C β (lookOf P (insE f ti te).ins.objs zs 1)) te (insL (aAt zs 0).tree.num s v) (cs.take i ++ ws ++ cs.drop i) := by
        rw [hnew]; exact ((ps.take i).app pv).app (ps.drop i)
      have hpl0cells : cv0.toList.length = cv0.size := Array.length_toList
      have hcsget : ∀ k, k < s.length → cs[k]? = cv0.toList[pl0.off + k]? := fun k hk => by
        rw [← hcs0, List.getElem?_take, if_pos hk, List.getElem?_drop]
      by_cases hroom : s.length + v.length ≤ cap0
      · have hc63 : cap0 ≤ 9223372036854775807 := by unfold maxLen at hmax0; omega
        by_cases hin : i < s.length
        · refine (I.shift pl0.b pl0.off s.length cap0 i pl1.b pl1.off v.length cap1 cs ws W hin (by omega) hroom hc63 hne hcl hwl cells (fun j hj => ?_) (fun j hj => frz0 g1 _) cellv ps.one pv.one elv el0 cv.size cv0.size (by simp [World.shape?, d1]) (by simp [World.shape?, g1]) (by omega) (frz0 d1 _) (frz0 d1 _)).mono ?_
          · rw [cell_of g1, Array.getElem?_eq_getElem (by omega)]; rfl
          rintro x W' ⟨rfl, rfl⟩
          have hdl : (cs.drop i).length = s.length - i := by rw [List.length_drop, hcl]
          obtain ⟨x1, x2, x3⟩ := heap_setCells (b := pl0.b) (cs.drop i) (pl0.off + (i + v.length)) W.drew cv0 el0 (0, 0) g1 (by rw [hdl]; omega)
          have hsp1 : (splice cv0.toList (pl0.off + (i + v.length)) (cs.drop i)).length = cv0.size := by rw [splice_length (by rw [hdl]; omega), hpl0cells]
          obtain ⟨y1, y2, y3⟩ := heap_setCells (b := pl0.b) ws (pl0.off + i) _ _ el0 (0, 0) x1 (by rw [List.size_toArray, hsp1, hwl]; omega)
          rw [List.toList_toArray] at y1
          have hsp2 : (splice (splice cv0.toList (pl0.off + (i + v.length)) (cs.drop i)) (pl0.off + i) ws).length = cv0.size := by rw [splice_length (by rw [hsp1, hwl]; omega), hsp1]
          refine ⟨_, rfl, ?_⟩
          rw [← hnl]
          refine nxt_ins hrel hfree hcs (by rw [hlk]; rfl) a1 ((Wr.drew W).mono (fun _ h => h.elim) |>.trans (x3.trans y3)) (fun b hb => ⟨hq, hb⟩) (.inr ⟨hq, rfl⟩) y1 rfl (by rw [List.size_toArray, hsp2]; exact hmax0) (by rw [List.size_toArray, hsp2]; omega) (by rw [hnl]; exact hroom) ?_
          rw [List.toList_toArray]
          refine Eq.subst (motive := fun z => Pt P W (okOf C β (lookOf P (insE f ti te).ins.objs zs 1)) te (insL (aAt zs 0).tree.num s v) z) (Eq.symm ?_) hptn
          apply List.ext_getElem?
          intro k
          rw [List.getElem?_take, List.getElem?_drop]
          by_cases hk : k < s.length + v.length
          · rw [hnl, if_pos hk, splice_get (by rw [hsp1, hwl]; omega)]
            have htl : (cs.take i).length = i := by rw [List.length_take, hcl]; omega
            by_cases k1 : k < i
            · rw [if_pos (by omega), splice_get (by rw [hdl]; omega), if_pos (by omega), List.append_assoc, List.getElem?_append_left (by omega), List.getElem?_take, if_pos k1, hcsget k (by omega)]
            · by_cases k2 : k < i + v.length
              · rw [if_neg (by omega), if_pos (by rw [hwl]; omega), List.append_assoc, List.getElem?_append_right (by omega), List.getElem?_append_left (by rw [htl, hwl]; omega), htl]
                congr 1; omega
              · rw [if_neg (by omega), if_neg (by rw [hwl]; omega), splice_get (by rw [hdl]; omega), if_neg (by omega), if_pos (by rw [hdl]; omega), List.getElem?_append_right (by rw [List.length_append, htl, hwl]; omega), List.length_append, htl, hwl]
                congr 1; omega
          · rw [hnl, if_neg hk, List.getElem?_eq_none]
            simp only [List.length_append, List.length_take, List.length_drop, hcl, hwl]; omega
        · have hie : i = s.length := by omega
          subst hie
          refine (I.room pl0.b pl0.off s.length cap0 pl1.b pl1.off v.length cap1 ws W (by omega) hroom hc63 hwl (fun j hj => ?_) (fun j hj => frz0 g1 _) cellv pv.one).mono ?_
          · rw [cell_of g1, Array.getElem?_eq_getElem (by omega)]; rfl
          rintro x W' ⟨rfl, rfl⟩
          obtain ⟨y1, y2, y3⟩ := heap_setCells (b := pl0.b) ws (pl0.off + s.length) W cv0 el0 (0, 0) g1 (by rw [hwl]; omega)
          have hsp2 : (splice cv0.toList (pl0.off + s.length) ws).length = cv0.size := by rw [splice_length (by rw [hwl]; omega), hpl0cells]
          refine ⟨_, rfl, ?_⟩
          rw [← hnl]
          refine nxt_ins hrel hfree hcs (by rw [hlk]; rfl) a1 y3 (fun b hb => ⟨hq, hb⟩) (.inr ⟨hq, rfl⟩) y1 rfl (by rw [List.size_toArray, hsp2]; exact hmax0) (by rw [List.size_toArray, hsp2]; omega) (by rw [hnl]; exact hroom) ?_
          rw [List.toList_toArray]
          refine Eq.subst (motive := fun z => Pt P W (okOf C β (lookOf P (insE f ti te).ins.objs zs 1)) te (insL (aAt zs 0).tree.num s v) z) (Eq.symm ?_) hptn
          apply List.ext_getElem?
          intro k
          rw [List.getElem?_take, List.getElem?_drop]
          have htk : cs.take s.length = cs := List.take_of_length_le (by omega)
          have hdk : cs.drop s.length = [] := List.drop_of_length_le (by omega)
          rw [htk, hdk, List.append_nil]
          by_cases hk : k < s.length + v.length
          · rw [hnl, if_pos hk, splice_get (by rw [hwl]; omega)]
            by_cases k1 : k < s.length
            · rw [if_pos (by omega), List.getElem?_append_left (by omega), hcsget k k1]
            · rw [if_neg (by omega), if_pos (by rw [hwl]; omega), List.getElem?_append_right (by omega)]
              congr 1; omega
          · rw [hnl, if_neg hk, List.getElem?_eq_none]
            rw [List.length_append]; omega
      · have hge := grownCap_ge W (s.length + v.length) cap0 te
        have hmx := grownCap_le_maxLen W (s.length + v.length) cap0 te (by unfold maxLen; omega)
        by_cases hin : i < s.length
        · refine (I.grow pl0.b pl0.off s.length cap0 i pl1.b pl1.off v.length cap1 cs ws W hin (by omega) a10 (by omega) f4 hcl hwl cells cellv ps.one pv.one).mono ?_
          rintro x W' ⟨rfl, rfl⟩
          have hdl : (cs.drop i).length = s.length - i := by rw [List.length_drop, hcl]
          have htl : (cs.take i).length = i := by rw [List.length_take, hcl]; omega
          generalize hA : ((cs.take i).toArray ++ Builtin.zeroCells zc.cells (s.length + v.length - i) ++ Builtin.zeroCells zc.cells (grownCap W (s.length + v.length) cap0 te - (s.length + v.length))) = A
          have hAs : A.size = grownCap W (s.length + v.length) cap0 te := by
            rw [← hA]
            simp only [Array.size_append, List.size_toArray, zeroCells_size, I.one, htl]
            omega
          have hAl : A.toList.length = A.size := Array.length_toList
          have hAg : ∀ k, k < i → A.toList[k]? = cs[k]? := fun k hk => by
            rw [← hA]
            simp only [Array.toList_append, List.append_assoc]
            rw [List.getElem?_append_left (by show k < (cs.take i).length; omega)]
            show (cs.take i)[k]? = _
            rw [List.getElem?_take, if_pos hk]
          have g5 : (W.alloc (.cells A te)).drew.heap[W.heap.size]? = some (.cells A te (0, 0)) := heap_alloc_last W _
          obtain ⟨x1, x2, x3⟩ := heap_setCells (b := W.heap.size) ws i (W.alloc (.cells A te)).drew A te (0, 0) g5 (by rw [hwl, hAs]; omega)
          have hsp1 : (splice A.toList i ws).length = A.size := by rw [splice_length (by rw [hwl, hAl, hAs]; omega), hAl]
          obtain ⟨y1, y2, y3⟩ := heap_setCells (b := W.heap.size) (cs.drop i) (i + v.length) (((W.alloc (.cells A te)).drew.setCells W.heap.size i ws).drew) _ te (0, 0) x1 (by rw [List.size_toArray, hsp1, hdl, hAs]; omega)
          rw [List.toList_toArray] at y1
          have hsp2 : (splice (splice A.toList i ws) (i + v.length) (cs.drop i)).length = A.size := by rw [splice_length (by rw [hsp1, hdl, hAs]; omega), hsp1]
          refine ⟨_, rfl, ?_⟩
          rw [← hnl]
          have hwr : Wr (fun _ => False) W ((((W.alloc (.cells A te)).drew.setCells W.heap.size i ws).drew).setCells W.heap.size (i + v.length) (cs.drop i)) := by
            have w1 : Wr (fun x => x = W.heap.size) W ((((W.alloc (.cells A te)).drew.setCells W.heap.size i ws).drew).setCells W.heap.size (i + v.length) (cs.drop i)) :=
              ((Wr.alloc W (.cells A te)).mono (fun _ h => h.elim)).trans (((Wr.drew _).mono (fun _ h => h.elim)).trans (x3.trans (((Wr.drew _).mono (fun _ h => h.elim)).trans y3)))
            exact ⟨w1.os, w1.tape, w1.output, w1.size, fun b hb _ => w1.block b hb (by omega)⟩
          refine nxt_ins hrel hfree hcs (by rw [hlk]; rfl) a1 hwr (fun _ hx => hx.elim) (.inl (Nat.le_refl _)) y1 rfl (by rw [List.size_toArray, hsp2, hAs]; exact hmx) (by rw [List.size_toArray, hsp2, hAs, hnl]; omega) (by rw [hnl]; exact hge) ?_
          rw [List.toList_toArray]
          refine Eq.subst (motive := fun z => Pt P W (okOf C β (lookOf P (insE f ti te).ins.objs zs 1)) te (insL (aAt zs 0).tree.num s v) z) (Eq.symm ?_) hptn
          apply List.ext_getElem?
          intro k
          rw [List.getElem?_take, List.getElem?_drop, Nat.zero_add]
          by_cases hk : k < s.length + v.length
          · rw [hnl, if_pos hk, splice_get (by rw [hsp1, hdl, hAs]; omega)]
            by_cases k1 : k < i
            · rw [if_pos (by omega), splice_get (by rw [hwl, hAl, hAs]; omega), if_pos k1, hAg k k1, List.append_assoc, List.getElem?_append_left (by omega), List.getElem?_take, if_pos k1]
            · by_cases k2 : k < i + v.length
              · rw [if_pos k2, splice_get (by rw [hwl, hAl, hAs]; omega), if_neg k1, if_pos (by rw [hwl]; exact k2), List.append_assoc, List.getElem?_append_right (by omega), List.getElem?_append_left (by rw [htl, hwl]; omega), htl]
              · rw [if_neg k2, if_pos (by rw [hdl]; omega), List.getElem?_append_right (by rw [List.length_append, htl, hwl]; omega), List.length_append, htl, hwl]
          · rw [hnl, if_neg hk, List.getElem?_eq_none]
            simp only [List.length_append, List.length_take, List.length_drop, hcl, hwl]; omega
        · have hie : i = s.length := by omega
          subst hie
          refine (I.behind (some ⟨pl0.b, pl0.off, none⟩) s.length cap0 pl1.b pl1.off v.length cap1 cs ws W (by omega) a10 (by omega) f4 hcl hwl (fun h => by cases h) (fun a ha j x hj => by cases ha; rw [add_none]; exact cells j x hj) cellv pv.one).mono ?_
          rintro x W' ⟨rfl, rfl⟩
          refine ⟨_, rfl, ?_⟩
          rw [← hnl]
          have hn2 := hnl
          refine nxt_ins hrel hfree hcs (by rw [hlk]; rfl) a1 (Wr.grow W _) (fun _ hx => hx.elim) (.inl (Nat.le_refl _)) (heap_alloc_last W.drew _) rfl ?_ ?_ (by rw [hnl]; exact hge) ?_
          · simp only [Array.size_append, List.size_toArray, zeroCells_size, I.one, List.length_append, hcl, hwl]
            rw [hnl]; omega
          · simp only [Array.size_append, List.size_toArray, zeroCells_size, I.one, List.length_append, hcl, hwl]
            rw [hnl]; omega
          · have htk : cs.take s.length = cs := List.take_of_length_le (by omega)
            have hdk : cs.drop s.length = [] := List.drop_of_length_le (by omega)
            rw [htk, hdk, List.append_nil] at hptn
            rw [hnl]
            simp only [List.drop_zero, Array.toList_append]
            rw [List.take_append_of_le_length (by rw [List.length_append, hcl, hwl]; exact Nat.le_refl _), List.take_of_length_le (by rw [List.length_append, hcl, hwl]; exact Nat.le_refl _)]
            exact hptn
end Go.Proofs.YtbejhhoakeapgaaVM
