/- Data that came in, read as Lean's lists and records: type by type. No program in sight. -/
import Derived.ChangeArms
import Derived.DataReads
import Derived.DataElems
import Derived.Test.YtpfglhjgjfhkjaaWWords
namespace Go.Proofs.Ytpfglhjgjfhkjaa.Mopen
set_option linter.unusedVariables false
open Go Go.Proofs.YtpfglhjgjfhkjaaW.PrintWords

/-- What a datum of type t, of a depth up to F, is. -/
def OpensN {α : Type} (P : Program) (F : Nat) (d : Kd α) (t : TypeId) (I : α → Prop) : Prop :=
  ∀ (H : Type) (enc : TypeId × Value → H) (w : World) (base : Nat) (spare : Nat → Bool) (held : Bool) (fuel : Nat) (cs : List Value) (x : DataW H × List MemPlace),
    fuel ≤ F → DataW.trod enc P w base spare held fuel t cs = some x → ∃ y, d.K w y cs ∧ I y
variable {P : Program} {F : Nat} {t e : TypeId} {α β : Type}
theorem o_le {d : Kd α} {I : α → Prop} {G : Nat} (hg : G ≤ F) (h : OpensN P F d t I) : OpensN P G d t I := fun H enc w b s hd fu cs x hf hx => h H enc w b s hd fu cs x (Nat.le_trans hf hg) hx
theorem o_imp {d : Kd α} {I J : α → Prop} (hi : ∀ y, I y → J y) (h : OpensN P F d t I) : OpensN P F d t J := fun H enc w b s hd fu cs x hf hx => by
  obtain ⟨y, h1, h2⟩ := h H enc w b s hd fu cs x hf hx
  exact ⟨y, h1, hi y h2⟩
theorem o_int {k : IntKind} (ht : P.underlying t = some (.int k)) : OpensN P F (Kd.int k) t (fun n => (Lit.int k n).wf = true) := fun H enc w b s hd fu cs x _ hx => by
  obtain ⟨n, rfl, _, hw⟩ := DataW.trod_int ht hx
  exact ⟨n, rfl, hw⟩
theorem o_bool (ht : P.underlying t = some .bool) : OpensN P F Kd.bool t (fun _ => True) := fun H enc w b s hd fu cs x _ hx => by
  obtain ⟨n, rfl, _⟩ := DataW.trod_bool ht hx
  exact ⟨n, rfl, trivial⟩
theorem o_string (ht : P.underlying t = some .string) : OpensN P F Kd.string t (fun s => s.size ≤ maxLen) := fun H enc w b s hd fu cs x _ hx => by
  obtain ⟨n, rfl, _, hw⟩ := DataW.trod_string ht hx
  exact ⟨n, rfl, hw⟩
theorem o_slice {d : Kd α} {I : α → Prop} (ht : P.underlying t = some (.slice e)) (hs : P.cellsOf e = d.sz) (e' : Nat) (h : OpensN P F d e I) :
    OpensN P (F + 1) (Kd.slice e' d) t (fun xs => xs.length ≤ maxLen ∧ ∀ x ∈ xs, I x) := fun H enc w b s hd fu cs x hf hx => by
  rcases DataW.trod_slice ht hx with ⟨rfl, _⟩ | ⟨a, len, cap, elems, rest, n, rfl, rfl, _, hb, hl, hm, hlen, hel, _, _⟩
  · exact ⟨[], ⟨none, 0, rfl, Nat.le_refl _, Kd.C_nil _ _⟩, by simp, by simp⟩
  · have each : ∀ i : Fin len, ∃ y : α, ∃ c : List Value, d.K w y c ∧ I y ∧ c.length = d.sz ∧ ∀ j u, c[j]? = some u → w.cell? (a.add (i.val * d.sz + j)) = some u := by
      intro i
      have h1 := hel i.val i.isLt
      rw [List.getElem?_eq_getElem (by omega)] at h1
      obtain ⟨c, hc, hy⟩ := Option.bind_eq_some_iff.mp h1
      obtain ⟨y, hk, hi⟩ := h H enc w b s hd n c _ (by omega) hy
      obtain ⟨_, hcl, hcell⟩ := World.cells?_some hc
      refine ⟨y, c, hk, hi, by rw [hcl, hs], fun j u hu => ?_⟩
      have hj : j < c.length := (List.getElem?_eq_some_iff.1 hu).1
      have := hcell j (by omega)
      rw [Addr.add_add, hs] at this
      rw [this, hu]
    obtain ⟨f, hf2⟩ := Classical.axiomOfChoice each
    have hlf : (List.ofFn f).length = len := by simp
    refine ⟨List.ofFn f, ⟨some a, cap, by rw [hlf], by rw [hlf]; exact hl, ?_⟩, by rw [hlf]; omega, ?_⟩
    · refine ⟨rfl, by rw [hlf]; have : maxLen ≤ 9223372036854775807 := by decide
                      omega, fun _ => ⟨a, rfl, fun j p hp => ?_⟩⟩
      obtain ⟨hj, rfl⟩ := List.getElem?_eq_some_iff.1 hp
      rw [List.getElem_ofFn]
      obtain ⟨c, h1, _, h2, h3⟩ := hf2 ⟨j, by omega⟩
      exact ⟨c, h2, h1, h3⟩
    · intro y hy
      rw [List.mem_ofFn] at hy
      obtain ⟨i, rfl⟩ := hy
      obtain ⟨c, _, h1, _⟩ := hf2 i
      exact h1
theorem o_iso {d : Kd α} {I : α → Prop} (f : β → α) (g : α → β) (hfg : ∀ x, f (g x) = x) (h : OpensN P F d t I) : OpensN P F (Kd.iso d f) t (fun y => I (f y)) := fun H enc w b s hd fu cs x hf hx => by
  obtain ⟨y, h1, h2⟩ := h H enc w b s hd fu cs x hf hx
  refine ⟨g y, ?_, ?_⟩
  · show d.K w (f (g y)) cs
    rw [hfg]; exact h1
  · show I (f (g y))
    rw [hfg]; exact h2
/-- The same of fields that follow one another, from the cell 'off' on. -/
def FieldsN {α : Type} (P : Program) (F : Nat) (fs : List Field) (off : Nat) (d : Kd α) (I : α → Prop) : Prop :=
  ∀ (H : Type) (enc : TypeId × Value → H) (w : World) (base : Nat) (spare : Nat → Bool) (held : Bool) (n : Nat) (cs : List Value) (xs : List (DataW H × List MemPlace)),
    n ≤ F → xs.length = fs.length → (∀ (i : Nat) (f : Field), fs[i]? = some f → DataW.trod enc P w base spare held n f.type ((cs.drop f.offset).take (P.cellsOf f.type)) = xs[i]?) → ∃ y, d.K w y ((cs.drop off).take d.sz) ∧ I y
theorem f_one {f : Field} {off : Nat} {d : Kd α} {I : α → Prop} (ho : f.offset = off) (hs : P.cellsOf f.type = d.sz) (h : OpensN P F d f.type I) : FieldsN P F [f] off d I := fun H enc w b s hd n cs xs hn hl he => by
  obtain ⟨x, rfl⟩ : ∃ x, xs = [x] := List.length_eq_one_iff.mp hl
  have := he 0 f rfl
  rw [ho, hs] at this
  exact h H enc w b s hd n _ _ hn this
theorem f_cons {f : Field} {fs : List Field} {off : Nat} {a : Kd α} {b : Kd β} {I : α → Prop} {J : β → Prop} (ho : f.offset = off) (hs : P.cellsOf f.type = a.sz) (h : OpensN P F a f.type I) (hr : FieldsN P F fs (off + a.sz) b J) :
    FieldsN P F (f :: fs) off (Kd.pair a b) (fun x => I x.1 ∧ J x.2) := fun H enc w bs s hd n cs xs hn hl he => by
  obtain ⟨x, xs, rfl⟩ : ∃ x l, xs = x :: l := by
    cases xs with
    | nil => simp at hl
    | cons x l => exact ⟨x, l, rfl⟩
  have h0 := he 0 f rfl
  rw [ho, hs] at h0
  obtain ⟨y, hy, hi⟩ := h H enc w bs s hd n _ _ hn h0
  obtain ⟨z, hz, hj⟩ := hr H enc w bs s hd n cs xs hn (by simpa using hl) (fun i g hg => he (i + 1) g hg)
  refine ⟨(y, z), ⟨_, _, ?_, hy, hz⟩, hi, hj⟩
  show (cs.drop off).take (a.sz + b.sz) = _
  rw [List.take_add, List.drop_drop]
theorem o_struct {fs : Array Field} {l : List Field} {d : Kd α} {I : α → Prop} (ht : P.underlying t = some (.struct fs)) (hl : fs.toList = l) (hs : P.cellsOf t = d.sz) (h : FieldsN P F l 0 d I) : OpensN P (F + 1) d t I := fun H enc w b s hd fu cs x hf hx => by
  obtain ⟨xs, n, rfl, _, hc, hx2, he⟩ := DataW.trod_struct ht hx
  subst hl
  obtain ⟨y, hy, hi⟩ := h H enc w b s hd n cs xs (by omega) (by simpa using hx2) (fun i f hf => he i f (by simpa using hf))
  rw [List.drop_zero, List.take_of_length_le (by omega)] at hy
  exact ⟨y, hy, hi⟩
/-! ### for data of any depth -/
def Opens {α : Type} (P : Program) (d : Kd α) (t : TypeId) (I : α → Prop) : Prop := ∀ F, OpensN P F d t I
def Fields {α : Type} (P : Program) (fs : List Field) (off : Nat) (d : Kd α) (I : α → Prop) : Prop := ∀ F, FieldsN P F fs off d I
theorem O_int {k : IntKind} (ht : P.underlying t = some (.int k)) : Opens P (Kd.int k) t (fun n => (Lit.int k n).wf = true) := fun _ => o_int ht
theorem O_bool (ht : P.underlying t = some .bool) : Opens P Kd.bool t (fun _ => True) := fun _ => o_bool ht
theorem O_string (ht : P.underlying t = some .string) : Opens P Kd.string t (fun s => s.size ≤ maxLen) := fun _ => o_string ht
theorem O_slice {d : Kd α} {I : α → Prop} (ht : P.underlying t = some (.slice e)) (hs : P.cellsOf e = d.sz) (e' : Nat) (h : Opens P d e I) : Opens P (Kd.slice e' d) t (fun xs => xs.length ≤ maxLen ∧ ∀ x ∈ xs, I x) := fun F => o_le (Nat.le_succ F) (o_slice ht hs e' (h F))
theorem O_iso {d : Kd α} {I : α → Prop} (f : β → α) (g : α → β) (hfg : ∀ x, f (g x) = x) (h : Opens P d t I) : Opens P (Kd.iso d f) t (fun y => I (f y)) := fun F => o_iso f g hfg (h F)
theorem Fs_one {f : Field} {off : Nat} {d : Kd α} {I : α → Prop} (ho : f.offset = off) (hs : P.cellsOf f.type = d.sz) (h : Opens P d f.type I) : Fields P [f] off d I := fun F => f_one ho hs (h F)
theorem Fs_cons {f : Field} {fs : List Field} {off : Nat} {a : Kd α} {b : Kd β} {I : α → Prop} {J : β → Prop} (ho : f.offset = off) (hs : P.cellsOf f.type = a.sz) (h : Opens P a f.type I) (hr : Fields P fs (off + a.sz) b J) :
    Fields P (f :: fs) off (Kd.pair a b) (fun x => I x.1 ∧ J x.2) := fun F => f_cons ho hs (h F) (hr F)
theorem O_struct {fs : Array Field} {d : Kd α} {I : α → Prop} (ht : P.underlying t = some (.struct fs)) (hs : P.cellsOf t = d.sz) (h : Fields P fs.toList 0 d I) : Opens P d t I := fun F => o_le (Nat.le_succ F) (o_struct ht rfl hs (h F))
theorem o_zero {d : Kd α} {I : α → Prop} : OpensN P 0 d t I := fun H enc w b s hd fu cs x hf hx => by
  obtain rfl : fu = 0 := by omega
  simp [DataW.trod] at hx
theorem O_fix {G : Kd α → Kd α} {sz : Nat} {E : List Nat} {hs : ∀ n, (Kd.upto G sz E n).sz = sz} {hE : ∀ n q, q ∈ (Kd.upto G sz E n).E → q ∈ E} {I : α → Prop}
    (h : ∀ n F, OpensN P F (Kd.upto G sz E n) t I → OpensN P (F + 1) (G (Kd.upto G sz E n)) t I) : Opens P (Kd.fix G sz E hs hE) t I := fun F => by
  have h0 : ∀ F, OpensN P F (Kd.upto G sz E F) t I := fun F => by
    induction F with
    | zero => exact o_zero
    | succ F ih => exact h F F ih
  intro H enc w b s hd fu cs x hf hx
  obtain ⟨y, hy, hi⟩ := h0 F H enc w b s hd fu cs x hf hx
  exact ⟨y, ⟨F, hy⟩, hi⟩
/-- A row that came in, as one list. -/
theorem row_of {d : Kd α} {I : α → Prop} {H : Type} {enc : TypeId × Value → H} {w : World} {base : Nat} {spare : Nat → Bool} {held : Bool} {a : Option Addr} {len cap : Nat} {D : DataW H} {ps : List MemPlace}
    (ht : P.underlying t = some (.slice e)) (hs : P.cellsOf e = d.sz) (h : Opens P d e I) (hk : DataW.Trod enc P w base spare held t (.slice a len cap) D ps) :
    ∃ l : List α, l.length = len ∧ len ≤ cap ∧ Kd.C d w a l.length l ∧ l.length ≤ maxLen ∧ ∀ x ∈ l, I x := by
  obtain ⟨fuel, hf⟩ := hk
  have hcs : (Value.slice a len cap).cells.toList = [.slice a len cap] := by simp [Value.cells]
  rw [hcs] at hf
  obtain ⟨l, ⟨A, c, he, hl, hr⟩, hm, hi⟩ := o_slice (e' := 0) ht hs (h fuel) H enc w base spare held fuel _ _ (by omega) hf
  injection he with he _
  injection he with h1 h2 h3
  subst h1; subst h2; subst h3
  exact ⟨l, rfl, hl, hr, hm, hi⟩
end Go.Proofs.Ytpfglhjgjfhkjaa.Mopen
