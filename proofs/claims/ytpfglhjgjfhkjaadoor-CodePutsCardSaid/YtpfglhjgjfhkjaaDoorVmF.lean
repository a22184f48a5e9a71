/- An abstract machine for Go's code, proved right: part 6 of 7. -/
import Derived.Test.YtpfglhjgjfhkjaaDoorVmE
/- Rounds: a loop over a list, with ways out. -/
namespace Go.Proofs.YtpfglhjgjfhkjaaDoorVM
open Go
/-- What one round does: it goes on, or the loop ends so. -/
inductive Stp (σ : Type) where
  | go (s : σ) | out (r : Nat × List A)
def runL {σ α : Type} (g : σ → α → Stp σ) (r : σ → Nat × List A) : σ → List α → Nat × List A
  | s, [] => r s
  | s, a :: l => match g s a with
    | .go s' => runL g r s' l
    | .out R => R
variable {P : Program} {G : List (Nat × TypeId × T)} {ents : List Entry}
theorem Does.run {σ α : Type} {i : Nat} {p : Option (List Bool)} (l : List α) (I : Nat → σ → List A) (g : σ → α → Stp σ) (r : σ → Nat × List A) (Inv : Nat → σ → Prop)
    (hend : ∀ s, Inv l.length s → Does P G ents i p (I l.length s) (r s))
    (hgo : ∀ j (hj : j < l.length) s s', Inv j s → g s l[j] = .go s' → Inv (j + 1) s' ∧ ∀ R, Does P G ents i p (I (j + 1) s') R → Does P G ents i p (I j s) R)
    (hout : ∀ j (hj : j < l.length) s R, Inv j s → g s l[j] = .out R → Does P G ents i p (I j s) R) :
    ∀ (d j : Nat) (s : σ), j + d = l.length → Inv j s → Does P G ents i p (I j s) (runL g r s (l.drop j)) := by
  intro d
  induction d with
  | zero =>
    intro j s hj hi
    have : j = l.length := by omega
    subst this
    rw [List.drop_length]
    exact hend s hi
  | succ d ih =>
    intro j s hj hi
    have hlt : j < l.length := by omega
    rw [List.drop_eq_getElem_cons hlt, runL]
    cases hg : g s l[j] with
    | go s' =>
      obtain ⟨h1, h2⟩ := hgo j hlt s s' hi hg
      exact h2 _ (ih (j + 1) s' (by omega) h1)
    | out R => exact hout j hlt s R hi hg
/-- From the list's front. -/
theorem Does.run0 {σ α : Type} {i : Nat} {p : Option (List Bool)} (l : List α) (I : Nat → σ → List A) (g : σ → α → Stp σ) (r : σ → Nat × List A) (Inv : Nat → σ → Prop)
    (hend : ∀ s, Inv l.length s → Does P G ents i p (I l.length s) (r s))
    (hgo : ∀ j (hj : j < l.length) s s', Inv j s → g s l[j] = .go s' → Inv (j + 1) s' ∧ ∀ R, Does P G ents i p (I (j + 1) s') R → Does P G ents i p (I j s) R)
    (hout : ∀ j (hj : j < l.length) s R, Inv j s → g s l[j] = .out R → Does P G ents i p (I j s) R) (s : σ) (h0 : Inv 0 s) : Does P G ents i p (I 0 s) (runL g r s l) :=
  Does.run l I g r Inv hend hgo hout l.length 0 s (by omega) h0
theorem runL_fold {σ α : Type} (f : σ → α → σ) (r : σ → Nat × List A) : ∀ (l : List α) (s : σ), runL (fun s a => .go (f s a)) r s l = r (l.foldl f s)
  | [], _ => rfl
  | a :: l, s => runL_fold f r l (f s a)
theorem i64nat {n : Nat} (h : n < 9223372036854775808) : IntKind.i64.wrap (n : Int) = (n : Int) := w64 (by omega) (by omega)
theorem i64succ {n : Nat} (h : n < 9223372036854775807) : IntKind.i64.wrap ((n : Int) + 1) = ((n + 1 : Nat) : Int) := by rw [w64 (by omega) (by omega)]; rfl
theorem i64add {a b : Nat} (h : a + b < 9223372036854775808) : IntKind.i64.wrap ((a : Int) + (b : Int)) = ((a + b : Nat) : Int) := by rw [w64 (by omega) (by omega)]; rfl
theorem nb12 : Nat.beq 1 2 = false := id rfl
theorem nb21 : Nat.beq 2 1 = false := id rfl
theorem nb14 : Nat.beq 1 4 = false := id rfl
theorem nb24 : Nat.beq 2 4 = false := id rfl
theorem nb42 : Nat.beq 4 2 = false := id rfl
theorem nb41 : Nat.beq 4 1 = false := id rfl
theorem at_get {l : List T} {j : Nat} (h : j < l.length) : tAtD l j = l[j] := by simp [tAtD, List.getD, h]
end Go.Proofs.YtpfglhjgjfhkjaaDoorVM
