/- An abstract machine for Go's code, proved right. -/
import Derived.Test.YtbejhhoakeapgaaVmA
import Derived.MapKept
import Derived.Laws.Strings
import Derived.Tactics
import Derived.Scope
namespace Go.Proofs.YtbejhhoakeapgaaVM
open Go Go.RowKit
set_option linter.unusedVariables false
set_option linter.unusedSimpArgs false

section
variable {P : Program} {G : Globs} {C : Ctx} {β : Places} {free : Nat → Prop} {N : Nat} {regs : Regs} {look : Look} {a : Act} {W : World} {nm : Nat} {Q : Exit → Act → World → Prop}
def IsBound (v : Option Value) (dflt i : Int) : Prop := (v = none ∧ i = dflt) ∨ ∃ k, v = some (.int k i)
theorem loOf_bound (h : Rel P G C β free N regs look a W) {o : Option Operand} {l : Int} (hl : loOf (evalD G regs) o = some l) : IsBound (o.map a.eval) 0 l := by
  cases o with
  | none => simp [loOf] at hl; exact .inl ⟨rfl, hl.symm⟩
  | some x =>
    simp only [loOf] at hl
    split at hl
    case h_1 k n he => cases hl; exact .inr ⟨k, by simp [ev_int h he]⟩
    case h_2 => cases hl
theorem hiOf_bound (h : Rel P G C β free N regs look a W) {o : Option Operand} {d : Nat} {l : Int} (hl : hiOf (evalD G regs) d o = some l) : IsBound (o.map a.eval) d l := by
  cases o with
  | none => simp [hiOf] at hl; exact .inl ⟨rfl, hl.symm⟩
  | some x =>
    simp only [hiOf] at hl
    split at hl
    case h_1 k n he => cases hl; exact .inr ⟨k, by simp [ev_int h he]⟩
    case h_2 => cases hl
theorem run_sb {k : IntKind} {i : Int} {y : Nat} {code : BoundsCode} (h0 : 0 ≤ i) (h1 : i ≤ (y : Int)) (w : World) : (Instr.sliceBound (.int k i) y code).run P w = .ok i.toNat w := by
  simp [Instr.sliceBound, asIntOf, h0, h1]
theorem run_bounds {isS : Bool} {len cap : Nat} {lo hi : Option Value} {l h : Int} (hlo : IsBound lo 0 l) (hhi : IsBound hi len h) (h0 : 0 ≤ h) (h1 : h ≤ (cap : Int)) (h2 : 0 ≤ l) (h3 : l ≤ h) :
    (Instr.sliceBounds isS len cap lo hi none).run P W = .ok (l.toNat, h.toNat, cap) W := by
  have h3' : l ≤ (h.toNat : Int) := by omega
  rcases hhi with ⟨rfl, rfl⟩ | ⟨k, rfl⟩ <;> rcases hlo with ⟨rfl, rfl⟩ | ⟨k', rfl⟩ <;>
    simp only [Instr.sliceBounds, Sem.run_bind, Sem.run_pure, Result.andThen_ok, run_sb h0 h1, run_sb h2 h3', Int.toNat_natCast, Int.toNat_zero, Option.isSome_none]
  rw [run_sb h2 h3]
  rfl
theorem run_bounds3 {isS : Bool} {len cap : Nat} {lo hi : Option Value} {l h : Int} {k3 : IntKind} (hlo : IsBound lo 0 l) (hhi : ∃ k, hi = some (.int k h)) (h0 : 0 ≤ h) (h1 : h ≤ (cap : Int)) (h2 : 0 ≤ l) (h3 : l ≤ h) :
    (Instr.sliceBounds isS len cap lo hi (some (.int k3 h))).run P W = .ok (l.toNat, h.toNat, h.toNat) W := by
  have h3' : l ≤ (h.toNat : Int) := by omega
  have h4 : h ≤ (h.toNat : Int) := by omega
  obtain ⟨k, rfl⟩ := hhi
  rcases hlo with ⟨rfl, rfl⟩ | ⟨k', rfl⟩ <;>
    simp only [Instr.sliceBounds, Sem.run_bind, Sem.run_pure, Result.andThen_ok, run_sb h0 h1, run_sb h0 h4, run_sb h2 h3', Int.toNat_zero]
theorem run_sliceAt {t e : TypeId} {s len cap : Nat} {ad : Option Addr} {lo hi mx : Option Value} {l h m : Nat} (ht : P.underlying t = some (.slice e)) (hs : csz P e = some s) (hb : (Instr.sliceBounds true len cap lo hi mx).run P W = .ok (l, h, m) W) :
    (Instr.sliceAt t (.slice ad len cap) lo hi mx).run P W = .ok (.slice (if m = l then ad else ad.map (·.add (l * s))) (h - l) (m - l)) W := by
  simp only [Instr.sliceAt, Sem.run_bind, run_und ht, Result.andThen_ok, Instr.slice, hb, run_sizeOf' hs]
  rfl
theorem run_sliceStr {t : TypeId} {s : ByteArray} {lo hi : Option Value} {l h m : Nat} (ht : P.underlying t = some .string) (hb : (Instr.sliceBounds false s.size s.size lo hi none).run P W = .ok (l, h, m) W) :
    (Instr.sliceAt t (.string s) lo hi none).run P W = .ok (.string (s.extract l h)) W := by
  simp [Instr.sliceAt, Sem.run_bind, run_und ht, Instr.slice, hb]
theorem run_sliceArr {t e : TypeId} {n s b o : Nat} {lo hi : Option Value} {l h m : Nat} (ht : P.underlying t = some (.array n e)) (hs : csz P e = some s) (hb : (Instr.sliceBounds false n n lo hi none).run P W = .ok (l, h, m) W) :
    (Instr.sliceAt t (.pointer (some ⟨b, o, none⟩)) lo hi none).run P W = .ok (.slice (some (if m = l then ⟨b, o, none⟩ else ⟨b, o + l * s, none⟩)) (h - l) (m - l)) W := by
  simp only [Instr.sliceAt, Sem.run_bind, run_und ht, Result.andThen_ok, Instr.sureAddr, Sem.run_pure, hb, run_sizeOf' hs, add_none]
theorem zeroOp_some {o : Option Operand} (h : zeroOp o = true) : ∃ k, o = some (.const (.int k 0)) := by
  unfold zeroOp at h
  split at h
  case h_1 k => exact ⟨k, rfl⟩
  case h_2 => cases h
theorem PRow.sub {ok : Nat → Prop} {e : TypeId} {xs : List T} {ad : Option Addr} {s : Nat} (h : PRow P W ok e xs ad) (hs : csz P e = some s) (l h' : Nat) (hl : l ≤ h') (hh : h' ≤ xs.length) : PRow P W ok e ((xs.take h').drop l) (ad.map (·.add (l * s))) := by
  cases h with
  | nil =>
    have : (([] : List T).take h').drop l = [] := by simp
    rw [this]; exact .nil
  | mk h1 h2 h3 h4 h5 =>
    rename_i b off s' c el fr
    rw [hs] at h1; cases h1
    show PRow P W ok e _ (some ((⟨b, off, none⟩ : Addr).add (l * s)))
    rw [add_none]
    refine .mk hs h2 h3 h4 (fun i x hx => ?_)
    rw [List.getElem?_drop, List.getElem?_take] at hx
    split at hx
    · have := h5 (l + i) x hx
      rw [Nat.add_mul, ← Nat.add_assoc] at this
      exact this
    · cases hx
theorem arr_inv {ok : Nat → Prop} {τ : TypeId} {t : T} {cs : List Value} {N : Nat} {e : TypeId} {s : Nat} (h : PRep P W ok τ t cs) (ha : arrOf P τ = some (N, e, s)) : cs.length = N * s ∧ ∀ i, i < N → PRep P W ok e (t.get i) ((cs.drop (i * s)).take s) := by
  obtain ⟨_, _, _, _, hF⟩ := arrOf_agg ha
  cases h with
  | arr e1 e2 e3 => rw [ha] at e1; cases e1; exact ⟨e2, e3⟩
  | int e1 => rw [hF] at e1; cases e1
  | bool e1 => rw [hF] at e1; cases e1
  | str e1 => rw [hF] at e1; cases e1
  | slice e1 => rw [hF] at e1; cases e1
  | struct e1 => rw [arr_fields ha] at e1; cases e1
theorem opv_slice (h : Rel P G C β free N regs look a W) {o : Oper} {t : TypeId} {x : Operand} {lo hi mx : Option Operand} (ho : o.op = .slice t x lo hi mx) {r : OR} {u : OpOut}
    (hr : sliceD P look (evalD G regs) t (evalD G regs x) lo hi mx = some r) (hu : r.get = some u) : o.wp P a W (Nxt P G C β free N regs look o.dst nm u) Q := by
  generalize hx : evalD G regs x = dx at hr
  have he : ∀ v, (Instr.sliceAt t (a.eval x) (lo.map a.eval) (hi.map a.eval) (mx.map a.eval)).run P W = .ok v W → (execOp a.eval o).run P W = .ok (.value v) W := by
    intro v hv
    simp only [execOp, ho, Sem.run_bind, hv]; rfl
  have hesz : ∀ {e : TypeId} {xs : List T} {n : Nat}, look n = some (.row e xs) → ∃ s, csz P e = some s := fun hl => by
    obtain ⟨pl, _, h1⟩ := h.objs _ _ hl
    exact ⟨_, h1.2.1⟩
  unfold sliceD at hr
  split at hr
  case h_1 ht =>
    split at hr
    case h_1 s =>
      unfold sliceStr at hr
      split at hr
      case h_1 l hh hlo hhi =>
        cases hr
        obtain ⟨hc, rfl⟩ := need_get hu
        simp only [Bool.and_eq_true, decide_eq_true_eq] at hc
        refine wp_pure h (he _ ?_) rv_str
        rw [ev_str h hx]
        exact run_sliceStr ht (run_bounds (loOf_bound h hlo) (hiOf_bound h hhi) hc.1.1.1 hc.1.1.2 hc.1.2 hc.2)
      case h_2 => cases hr
    case h_2 => cases hr
  case h_2 e ht =>
    obtain ⟨s, hs⟩ := Option.isSome_iff_exists.1 (bif_some hr).1
    replace hr := (bif_some hr).2
    cases hz : (zeroOp hi && zeroOp mx && (zeroOp lo || lo.isNone)) with
    | true =>
      rw [hz] at hr
      simp only [cond_true] at hr
      simp only [Bool.and_eq_true, Bool.or_eq_true] at hz
      obtain ⟨k1, rfl⟩ := zeroOp_some hz.1.1
      obtain ⟨k2, rfl⟩ := zeroOp_some hz.1.2
      have hlo : IsBound (lo.map a.eval) 0 0 := by
        rcases hz.2 with h1 | h1
        · obtain ⟨k3, rfl⟩ := zeroOp_some h1
          exact .inr ⟨k3, rfl⟩
        · cases lo with
          | none => exact .inl ⟨rfl, rfl⟩
          | some _ => cases h1
      have fin : ∀ ad len cap, a.eval x = .slice ad len cap → ∀ tc, u = { d := .emp, touch := tc } → o.wp P a W (Nxt P G C β free N regs look o.dst nm u) Q := by
        intro ad len cap hv tc hu'
        have hbd := run_bounds3 (P := P) (W := W) (isS := true) (len := len) (cap := cap) (k3 := k2) hlo ⟨k1, rfl⟩ (Int.le_refl 0) (by omega) (Int.le_refl 0) (Int.le_refl 0)
        have hrun := run_sliceAt (ad := ad) ht hs hbd
        subst hu'
        refine wp_pure h (he _ (by rw [hv]; exact hrun)) (RV_scalar ⟨ad, by simp⟩ rfl)
      have lie : ∀ {d : D} {xs : List T} {e : TypeId} {tc : List Nat}, elemsD look d = some (xs, e, tc) → evalD G regs x = d → ∃ ad cap, a.eval x = .slice ad xs.length cap := fun hel hd => by
        obtain ⟨ad, cap, h1, _⟩ := elems_lie h (hd ▸ rv_eval h x) hel
        exact ⟨ad, cap, h1⟩
      unfold sliceNil at hr
      split at hr
      case h_1 xs e' c =>
        replace hr := (bif_some hr).2
        cases hr; cases done_get hu
        obtain ⟨ad, cap, h1⟩ := lie (d := .row xs e' c) rfl hx
        exact fin _ _ _ h1 _ rfl
      case h_2 n =>
        split at hr
        case h_1 e' xs hl =>
          replace hr := (bif_some hr).2
          cases hr; cases done_get hu
          obtain ⟨ad, cap, h1⟩ := lie (d := .own n) (by simp [elemsD, hl]; exact ⟨rfl, rfl, rfl⟩) hx
          exact fin _ _ _ h1 _ rfl
        case h_2 => cases hr
      case h_3 n lo0 len =>
        split at hr
        case h_1 e' xs hl =>
          replace hr := (bif_some hr).2
          cases hr; cases done_get hu
          obtain ⟨ad, cap, h1⟩ := lie (d := .sub n lo0 len) (by simp [elemsD, hl]; exact ⟨rfl, rfl, rfl⟩) hx
          exact fin _ _ _ h1 _ rfl
        case h_2 => cases hr
      case h_4 =>
        cases hr; cases done_get hu
        have := ev_scalar h hx rfl
        simp [RC] at this
        exact fin _ _ _ this _ rfl
      case h_5 =>
        cases hr; cases done_get hu
        obtain ⟨ad, h1⟩ := ev_scalar h hx rfl
        injection h1 with h1 _
        exact fin _ _ _ h1 _ rfl
      case h_6 => cases hr
    | false =>
      rw [hz] at hr
      simp only [cond_false] at hr
      unfold sliceRow at hr
      split at hr
      case h_1 xs e' c =>
        split at hr
        case h_1 l hh hlo hhi =>
          have hb := beqN (bif_some hr).1
          replace hr := (bif_some hr).2
          subst hb
          obtain ⟨ad, cap, h1, h2, h3, h4⟩ := ev_scalar h hx rfl
          injection h1 with h1 _
          split at hr
          case h_1 =>
            cases hr
            obtain ⟨hc, rfl⟩ := need_get hu
            simp only [Bool.and_eq_true, decide_eq_true_eq] at hc
            have hrun := run_sliceAt (ad := ad) ht hs (run_bounds (P := P) (W := W) (isS := true) (loOf_bound h hlo) (hiOf_bound h hhi) hc.1.1.1 (show hh ≤ (cap : Int) by omega) hc.1.2 hc.2)
            refine wp_pure h (he _ (by rw [h1]; exact hrun)) (RV_scalar ?_ rfl)
            have hlen : ((xs.take hh.toNat).drop l.toNat).length = hh.toNat - l.toNat := by rw [List.length_drop, List.length_take]; omega
            refine ⟨_, _, by rw [hlen], ?_, by rw [hlen]; omega, fun hcl => ?_⟩
            · by_cases hm : cap = l.toNat
              · have : (xs.take hh.toNat).drop l.toNat = [] := List.eq_nil_of_length_eq_zero (by rw [hlen]; omega)
                rw [this]; exact .nil
              · rw [if_neg hm]
                exact PRow.sub h2 hs _ _ (by omega) (by omega)
            · simp only [Bool.and_eq_true] at hcl
              have := h4 hcl.1
              rw [hlen]
              cases hi with
              | none => simp [hiOf] at hhi; subst hhi; omega
              | some _ => simp at hcl
          case h_2 m =>
            split at hr
            case h_1 hi' k3 mm hm =>
              cases hr
              obtain ⟨hc, rfl⟩ := need_get hu
              simp only [Bool.and_eq_true, decide_eq_true_eq] at hc
              obtain ⟨⟨⟨⟨rfl, hc1⟩, hc2⟩, hc3⟩, hc4⟩ := hc
              have hhb : ∃ k, (some hi').map a.eval = some (.int k mm) := by
                rcases hiOf_bound h hhi with ⟨h5, _⟩ | h5
                · cases h5
                · exact h5
              have hmb : a.eval m = .int k3 mm := ev_int h hm
              have hrun := run_sliceAt (ad := ad) ht hs (run_bounds3 (P := P) (W := W) (isS := true) (k3 := k3) (len := xs.length) (loOf_bound h hlo) hhb hc1 (show mm ≤ (cap : Int) by omega) hc3 hc4)
              refine wp_pure h (he _ (by rw [h1]; simp only [Option.map_some, hmb] at hrun ⊢; exact hrun)) (RV_scalar ?_ rfl)
              have hlen : ((xs.take mm.toNat).drop l.toNat).length = mm.toNat - l.toNat := by rw [List.length_drop, List.length_take]; omega
              refine ⟨_, _, by rw [hlen], ?_, by rw [hlen]; omega, fun hcl => by rw [hlen]⟩
              by_cases hm : mm.toNat = l.toNat
              · have : (xs.take mm.toNat).drop l.toNat = [] := List.eq_nil_of_length_eq_zero (by rw [hlen]; omega)
                rw [this]; exact .nil
              · rw [if_neg hm]
                exact PRow.sub h2 hs _ _ (by omega) (by omega)
            case h_2 => cases hr
        case h_2 => cases hr
      case h_2 n =>
        split at hr
        case h_1 e' xs hl =>
          split at hr
          case h_1 l hh hlo hhi =>
            have hb := beqN (bif_some hr).1
            replace hr := (bif_some hr).2
            subst hb
            cases hr
            obtain ⟨hc, rfl⟩ := need_get hu
            simp only [Bool.and_eq_true, decide_eq_true_eq] at hc
            obtain ⟨pl, h1, h2⟩ := ev_scalar h hx rfl
            obtain ⟨pl', h3, h4, h5, h6, h7, h8⟩ := h.objs n _ hl
            rw [h1] at h3; cases h3
            replace h5 : csz P e = some pl.sz := h5
            rw [hs] at h5
            have hsz : s = pl.sz := Option.some.inj h5
            cases hv : pl.virt with
            | true =>
              rw [hv] at h2
              obtain ⟨ad, h2⟩ := h2
              injection h2 with h2 _
              have := h7 hv
              subst this
              simp at hc
              have hl0 : l = 0 := by omega
              have hh0 : hh = 0 := by omega
              subst hl0; subst hh0
              have hrun := run_sliceAt (ad := ad) ht hs (run_bounds (P := P) (W := W) (isS := true) (cap := 0) (loOf_bound h hlo) (hiOf_bound h hhi) (Int.le_refl 0) (by simp) (Int.le_refl 0) (Int.le_refl 0))
              refine wp_pure h (he _ (by rw [h2]; exact hrun)) (RV_scalar ⟨pl, h1, by simp, .inl ⟨by simp, ad, by simp⟩⟩ rfl)
            | false =>
              rw [hv] at h2
              simp only [Bool.false_eq_true, if_false] at h2
              obtain ⟨cap, h9, h10, h11⟩ := h2
              injection h9 with h9 _
              have hrun := run_sliceAt (ad := some ⟨pl.b, pl.off, none⟩) ht hs (run_bounds (P := P) (W := W) (isS := true) (len := pl.len) (cap := cap) (loOf_bound h hlo) (by rw [h4]; exact hiOf_bound h hhi) hc.1.1.1 (by omega) hc.1.2 hc.2)
              refine wp_pure h (he _ (by rw [h9]; exact hrun)) (RV_scalar ⟨pl, h1, by omega, ?_⟩ rfl)
              by_cases hm : cap = l.toNat
              · left
                exact ⟨by omega, _, by rw [show hh.toNat - l.toNat = 0 by omega, show cap - l.toNat = 0 by omega]⟩
              · right
                refine ⟨hv, cap - l.toNat, by rw [if_neg hm]; simp only [Option.map_some, add_none, hsz], by omega, ?_⟩
                rw [show l.toNat + (cap - l.toNat) = cap by omega]
                exact h11
          case h_2 => cases hr
        case h_2 => cases hr
      case h_3 n lo0 len =>
        split at hr
        case h_1 e' xs hl =>
          split at hr
          case h_1 l hh hlo hhi =>
            have hb := beqN (bif_some hr).1
            replace hr := (bif_some hr).2
            subst hb
            cases hr
            obtain ⟨hc, rfl⟩ := need_get hu
            simp only [Bool.and_eq_true, decide_eq_true_eq] at hc
            obtain ⟨pl, h1, hll, h2⟩ := ev_scalar h hx rfl
            obtain ⟨pl', h3, h4, h5, h6, h7, h8⟩ := h.objs n _ hl
            rw [h1] at h3; cases h3
            replace h5 : csz P e = some pl.sz := h5
            rw [hs] at h5
            have hsz : s = pl.sz := Option.some.inj h5
            rcases h2 with ⟨rfl, ad, h2⟩ | ⟨hv, cap, h9, h10, h11⟩
            · injection h2 with h2 _
              have hl0 : l = 0 := by omega
              have hh0 : hh = 0 := by omega
              subst hl0; subst hh0
              have hrun := run_sliceAt (ad := ad) ht hs (run_bounds (P := P) (W := W) (isS := true) (cap := 0) (loOf_bound h hlo) (hiOf_bound h hhi) (Int.le_refl 0) (by simp) (Int.le_refl 0) (Int.le_refl 0))
              refine wp_pure h (he _ (by rw [h2]; exact hrun)) (RV_scalar ⟨pl, h1, by simpa using hll, .inl ⟨by simp, ad, by simp⟩⟩ rfl)
            · injection h9 with h9 _
              have hrun := run_sliceAt (ad := some ⟨pl.b, pl.off + lo0 * pl.sz, none⟩) ht hs (run_bounds (P := P) (W := W) (isS := true) (len := len) (cap := cap) (loOf_bound h hlo) (hiOf_bound h hhi) hc.1.1.1 (by omega) hc.1.2 hc.2)
              refine wp_pure h (he _ (by rw [h9]; exact hrun)) (RV_scalar ⟨pl, h1, by omega, ?_⟩ rfl)
              by_cases hm : cap = l.toNat
              · left
                exact ⟨by omega, _, by rw [show hh.toNat - l.toNat = 0 by omega, show cap - l.toNat = 0 by omega]⟩
              · right
                refine ⟨hv, cap - l.toNat, by rw [if_neg hm]; simp only [Option.map_some, add_none, hsz, Nat.add_mul, Nat.add_assoc], by omega, ?_⟩
                rw [show lo0 + l.toNat + (cap - l.toNat) = lo0 + cap by omega]
                exact h11
          case h_2 => cases hr
        case h_2 => cases hr
      case h_4 => cases hr
  case h_3 M' e ht =>
    split at hr
    case h_1 =>
      unfold sliceArr at hr
      split at hr
      case h_1 n τ =>
        split at hr
        case h_1 N' e' z τ' τ'' tr har hl =>
          split at hr
          case h_1 l hh hlo hhi =>
            have hb := (bif_some hr).1
            replace hr := (bif_some hr).2
            simp only [Bool.and_eq_true] at hb
            have := beqN hb.1.1; subst this
            have := beqN hb.1.2; subst this
            have := beqN hb.2; subst this
            cases hr
            obtain ⟨hc, rfl⟩ := need_get hu
            simp only [Bool.and_eq_true, decide_eq_true_eq] at hc
            obtain ⟨g1, g2, g3, g4, hF⟩ := arrOf_agg har
            obtain ⟨pl, off, h1, h2, h3, h4⟩ := ev_scalar h hx rfl
            injection h1 with h1 _
            simp only [poff, Option.some.injEq] at h4
            subst h4
            obtain ⟨pl', h5, h6, c, el, fr, h7, h8, h9, h10, h11⟩ := h.objs n _ hl
            rw [h2] at h5; cases h5
            obtain ⟨q1, q2, q3⟩ := h10
            have hrun := run_sliceArr (P := P) (W := W) (b := pl.b) (o := 0) hF g3 (run_bounds (isS := false) (loOf_bound h hlo) (hiOf_bound h hhi) hc.1.1.1 hc.1.1.2 hc.1.2 hc.2)
            refine wp_value (he _ (by rw [h1]; exact hrun)) ?_
            refine nxt_gone h (Wr.refl _ W) (frz := [n]) (fun hle => RV_scalar ?_ rfl)
            have hok' : okOf C β (updF look (goneAll [n])) pl.b := frz_ok h hl rfl h2 h3 (fun m p' hm hp' hv' => by
              rw [updF_gone] at hm
              split at hm
              · exact absurd rfl hm
              · rename_i hne
                exact .inl ⟨fun e => hne (by simp [e]), hm, hp'⟩)
            have hlen : (((List.range N').map tr.get |>.take hh.toNat).drop l.toNat).length = hh.toNat - l.toNat := by rw [List.length_drop, List.length_take, List.length_map, List.length_range]; omega
            refine ⟨_, _, by rw [hlen], ?_, by rw [hlen]; omega, fun hcl => by cases hcl⟩
            have hwhole : PRow P W (okOf C β (updF look (goneAll [n]))) e' ((List.range N').map tr.get) (some ⟨pl.b, 0, none⟩) := by
              refine .mk g3 g4 hok' h7 (fun i y hy => ?_)
              have hi : i < N' := by have := (List.getElem?_eq_some_iff.1 hy).1; simpa using this
              have hy' : y = tr.get i := by simp [hi] at hy; exact hy.symm
              subst hy'
              rw [Nat.zero_add]
              exact ((arr_inv q1 har).2 i hi).stay hle.stay
            by_cases hm : N' = l.toNat
            · have : ((List.range N').map tr.get |>.take hh.toNat).drop l.toNat = [] := List.eq_nil_of_length_eq_zero (by rw [hlen]; omega)
              rw [this]; exact .nil
            · rw [if_neg hm]
              have := PRow.sub hwhole g3 l.toNat hh.toNat (by omega) (by simp; omega)
              show PRow P W (okOf C β (updF look (goneAll [n]))) e' _ _
              simpa [add_none] using this
          case h_2 => cases hr
        case h_2 => cases hr
      case h_2 => cases hr
    case h_2 => cases hr
  case h_4 => cases hr
end
end Go.Proofs.YtbejhhoakeapgaaVM
namespace Go.Proofs.YtbejhhoakeapgaaVM
open Go Go.RowKit
set_option linter.unusedVariables false
set_option linter.unusedSimpArgs false

section
variable {P : Program} {G : Globs} {C : Ctx} {β : Places} {free : Nat → Prop} {N : Nat} {regs : Regs} {look : Look} {a : Act} {W : World} {nm : Nat} {Q : Exit → Act → World → Prop}
structure Adds (P : Program) (W : World) (ok : Nat → Prop) (e : TypeId) (s : Nat) (ys : List T) (v : Value) (cs : List Value) : Prop where
  len : cs.length = ys.length * s
  lenOf : (Builtin.lenOf v).run P W = .ok ys.length W
  first : ∀ (w : World), w.heap = W.heap → (Builtin.firstCells s ys.length v).run P w = .ok cs.toArray w
  rep : ∀ i y, ys[i]? = some y → PRep P W ok e y ((cs.drop (i * s)).take s)
  one : ∀ x, x ∈ cs → x.oneCell' = true
theorem adds_read (h : Rel P G C β free N regs look a W) {e s : Nat} (hs : csz P e = some s) {d : D} {v : Value} (hv : RV (memOf P C β look W) β d v) {ys : List T} {tx : List Nat} (hd : addsD P look e d = some (ys, tx)) :
    ∃ cs, Adds P W (okOf C β look) e s ys v cs := by
  have viaRow : ∀ {d : D}, RV (memOf P C β look W) β d v → ∀ {tc : List Nat}, elemsD look d = some (ys, e, tc) → ∃ cs, Adds P W (okOf C β look) e s ys v cs := by
    intro d hv tc hel
    obtain ⟨ad, cap, h1, h2⟩ := elems_lie h hv hel
    obtain ⟨cs, c1, c2, c3, c4, c5⟩ := h2.cells hs
    subst h1
    exact ⟨cs, c1, rfl, fun w hw => c2 w hw cap, c4, c5⟩
  have nil : ∀ ad, v = .slice ad 0 0 → ys = [] → ∃ cs, Adds P W (okOf C β look) e s ys v cs := by
    rintro ad rfl rfl
    refine ⟨[], by simp, rfl, fun w _ => ?_, fun i y hy => by simp at hy, fun x hx => by simp at hx⟩
    cases ad <;> simp [Builtin.firstCells, loadCells, loadCellsFrom]
  unfold addsD at hd
  split at hd
  case h_1 xs e' c =>
    have hb := beqN (bif_some hd).1
    replace hd := (bif_some hd).2
    subst hb; cases hd
    exact viaRow hv rfl
  case h_2 n =>
    split at hd
    case h_1 e' xs hl =>
      have hb := beqN (bif_some hd).1
      replace hd := (bif_some hd).2
      subst hb; cases hd
      exact viaRow hv (by simp [elemsD, hl]; rfl)
    case h_2 => cases hd
  case h_3 n lo len =>
    split at hd
    case h_1 e' xs hl =>
      have hb := beqN (bif_some hd).1
      replace hd := (bif_some hd).2
      subst hb; cases hd
      exact viaRow hv (by simp [elemsD, hl]; rfl)
    case h_2 => cases hd
  case h_4 =>
    cases hd
    have := RV_out hv rfl
    simp [RC] at this
    exact nil none this rfl
  case h_5 =>
    cases hd
    obtain ⟨ad, h1⟩ := RV_out hv rfl
    injection h1 with h1 _
    exact nil ad h1 rfl
  case h_6 str =>
    split at hd
    case h_1 hu8 =>
      cases hd
      have hvs := RV_out hv rfl
      simp [RC] at hvs
      subst hvs
      have hs1 : s = 1 := (csz_spec hs).2.1 (by simp [isAggB, hu8])
      subst hs1
      have hex : str.extract 0 str.size = str := by simp
      refine ⟨str.data.toList.map fun b => .int .u8 b.toNat, by simp [tBytes], ?_, fun w _ => ?_, fun i y hy => ?_, fun x hx => ?_⟩
      · simp [Builtin.lenOf, tBytes]
      · simp only [Builtin.firstCells, tBytes, List.length_map, Array.length_toList]
        rw [show str.data.size = str.size from rfl, hex]
        simp only [Sem.run_pure]
        congr 1
        apply Array.ext'
        simp
      · have hi : i < str.data.size := by have := (List.getElem?_eq_some_iff.1 hy).1; simpa [tBytes] using this
        have hg : str.data[i]? = some str.data[i] := Array.getElem?_eq_getElem hi
        have hy' : (tBytes str)[i]? = some (.int (str.data[i].toNat : Int)) := by simp [tBytes, hg]
        rw [hy'] at hy; cases hy
        rw [Nat.mul_one, take_one (x := .int .u8 (str.data[i].toNat : Int)) (by simp [hg])]
        exact .int (t := .int (str.data[i].toNat : Int)) hu8
      · simp only [List.mem_map] at hx
        obtain ⟨b, _, rfl⟩ := hx; rfl
    case h_2 => cases hd
  case h_7 => cases hd
theorem run_append_in {t t2 ty e s : TypeId} (ht : P.underlying t = some (.slice e)) (hs : csz P e = some s) {d2 : TypeDesc} (ht2 : P.underlying t2 = some d2) (hni : ∀ k, d2 ≠ .int k)
    {b off sLen sCap : Nat} {vx : Value} {n : Nat} {cs : List Value} (hlen : (Builtin.lenOf vx).run P W = .ok n W) (hcs : (Builtin.firstCells s n vx).run P W = .ok cs.toArray W) (hle : sLen + n ≤ sCap) {W' : World}
    (hst : (storeCells ⟨b, off + sLen * s, none⟩ cs).run P W = .ok () W') :
    (Builtin.append_ #[t, t2] ty #[.slice (some ⟨b, off, none⟩) sLen sCap, vx]).run P W = .ok (.slice (some ⟨b, off, none⟩) (sLen + n) sCap) W' := by
  have hm : (match d2 with | .int _ => true | _ => false) = false := by
    cases d2 <;> first | rfl | exact absurd rfl (hni _)
  simp [Builtin.append_, run_und ht, run_sizeOf' hs, run_und ht2, hm, hlen, hle, hcs, add_none, hst]
theorem run_append_same {t t2 ty e s : TypeId} (ht : P.underlying t = some (.slice e)) (hs : csz P e = some s) {d2 : TypeDesc} (ht2 : P.underlying t2 = some d2) (hni : ∀ k, d2 ≠ .int k)
    {ad : Option Addr} {sLen sCap : Nat} {vx : Value} (hlen : (Builtin.lenOf vx).run P W = .ok 0 W) (hcs : (Builtin.firstCells s 0 vx).run P W = .ok #[] W) (hle : sLen ≤ sCap) :
    (Builtin.append_ #[t, t2] ty #[.slice ad sLen sCap, vx]).run P W = .ok (.slice ad sLen sCap) W := by
  have hm : (match d2 with | .int _ => true | _ => false) = false := by
    cases d2 <;> first | rfl | exact absurd rfl (hni _)
  cases ad <;> simp [Builtin.append_, run_und ht, run_sizeOf' hs, run_und ht2, hm, hlen, hle, hcs, storeCells]
theorem run_append_new {t t2 ty e s : TypeId} (ht : P.underlying t = some (.slice e)) (hs : csz P e = some s) {d2 : TypeDesc} (ht2 : P.underlying t2 = some d2) (hni : ∀ k, d2 ≠ .int k) {i : TypeInfo} {z : Value} (hi : P.info? e = some i) (hz : i.zero = some z) (hby : i.bytes ≤ 65536)
    {ad : Option Addr} {sLen sCap : Nat} {vx : Value} {n : Nat} {cs olds : List Value} (hlen : (Builtin.lenOf vx).run P W = .ok n W) (hlt : sCap < sLen + n) (hmost : sLen + n < most)
    (hst : (Builtin.firstCells s n vx).run P W.drew = .ok cs.toArray W.drew) (hold : (Builtin.firstCells s sLen (.slice ad sLen sCap)).run P W.drew = .ok olds.toArray W.drew) :
    (Builtin.append_ #[t, t2] ty #[.slice ad sLen sCap, vx]).run P W = .ok (.slice (some ⟨W.heap.size, 0, none⟩) (sLen + n) (grownCap W (sLen + n) sCap e))
      (W.drew.alloc (.cells (olds.toArray ++ cs.toArray ++ Builtin.zeroCells z.cells (grownCap W (sLen + n) sCap e - (sLen + n))) e)) := by
  have hm : (match d2 with | .int _ => true | _ => false) = false := by
    cases d2 <;> first | rfl | exact absurd rfl (hni _)
  have hnle : ¬ (sLen + n ≤ sCap) := by omega
  have hmax : ¬ (((sLen + n : Nat) : Int) > IntKind.i64.max) := by
    have : IntKind.i64.max = 9223372036854775807 := rfl
    unfold most at hmost; omega
  have hfit : ¬ (Builtin.nextslicecap (sLen + n) sCap * i.bytes > 2 ^ 48) := by
    have h1 : (sLen + n) * i.bytes ≤ 140737488355328 := by
      have : (sLen + n) * i.bytes ≤ most * 65536 := Nat.mul_le_mul (by omega) hby
      unfold most at this; omega
    have := growslice_fits (old := sCap) hlt h1
    omega
  have hti : (typeInfo e).run P W = .ok i W := by simp [typeInfo, hi]
  have hti' : (typeInfo e).run P W.drew = .ok i W.drew := by simp [typeInfo, hi]
  have hzv : (zeroValue e).run P W.drew = .ok z W.drew := by simp [zeroValue, typeInfo, hi, hz]
  have hmax' : ¬ (9223372036854775807 < (sLen : Int) + (n : Int)) := by unfold most at hmost; omega
  have hfit' : ¬ (281474976710656 < Builtin.nextslicecap (sLen + n) sCap * i.bytes) := by omega
  have hmx : IntKind.i64.max = 9223372036854775807 := rfl
  simp [Builtin.append_, run_und ht, run_sizeOf' hs, run_und ht2, hm, hlen, hnle, hmx, hmax', hti, hfit', Question.forced, hti', hst, hold, hzv, newRow, grownCap]
  rw [← Array.append_assoc]; simp
theorem zeroCells_size (z : Array Value) (n : Nat) : (Builtin.zeroCells z n).size = n * z.size := by simp [Builtin.zeroCells]
theorem segs_append {ok : Nat → Prop} {e s : Nat} {xs ys : List T} {cx cy rest : List Value} (hx : cx.length = xs.length * s) (h1 : ∀ i x, xs[i]? = some x → PRep P W ok e x ((cx.drop (i * s)).take s)) (h2 : ∀ i y, ys[i]? = some y → PRep P W ok e y ((cy.drop (i * s)).take s)) (hy : cy.length = ys.length * s) :
    ∀ i x, (xs ++ ys)[i]? = some x → PRep P W ok e x (((cx ++ (cy ++ rest)).drop (i * s)).take s) := by
  intro i x hi
  by_cases hlt : i < xs.length
  · rw [List.getElem?_append_left hlt] at hi
    have : (i + 1) * s ≤ xs.length * s := Nat.mul_le_mul_right s hlt
    rw [Nat.add_mul, Nat.one_mul] at this
    rw [drop_take_append_left _ _ _ _ (by omega)]
    exact h1 i x hi
  · rw [List.getElem?_append_right (by omega)] at hi
    have h3 : xs.length * s ≤ i * s := Nat.mul_le_mul_right s (by omega)
    rw [drop_take_append_right _ _ _ _ (by omega), hx, ← Nat.sub_mul]
    have hj : i - xs.length < ys.length := (List.getElem?_eq_some_iff.1 hi).1
    have : (i - xs.length + 1) * s ≤ ys.length * s := Nat.mul_le_mul_right s hj
    rw [Nat.add_mul, Nat.one_mul] at this
    rw [drop_take_append_left _ _ _ _ (by omega)]
    exact h2 _ x hi
theorem nxt_moved (h : Rel P G C β free N regs look a W) (hfr : free nm) {n : Nat} {o0 : O} {pl0 : Place} (hl : look n = some o0) (hro0 : isRo o0 = false) (hpl0 : β n = some pl0) {W' : World} {X : Nat → Prop} (hw : Wr X W W')
    (hX : ∀ b, X b → pl0.virt = false ∧ b = pl0.b) {o : O} (hor : isRo o = false) {pl : Place} {d : D} {v : Value} {dst : Option Tmp} {touch : List Nat}
    (hpl : pl.virt = true ∨ W.heap.size ≤ pl.b ∨ (pl0.virt = false ∧ pl.b = pl0.b))
    (hro : (memOf P C β look W).Le (memOf P C (setP β nm pl) (updF look [(nm, some o), (n, none)]) W') → RO (memOf P C (setP β nm pl) (updF look [(nm, some o), (n, none)]) W') (setP β nm pl) pl o)
    (hrv : (memOf P C β look W).Le (memOf P C (setP β nm pl) (updF look [(nm, some o), (n, none)]) W') → RV (memOf P C (setP β nm pl) (updF look [(nm, some o), (n, none)]) W') (setP β nm pl) d v) :
    Nxt P G C β free N regs look dst nm { d := d, upd := [(nm, some o), (n, none)], touch := touch, fresh := 1 } (a.put dst v) W' := by
  have hβ := h.free nm hfr
  have hne : nm ≠ n := fun e => by subst e; rw [hβ] at hpl0; cases hpl0
  have hlk : ∀ m o', updF look [(nm, some o), (n, none)] m = some o' → m = nm ∧ o' = o ∨ m ≠ nm ∧ m ≠ n ∧ look m = some o' := by
    intro m o' hm
    simp only [updF, setF] at hm
    split at hm
    · cases hm
    · rename_i h1
      split at hm
      · rename_i h2; cases hm; exact .inl ⟨h2, rfl⟩
      · rename_i h2; exact .inr ⟨h2, h1, hm⟩
  have hset : ∀ m, m ≠ nm → setP β nm pl m = β m := fun m hm => by unfold setP; rw [if_neg hm]
  have hsub : Sub β (setP β nm pl) := Sub.setP hβ
  have hXo : ∀ b, X b → ∃ n pl o, look n = some o ∧ isRo o = false ∧ β n = some pl ∧ pl.virt = false ∧ pl.b = b := fun b hb => ⟨n, pl0, o0, hl, hro0, hpl0, (hX b hb).1, (hX b hb).2.symm⟩
  have hnew : pl.virt = false → W.heap.size ≤ pl.b ∨ ∃ m pl', look m ≠ none ∧ β m = some pl' ∧ pl'.virt = false ∧ pl'.b = pl.b := fun hv => by
    rcases hpl with h1 | h1 | ⟨h1, h2⟩
    · rw [hv] at h1; cases h1
    · exact .inl h1
    · exact .inr ⟨n, pl0, by rw [hl]; simp, hpl0, h1, h2.symm⟩
  have hle := h.le hw hXo hsub (look' := updF look [(nm, some o), (n, none)]) (fun m o' hm => by
    rcases hlk m o' hm with ⟨rfl, rfl⟩ | ⟨_, _, h2⟩
    · exact .inr ⟨pl, by simp [setP], hnew⟩
    · exact .inl (by rw [h2]; simp))
  refine ⟨setP β nm pl, hsub, h.step hw hXo hsub (fun m o' hm => ?_) ?_ hrv ?_⟩
  · rcases hlk m o' hm with ⟨rfl, rfl⟩ | ⟨_, hmn, h2⟩
    · refine .inr ⟨pl, by simp [setP], hro hle, fun hv => ?_⟩
      rcases hpl with h1 | h1 | ⟨h1, h2⟩
      · rw [hv] at h1; cases h1
      · exact .inl ⟨hor, h1⟩
      · exact .inr ⟨n, o0, pl0, hl, hpl0, h1, h2.symm, hro0.trans hor.symm⟩
    · refine .inl ⟨h2, fun p hp hv hx => hmn ?_⟩
      obtain ⟨h3, h4⟩ := hX _ hx
      exact h.inj m n p pl0 (by rw [h2]; simp) (by rw [hl]; simp) hp hpl0 hv h3 h4
  · intro x y p p' hx hy hp hp' hv hv' hbb
    obtain ⟨o1, ho1⟩ := Option.ne_none_iff_exists'.1 hx
    obtain ⟨o2, ho2⟩ := Option.ne_none_iff_exists'.1 hy
    have old : ∀ m o' p, m ≠ nm → m ≠ n → look m = some o' → setP β nm pl m = some p → p.virt = false → β m = some p ∧ p.b < W.heap.size ∧ (pl0.virt = false → p.b ≠ pl0.b) := by
      intro m o' p hne hnn hlo hpp hvv
      rw [hset m hne] at hpp
      obtain ⟨pl1, h5, h6⟩ := h.objs m o' hlo
      rw [hpp] at h5; cases h5
      exact ⟨hpp, h6.real hvv, fun hv0 hb => hnn (h.inj m n p pl0 (by rw [hlo]; simp) (by rw [hl]; simp) hpp hpl0 hvv hv0 hb)⟩
    have clash : ∀ p : Place, p.b < W.heap.size → (pl0.virt = false → p.b ≠ pl0.b) → pl.virt = false → p.b = pl.b → False := by
      intro p h1 h2 h3 h4
      rcases hpl with h5 | h5 | ⟨h5, h6⟩
      · rw [h3] at h5; cases h5
      · omega
      · exact h2 h5 (h4.trans h6)
    rcases hlk x o1 ho1 with ⟨rfl, rfl⟩ | ⟨h1, h1', h2⟩ <;> rcases hlk y o2 ho2 with ⟨rfl, rfl⟩ | ⟨h3, h3', h4⟩
    · rfl
    · obtain ⟨_, q2, q3⟩ := old y o2 p' h3 h3' h4 hp' hv'
      have e : p = pl := by simpa [setP] using hp.symm
      subst e
      exact (clash p' q2 q3 hv hbb.symm).elim
    · obtain ⟨_, q2, q3⟩ := old x o1 p h1 h1' h2 hp hv
      have e : p' = pl := by simpa [setP] using hp'.symm
      subst e
      exact (clash p q2 q3 hv' hbb).elim
    · exact h.inj x y p p' (by rw [h2]; simp) (by rw [h4]; simp) (old x o1 p h1 h1' h2 hp hv).1 (old y o2 p' h3 h3' h4 hp' hv').1 hv hv' hbb
  · intro m hm
    have : m ≠ nm := by intro e; subst e; exact hm.2 ⟨Nat.le_refl _, Nat.lt_succ_self _⟩
    rw [hset m this]
    exact h.free m hm.1
theorem map_one {α γ : Type} {f : α → γ} {l : List α} {x : γ} (h : l.map f = [x]) : ∃ a, l = [a] ∧ f a = x := by
  cases l with
  | nil => cases h
  | cons a l => cases l with
    | nil => simp at h; exact ⟨a, rfl, h⟩
    | cons b l => simp at h
theorem map_two {α γ : Type} {f : α → γ} {l : List α} {x y : γ} (h : l.map f = [x, y]) : ∃ a b, l = [a, b] ∧ f a = x ∧ f b = y := by
  cases l with
  | nil => cases h
  | cons a l =>
    simp only [List.map_cons, List.cons.injEq] at h
    obtain ⟨h1, h2⟩ := h
    obtain ⟨b, rfl, h3⟩ := map_one h2
    exact ⟨a, b, rfl, h1, h3⟩
theorem arr_two {α : Type} {x : Array α} {a b : α} (h : x.toList = [a, b]) : x = #[a, b] := by cases x; simp at h; subst h; rfl
theorem arr_one {α : Type} {x : Array α} {a : α} (h : x.toList = [a]) : x = #[a] := by cases x; simp at h; subst h; rfl
theorem splice_seg {cs c : List Value} {o k s : Nat} (h : o + c.length ≤ cs.length) (hk : k + s ≤ c.length) : ((splice cs o c).drop (o + k)).take s = (c.drop k).take s := by
  unfold splice
  have hl : (cs.take o).length = o := by rw [List.length_take]; omega
  rw [List.drop_append, List.drop_of_length_le (by omega), hl, show o + k - o = k by omega, List.nil_append]
  exact drop_take_append_left _ _ _ _ hk
theorem new_row_ro {M' : Mem} {β' : Places} {e s : Nat} {xs ys : List T} {cx cy : List Value} {z : Array Value} {cap : Nat} (hP : M'.P = P) (hW : M'.W = W.drew.alloc (.cells (cx.toArray ++ cy.toArray ++ Builtin.zeroCells z (cap - (xs.length + ys.length))) e)) {ok : Nat → Prop} (hst : Stay ok M'.ok W M'.W)
    (hs : csz P e = some s) (hs0 : 0 < s) (hz : z.size = s) (hcap : xs.length + ys.length ≤ cap) (hmax : cap ≤ maxLen) (hx : cx.length = xs.length * s) (h1 : ∀ i x, xs[i]? = some x → PRep P W ok e x ((cx.drop (i * s)).take s)) (h2 : ∀ i y, ys[i]? = some y → PRep P W ok e y ((cy.drop (i * s)).take s)) (hy : cy.length = ys.length * s) :
    RO M' β' { b := W.heap.size, off := 0, len := (xs ++ ys).length, sz := s, lim := cap * s } (.row e (xs ++ ys)) := by
  refine ⟨rfl, by rw [hP]; exact hs, hs0, (fun hv => by cases hv), fun _ => ⟨cx.toArray ++ cy.toArray ++ Builtin.zeroCells z (cap - (xs.length + ys.length)), e, (0, 0), ?_, ?_, ⟨fun o _ hx => by have := hx.2; omega, .inr ⟨rfl, ?_⟩⟩, fun i x hi => ?_⟩⟩
  · rw [hW]; exact heap_alloc_last W.drew _
  · simp only [Array.size_append, List.size_toArray, zeroCells_size, hz, hx, hy, ← Nat.add_mul]
    congr 1; omega
  · simp only [Array.size_append, List.size_toArray, zeroCells_size, hz, hx, hy, ← Nat.add_mul]
    refine Nat.le_trans (Nat.le_of_eq ?_) (Nat.mul_le_mul_right s hmax)
    congr 1; omega
  · rw [hP]
    have := segs_append (W := W) (rest := (Builtin.zeroCells z (cap - (xs.length + ys.length))).toList) hx h1 h2 hy i x hi
    simp only [Array.toList_append, List.append_assoc, Nat.zero_add]
    exact this.stay hst
theorem setP_self {β : Places} {n : Nat} {pl : Place} : setP β n pl n = some pl := by simp [setP]
theorem Wr.grow (W : World) (o : Obj) : Wr (fun _ => False) W (W.drew.alloc o) := (Wr.drew W).trans (Wr.alloc W.drew o)
theorem opv_appendTo (h : Rel P G C β free N regs look a W) (hfr : ∀ u : OpOut, u.fresh = 1 → free nm) {o : Oper} {t t2 ty e s : TypeId} {ox : Operand} {vx : Value} (he : ∀ v W', (Builtin.append_ #[t, t2] ty #[a.eval ox, vx]).run P W = .ok v W' → (execOp a.eval o).run P W = .ok (.value v) W')
    (ht : P.underlying t = some (.slice e)) (hs : csz P e = some s) (hs0 : 0 < s) {d2 : TypeDesc} (ht2 : P.underlying t2 = some d2) (hni : ∀ k, d2 ≠ .int k) {i : TypeInfo} {z : Value} (hi : P.info? e = some i) (hz : i.zero = some z) (hzs : z.cells.size = s) (hby : i.bytes ≤ 65536)
    {ys : List T} {tx : List Nat} {cs : List Value} (hA : Adds P W (okOf C β look) e s ys vx cs) {r : OR} {u : OpOut} (hr : appendTo look nm e ys tx (evalD G regs ox) = some r) (hu : r.get = some u) : o.wp P a W (Nxt P G C β free N regs look o.dst nm u) Q := by
  generalize hx : evalD G regs ox = dx at hr
  have hgrow : ∀ {ad : Option Addr} {xs : List T} {cx : List Value} {cap : Nat}, a.eval ox = .slice ad xs.length cap → cap < xs.length + ys.length → xs.length + ys.length < most → (Builtin.firstCells s xs.length (.slice ad xs.length cap)).run P W.drew = .ok cx.toArray W.drew →
      (execOp a.eval o).run P W = .ok (.value (.slice (some ⟨W.heap.size, 0, none⟩) (xs.length + ys.length) (grownCap W (xs.length + ys.length) cap e))) (W.drew.alloc (.cells (cx.toArray ++ cs.toArray ++ Builtin.zeroCells z.cells (grownCap W (xs.length + ys.length) cap e - (xs.length + ys.length))) e)) := by
    intro ad xs cx cap hv hlt hm hold
    exact he _ _ (by rw [hv]; exact run_append_new ht hs ht2 hni hi hz hby hA.lenOf hlt hm (hA.first W.drew rfl) hold)
  have hsame : ∀ {ad : Option Addr} {len cap : Nat}, a.eval ox = .slice ad len cap → ys = [] → len ≤ cap → (execOp a.eval o).run P W = .ok (.value (.slice ad len cap)) W := by
    intro ad len cap hv hy hle
    subst hy
    have h1 := hA.first W rfl
    have h2 : cs = [] := List.eq_nil_of_length_eq_zero (by have := hA.len; simpa using this)
    subst h2
    exact he _ _ (by rw [hv]; exact run_append_same ht hs ht2 hni hA.lenOf h1 hle)
  have hemp0 : ∀ (w : World) (ad : Option Addr), (Builtin.firstCells s 0 (.slice ad 0 0)).run P w = .ok #[] w := fun w ad => by cases ad <;> simp [Builtin.firstCells, loadCells, loadCellsFrom]
  have virtRO : ∀ (M' : Mem) (β' : Places), M'.P = P → RO M' β' { b := 0, off := 0, len := 0, sz := s, lim := 0, virt := true } (.row e []) := fun M' β' hP => ⟨rfl, by rw [hP]; exact hs, hs0, fun _ => rfl, fun hv => by cases hv⟩
  -- an empty row that is no one's
  have nilCase : ∀ ad, a.eval ox = .slice ad 0 0 → ys.length < most → ∀ u, u = { d := .own nm, upd := [(nm, some (.row e ys))], touch := nm :: tx, fresh := 1 } → o.wp P a W (Nxt P G C β free N regs look o.dst nm u) Q := by
    rintro ad hv hm u rfl
    have hfree := hfr { d := .own nm, fresh := 1 } rfl
    by_cases hy : ys = []
    · refine wp_value (hsame hv hy (Nat.le_refl _)) (nxt_new h hfree (frz := []) (Wr.refl _ W) (pl := { b := 0, off := 0, len := 0, sz := s, lim := 0, virt := true }) rfl (.inl rfl) (fun hle => ?_) (fun hle => ?_))
      · subst hy; exact virtRO _ _ rfl
      · exact RV_scalar ⟨{ b := 0, off := 0, len := 0, sz := s, lim := 0, virt := true }, by simp [setP], by simp⟩ rfl
    · have hpos : 0 < ys.length := List.length_pos_iff.2 hy
      have hrun := hgrow (xs := []) (cx := []) hv (by simpa using hpos) (by simpa using hm) (hemp0 _ _)
      have hge := grownCap_ge W (0 + ys.length) 0 e
      refine wp_value hrun (nxt_new h hfree (frz := []) (Wr.grow W _) (pl := { b := W.heap.size, off := 0, len := ([] ++ ys).length, sz := s, lim := (grownCap W (0 + ys.length) 0 e) * s }) rfl (.inr (Nat.le_refl _)) (fun hle => ?_) (fun hle => ?_))
      · exact new_row_ro (xs := []) (cx := []) rfl rfl hle.stay hs hs0 hzs (by simpa using hge) (grownCap_le_maxLen _ _ _ _ (by unfold most at *; unfold maxLen; omega)) (by simp) (fun i x hx => by simp at hx) hA.rep hA.len
      · refine RV_scalar ⟨_, setP_self, ?_⟩ rfl
        simp only [Bool.false_eq_true, if_false]
        exact ⟨grownCap W (0 + ys.length) 0 e, by simp, by simpa using hge, by simp⟩
  -- the same where a name goes
  have nilMoved : ∀ n o0 pl0 ad, look n = some o0 → isRo o0 = false → β n = some pl0 → a.eval ox = .slice ad 0 0 → ys.length < most → ∀ u, u = { d := .own nm, upd := [(nm, some (.row e ys)), (n, none)], touch := n :: nm :: tx, fresh := 1 } → o.wp P a W (Nxt P G C β free N regs look o.dst nm u) Q := by
    rintro n o0 pl0 ad hl hro0 hpl0 hv hm u rfl
    have hfree := hfr { d := .own nm, fresh := 1 } rfl
    by_cases hy : ys = []
    · refine wp_value (hsame hv hy (Nat.le_refl _)) (nxt_moved h hfree hl hro0 hpl0 (Wr.refl (fun _ => False) W) (fun _ hx => hx.elim) rfl (pl := { b := 0, off := 0, len := 0, sz := s, lim := 0, virt := true }) (.inl rfl) (fun hle => ?_) (fun hle => ?_))
      · subst hy; exact virtRO _ _ rfl
      · exact RV_scalar ⟨{ b := 0, off := 0, len := 0, sz := s, lim := 0, virt := true }, by simp [setP], by simp⟩ rfl
    · have hpos : 0 < ys.length := List.length_pos_iff.2 hy
      have hrun := hgrow (xs := []) (cx := []) hv (by simpa using hpos) (by simpa using hm) (hemp0 _ _)
      have hge := grownCap_ge W (0 + ys.length) 0 e
      refine wp_value hrun (nxt_moved h hfree hl hro0 hpl0 (Wr.grow W _) (fun _ hx => hx.elim) rfl (pl := { b := W.heap.size, off := 0, len := ([] ++ ys).length, sz := s, lim := (grownCap W (0 + ys.length) 0 e) * s }) (.inr (.inl (Nat.le_refl _))) (fun hle => ?_) (fun hle => ?_))
      · exact new_row_ro (xs := []) (cx := []) rfl rfl hle.stay hs hs0 hzs (by simpa using hge) (grownCap_le_maxLen _ _ _ _ (by unfold most at *; unfold maxLen; omega)) (by simp) (fun i x hx => by simp at hx) hA.rep hA.len
      · refine RV_scalar ⟨_, setP_self, ?_⟩ rfl
        simp only [Bool.false_eq_true, if_false]
        exact ⟨grownCap W (0 + ys.length) 0 e, by simp, by simpa using hge, by simp⟩
  -- a row of one's own, or a part of one
  have ownMoved : ∀ n pl0 (xs0 xs : List T) lo cap, look n = some (.row e xs0) → β n = some pl0 → pl0.virt = false → xs = (xs0.drop lo).take xs.length → lo + xs.length ≤ xs0.length → a.eval ox = .slice (some ⟨pl0.b, pl0.off + lo * pl0.sz, none⟩) xs.length cap → xs.length ≤ cap → pl0.off + (lo + cap) * pl0.sz ≤ pl0.lim →
      xs.length + ys.length < most → ∀ u, u = { d := .own nm, upd := [(nm, some (.row e (xs ++ ys))), (n, none)], touch := n :: nm :: tx, fresh := 1 } → o.wp P a W (Nxt P G C β free N regs look o.dst nm u) Q := by
    rintro n pl0 xs0 xs lo cap hl hpl0 hv0 hxs hlo hv hle hlim hm u rfl
    have hfree := hfr { d := .own nm, fresh := 1 } rfl
    obtain ⟨pl1, q0, q1, q2, q3, _, q4⟩ := h.objs n _ hl
    rw [hpl0] at q0; cases q0
    replace q2 : csz P e = some pl0.sz := q2
    have hsz : s = pl0.sz := by rw [hs] at q2; exact Option.some.inj q2
    obtain ⟨c, el, fr, q5, q6, q7, q8⟩ := q4 hv0
    replace q5 : W.heap[pl0.b]? = some (.cells c el fr) := q5
    have hcl : c.toList.length = c.size := Array.length_toList
    have hseg : ∀ j x, xs[j]? = some x → PRep P W (okOf C β look) e x ((c.toList.drop (pl0.off + lo * s + j * s)).take s) := fun j x hj => by
      have hjl : j < xs.length := (List.getElem?_eq_some_iff.1 hj).1
      rw [hxs, List.getElem?_take, if_pos hjl, List.getElem?_drop] at hj
      have := q8 (lo + j) x hj
      rw [← hsz, Nat.add_mul, ← Nat.add_assoc] at this
      exact this
    by_cases hroom : xs.length + ys.length ≤ cap
    · have hb1 : (lo + (xs.length + ys.length)) * s ≤ (lo + cap) * s := Nat.mul_le_mul_right s (by omega)
      rw [Nat.add_mul, Nat.add_mul] at hb1
      rw [← hsz, Nat.add_mul] at hlim
      rw [Nat.add_mul] at hb1
      have hfit : pl0.off + lo * s + xs.length * s + cs.length ≤ c.toList.length := by rw [hA.len, hcl]; omega
      obtain ⟨W', w1, w2, w3, w4⟩ := run_storeCells (P := P) (b := pl0.b) (o := pl0.off + lo * s + xs.length * s) cs 0 W c el fr q5 q7.1 (by rw [hcl] at hfit; omega) hA.one
      rw [Nat.add_zero] at w4
      have hrun := he _ W' (by rw [hv]; exact run_append_in ht hs ht2 hni hA.lenOf (hA.first W rfl) hroom (by rw [← hsz]; exact w1))
      refine wp_value hrun (nxt_moved h hfree hl rfl hpl0 w2 (fun b hb => ⟨hv0, hb⟩) rfl (pl := { b := pl0.b, off := pl0.off + lo * s, len := (xs ++ ys).length, sz := s, lim := pl0.lim }) (.inr (.inr ⟨hv0, rfl⟩)) (fun hle' => ?_) (fun hle' => ?_))
      · have hlen : (splice c.toList (pl0.off + lo * s + xs.length * s) cs).length = c.toList.length := splice_length hfit
        refine ⟨rfl, hs, hs0, (fun hv => by cases hv), fun _ => ⟨_, el, fr, w4, by rw [List.size_toArray, hlen, hcl, q6], by rw [List.size_toArray, hlen, hcl]; exact ⟨q7.1, hsz ▸ q7.2⟩, fun j x hj => ?_⟩⟩
        rw [List.toList_toArray]
        show PRep P W' _ e x _
        by_cases hjl : j < xs.length
        · rw [List.getElem?_append_left hjl] at hj
          have hb2 : (j + 1) * s ≤ xs.length * s := Nat.mul_le_mul_right s hjl
          rw [Nat.add_mul, Nat.one_mul] at hb2
          rw [splice_out hfit (.inl (by show pl0.off + lo * s + j * s + s ≤ _; omega))]
          exact (hseg j x hj).stay hle'.stay
        · rw [List.getElem?_append_right (by omega)] at hj
          have hjl2 : j - xs.length < ys.length := (List.getElem?_eq_some_iff.1 hj).1
          have hb2 : (j - xs.length + 1) * s ≤ ys.length * s := Nat.mul_le_mul_right s hjl2
          rw [Nat.add_mul, Nat.one_mul] at hb2
          have hb3 : pl0.off + lo * s + j * s = pl0.off + lo * s + xs.length * s + (j - xs.length) * s := by
            have : j * s = xs.length * s + (j - xs.length) * s := by rw [← Nat.add_mul]; congr 1; omega
            omega
          show PRep P W' _ e x ((_ : List Value).drop (pl0.off + lo * s + j * s) |>.take s)
          rw [hb3, splice_seg hfit (by rw [hA.len]; exact hb2)]
          exact (hA.rep _ x hj).stay hle'.stay
      · refine RV_scalar ⟨_, setP_self, ?_⟩ rfl
        simp only [Bool.false_eq_true, if_false]
        refine ⟨cap, by rw [List.length_append, hsz], by rw [List.length_append]; exact hroom, by omega⟩
    · have hLies : Lies P W (okOf C β look) e xs (some ⟨pl0.b, pl0.off + lo * s, none⟩) := by
        have := (RO.lies (M := memOf P C β look W) (β := β) ⟨q1, q2, q3, (fun hv => by rw [hv0] at hv; cases hv), q4⟩ hv0)
        have h2 := Lies.sub (P := P) (W := W) this hs lo xs.length hlo
        rw [← hxs] at h2; exact h2
      obtain ⟨cx, c1, c2, c3, c4, c5⟩ := hLies.cells hs
      have hrun := hgrow (xs := xs) (cx := cx) hv (by omega) hm (by rw [← hsz]; exact c2 W.drew rfl cap)
      have hge := grownCap_ge W (xs.length + ys.length) cap e
      refine wp_value hrun (nxt_moved h hfree hl rfl hpl0 (Wr.grow W _) (fun _ hx => hx.elim) rfl (pl := { b := W.heap.size, off := 0, len := (xs ++ ys).length, sz := s, lim := (grownCap W (xs.length + ys.length) cap e) * s }) (.inr (.inl (Nat.le_refl _))) (fun hle' => ?_) (fun hle' => ?_))
      · exact new_row_ro rfl rfl hle'.stay hs hs0 hzs hge (grownCap_le_maxLen _ _ _ _ (by unfold most at *; unfold maxLen; omega)) c1 c4 hA.rep hA.len
      · refine RV_scalar ⟨_, setP_self, ?_⟩ rfl
        simp only [Bool.false_eq_true, if_false]
        exact ⟨_, by rw [List.length_append], by rw [List.length_append]; exact hge, by simp⟩
  unfold appendTo at hr
  split at hr
  case h_1 =>
    cases hr
    obtain ⟨hc, rfl⟩ := need_get hu
    have := ev_scalar h hx rfl
    simp [RC] at this
    exact nilCase none this (of_decide_eq_true hc) _ rfl
  case h_2 =>
    cases hr
    obtain ⟨hc, rfl⟩ := need_get hu
    obtain ⟨ad, h1⟩ := ev_scalar h hx rfl
    injection h1 with h1 _
    exact nilCase ad h1 (of_decide_eq_true hc) _ rfl
  case h_3 n =>
    split at hr
    case h_1 e' xs hl =>
      have hb := beqN (bif_some hr).1
      replace hr := (bif_some hr).2
      subst hb
      cases hr
      obtain ⟨hc, rfl⟩ := need_get hu
      have hm := of_decide_eq_true hc
      obtain ⟨pl, h1, h2⟩ := ev_scalar h hx rfl
      obtain ⟨pl', h3, h4, h5, h6, h7, h8⟩ := h.objs n _ hl
      rw [h1] at h3; cases h3
      cases hv : pl.virt with
      | true =>
        rw [hv] at h2
        obtain ⟨ad, h2⟩ := h2
        injection h2 with h2 _
        have := h7 hv
        subst this
        exact nilMoved n _ pl ad hl rfl h1 h2 (by simpa using hm) _ (by simp)
      | false =>
        rw [hv] at h2
        simp only [Bool.false_eq_true, if_false] at h2
        obtain ⟨cap, h9, h10, h11⟩ := h2
        injection h9 with h9 _
        exact ownMoved n pl xs xs 0 cap hl h1 hv (by simp) (by omega) (by rw [h9, h4]; simp) (by omega) (by simpa using h11) hm _ rfl
    case h_2 => cases hr
  case h_4 n lo len =>
    split at hr
    case h_1 e' xs hl =>
      have hb := beqN (bif_some hr).1
      replace hr := (bif_some hr).2
      subst hb
      cases hr
      obtain ⟨hc, rfl⟩ := need_get hu
      have hm := of_decide_eq_true hc
      obtain ⟨pl, h1, hll, h2⟩ := ev_scalar h hx rfl
      obtain ⟨pl', h3, h4, h5, h6, h7, h8⟩ := h.objs n _ hl
      rw [h1] at h3; cases h3
      rw [h4] at hll
      have hlen : ((xs.drop lo).take len).length = len := by rw [List.length_take, List.length_drop]; omega
      rcases h2 with ⟨rfl, ad, h2⟩ | ⟨hv, cap, h9, h10, h11⟩
      · injection h2 with h2 _
        exact nilMoved n _ pl ad hl rfl h1 h2 (by omega) _ (by simp)
      · injection h9 with h9 _
        exact ownMoved n pl xs _ lo cap hl h1 hv (by rw [hlen]) (by rw [hlen]; exact hll) (by rw [hlen]; exact h9) (by rw [hlen]; exact h10) h11 (by rw [hlen]; omega) _ rfl
    case h_2 => cases hr
  case h_5 xs e' =>
    have hb := beqN (bif_some hr).1
    replace hr := (bif_some hr).2
    subst hb
    cases hr
    obtain ⟨hc, rfl⟩ := need_get hu
    have hm := of_decide_eq_true hc
    obtain ⟨ad, cap, h1, h2, h3, h4⟩ := ev_scalar h hx rfl
    injection h1 with h1 _
    have hcap := h4 rfl
    subst hcap
    by_cases hy : ys = []
    · refine wp_pure h (hsame h1 hy (Nat.le_refl _)) (RV_scalar ?_ rfl)
      subst hy
      rw [List.append_nil]
      exact ⟨ad, _, rfl, h2, Nat.le_refl _, fun hcl => by cases hcl⟩
    · have hpos : 0 < ys.length := List.length_pos_iff.2 hy
      obtain ⟨cx, c1, c2, c3, c4, c5⟩ := (PRow.lies h2).cells hs
      have hrun := hgrow (xs := xs) (cx := cx) h1 (by omega) hm (c2 W.drew rfl _)
      have hge := grownCap_ge W (xs.length + ys.length) xs.length e
      refine wp_value hrun (nxt_gone h (frz := []) (Wr.grow W _) (fun hle' => RV_scalar ?_ rfl))
      have hro := new_row_ro (P := P) (W := W) (M' := memOf P C β (updF look (goneAll [])) _) (β' := β) rfl rfl hle'.stay hs hs0 hzs hge (grownCap_le_maxLen _ _ _ _ (by unfold most at *; unfold maxLen; omega)) c1 c4 hA.rep hA.len
      obtain ⟨r1, r2, r3, _, r4⟩ := hro
      obtain ⟨c, el, fr, r5, r6, r7, r8⟩ := r4 rfl
      refine ⟨_, _, by rw [List.length_append], .mk hs hs0 ⟨fun hav => ?_, fun m p hm' hp hv hbb => ?_⟩ r5 r8, by rw [List.length_append]; exact hge, fun hcl => by cases hcl⟩
      · have h5 := h.avold _ hav
        change W.heap.size < C.W0.heap.size at h5
        have := h.keeps.size
        omega
      · rw [updF_gone] at hm'
        simp at hm'
        obtain ⟨o', ho'⟩ := Option.ne_none_iff_exists'.1 hm'
        obtain ⟨p', hp', hro'⟩ := h.objs m o' ho'
        rw [hp] at hp'; cases hp'
        have := hro'.real hv
        change p.b < W.heap.size at this
        change p.b = W.heap.size at hbb
        omega
  case h_6 => cases hr
end
end Go.Proofs.YtbejhhoakeapgaaVM
namespace Go.Proofs.YtbejhhoakeapgaaVM
open Go Go.RowKit
set_option linter.unusedVariables false
set_option linter.unusedSimpArgs false

section
variable {P : Program} {W : World} {ok : Nat → Prop}
theorem pr_str {te : TypeId} {t : T} {cs : List Value} (hu : P.underlying te = some .string) (h : PRep P W ok te t cs) : cs = [.string t.txt] := by
  cases h with
  | str _ => rfl
  | int h => rw [hu] at h; cases h
  | bool h => rw [hu] at h; cases h
  | slice h _ _ => rw [hu] at h; cases h
  | struct h _ => obtain ⟨_, _, _, hq, _⟩ := fieldsOf_agg h; rw [hu] at hq; cases hq
  | arr h _ _ => obtain ⟨_, _, _, _, hq⟩ := arrOf_agg h; rw [hu] at hq; cases hq
theorem pv_one {te : TypeId} {t : T} {v w : Value} (hb : isAggB P te = false) (hc : ∀ {cs : List Value}, PRep P W ok te t cs → cs = [w]) (h : PV P W ok te t v) : v = w := by
  obtain ⟨cs, h1, h2⟩ := h
  rw [hb] at h2
  simp only [Bool.false_eq_true, if_false] at h2
  have := hc h1
  rw [h2] at this
  cases this; rfl
theorem bytes_same {a b : ByteArray} : seqB a b = true ↔ a = b := by
  unfold seqB
  rw [beq_iff_eq]
  exact ⟨fun h => by rw [ByteArray.toList_eq, ByteArray.toList_eq] at h; exact ByteArray.ext (Array.toList_inj.1 h), fun h => by rw [h]⟩
theorem key_of {kt : TypeId} {eq : T → T → Bool} (hk : keyEq P kt = some eq) : ∃ d, P.underlying kt = some d ∧
    (∀ {W : World} {ok : Nat → Prop} {t : T} {v : Value}, PV P W ok kt t v → MapKept.IsKey d v) ∧
    (∀ {W : World} {ok : Nat → Prop} {t : T} {v : Value} {W' : World} {ok' : Nat → Prop} {t' : T} {v' : Value}, PV P W ok kt t v → PV P W' ok' kt t' v' → (eq t t' = true ↔ v' = v)) := by
  unfold keyEq at hk
  split at hk
  case h_1 hu =>
    cases hk
    refine ⟨_, hu, fun {W ok t v} h => ?_, fun {W ok t v W' ok' t' v'} h h' => ?_⟩
    · rw [pv_one (by simp [isAggB, hu]) (pr_str hu) h]; trivial
    · rw [pv_one (by simp [isAggB, hu]) (pr_str hu) h, pv_one (by simp [isAggB, hu]) (pr_str hu) h', keyS, bytes_same]
      exact ⟨fun e => by rw [e], fun e => by injection e with e; exact e.symm⟩
  case h_2 k hu =>
    cases hk
    refine ⟨_, hu, fun {W ok t v} h => ?_, fun {W ok t v W' ok' t' v'} h h' => ?_⟩
    · rw [pv_one (by simp [isAggB, hu]) (int_cells hu) h]; rfl
    · rw [pv_one (by simp [isAggB, hu]) (int_cells hu) h, pv_one (by simp [isAggB, hu]) (int_cells hu) h', keyI, beq_iff_eq]
      exact ⟨fun e => by rw [e], fun e => by injection e with _ e; exact e.symm⟩
  case h_3 => cases hk
end
section
variable {M : Mem} {kt vt : TypeId}
theorem find_ents {eq : T → T → Bool} {d : TypeDesc} (hd : M.P.underlying kt = some d) (hk : keyEq M.P kt = some eq) {W' : World} {ok' : Nat → Prop} {k : T} {v : Value} (hv : PV M.P W' ok' kt k v) :
    ∀ (es : List T) (ms : List MapEntry) (i : Nat), REnts M kt vt es ms →
    (Instr.findNow d v ms i = some none ∧ (∀ m, m ∈ ms → m.key ≠ v) ∧ mhas eq es k = false ∧ (∀ z, mget eq z es k = z) ∧ (∀ x, mput eq es k x = es ++ [.node [k, x]]) ∧ mdel eq es k = es) ∨
    ∃ j m e, Instr.findNow d v ms i = some (some (i + j, m.val)) ∧ ms[j]? = some m ∧ m.key = v ∧ es[j]? = some e ∧ REnt M kt vt e m ∧ mhas eq es k = true ∧ (∀ z, mget eq z es k = e.get 1) ∧ (∀ x, mput eq es k x = es.set j (.node [k, x])) ∧ mdel eq es k = es.eraseIdx j
  | [], [], i, _ => .inl ⟨rfl, fun m hm => by simp at hm, rfl, fun _ => rfl, fun _ => rfl, rfl⟩
  | [], _ :: _, _, h => h.elim
  | _ :: _, [], _, h => h.elim
  | e :: es, m :: ms, i, ⟨h1, h2⟩ => by
    obtain ⟨d', hd', hK, hE⟩ := key_of hk
    rw [hd] at hd'; cases hd'
    obtain ⟨r, hr, hri⟩ := MapKept.sameNow_of_keys (hK hv) (hK h1.1)
    have he := hE hv h1.1
    cases r with
    | true =>
      have hm : m.key = v := (hri.1 rfl).symm
      have hq := he.2 hm
      exact .inr ⟨0, m, e, by simp [Instr.findNow, hr], rfl, hm, rfl, h1, by simp [mhas, hq], fun z => by simp [mget, hq], fun x => by simp [mput, hq], by simp [mdel, hq]⟩
    | false =>
      have hne : eq k (e.get 0) = false := by
        cases hq : eq k (e.get 0) with
        | false => rfl
        | true => have := hri.2 (he.1 hq).symm; cases this
      rcases find_ents hd hk hv es ms (i + 1) h2 with ⟨a1, a0, a2, a3, a4, a5⟩ | ⟨j, m', e', a1, a2, a3, a4, a5, a6, a7, a8, a9⟩
      · refine .inl ⟨by simp only [Instr.findNow, hr, a1], fun x hx => ?_, ?_, fun z => ?_, fun x => ?_, ?_⟩
        · rcases List.mem_cons.1 hx with rfl | hx
          · intro hq; have := hri.2 hq.symm; cases this
          · exact a0 x hx
        · simp only [mhas, List.any_cons, hne, Bool.false_or]; exact a2
        · simp only [mget, hne, cond_false]; exact a3 z
        · simp only [mput, hne, cond_false, a4 x, List.cons_append]
        · simp only [mdel, hne, cond_false, a5]
      · refine .inr ⟨j + 1, m', e', ?_, by simpa using a2, a3, by simpa using a4, a5, ?_, fun z => ?_, fun x => ?_, ?_⟩
        · simp only [Instr.findNow, hr, a1]; rw [show i + 1 + j = i + (j + 1) by omega]
        · simp only [mhas, List.any_cons, hne, Bool.false_or]; exact a6
        · simp only [mget, hne, cond_false]; exact a7 z
        · simp only [mput, hne, cond_false, a8 x, List.set_cons_succ]
        · simp only [mdel, hne, cond_false, a9, List.eraseIdx_cons_succ]
theorem REnts.push : ∀ {es : List T} {ms : List MapEntry} {e : T} {m : MapEntry}, REnts M kt vt es ms → REnt M kt vt e m → REnts M kt vt (es ++ [e]) (ms ++ [m])
  | [], [], _, _, _, h => ⟨h, trivial⟩
  | [], _ :: _, _, _, h, _ => h.elim
  | _ :: _, [], _, _, h, _ => h.elim
  | _ :: _, _ :: _, _, _, ⟨h1, h2⟩, h => ⟨h1, REnts.push h2 h⟩
theorem REnts.set : ∀ {es : List T} {ms : List MapEntry} {e : T} {m : MapEntry} (j : Nat), REnts M kt vt es ms → REnt M kt vt e m → REnts M kt vt (es.set j e) (ms.set j m)
  | [], [], _, _, _, _, _ => trivial
  | [], _ :: _, _, _, _, h, _ => h.elim
  | _ :: _, [], _, _, _, h, _ => h.elim
  | _ :: _, _ :: _, _, _, 0, ⟨_, h2⟩, h => ⟨h, h2⟩
  | _ :: _, _ :: _, _, _, j + 1, ⟨h1, h2⟩, h => ⟨h1, REnts.set j h2 h⟩
theorem REnts.erase : ∀ {es : List T} {ms : List MapEntry} (j : Nat), REnts M kt vt es ms → REnts M kt vt (es.eraseIdx j) (ms.eraseIdx j)
  | [], [], _, _ => trivial
  | [], _ :: _, _, h => h.elim
  | _ :: _, [], _, h => h.elim
  | _ :: _, _ :: _, 0, ⟨_, h2⟩ => h2
  | _ :: _, _ :: _, j + 1, ⟨h1, h2⟩ => ⟨h1, REnts.erase j h2⟩
end
theorem modify_list (ms : Array MapEntry) (j : Nat) (f : MapEntry → MapEntry) {m : MapEntry} (h : ms[j]? = some m) : (ms.modify j f).toList = ms.toList.set j (f m) := by
  apply List.ext_getElem?
  intro i
  rw [Array.getElem?_toList, Array.getElem?_modify, List.getElem?_set]
  by_cases e : j = i
  · subst e
    have hlt : j < ms.toList.length := by have := (Array.getElem?_eq_some_iff.1 h).1; simpa using this
    have hlt' : j < ms.size := by simpa using hlt
    have hm : ms[j] = m := by have := Array.getElem?_eq_getElem hlt'; rw [h] at this; exact (Option.some.inj this).symm
    simp [hlt', hm]
  · simp [e]
theorem erase_list (ms : Array MapEntry) (j : Nat) : (ms.eraseIdxIfInBounds j).toList = ms.toList.eraseIdx j := by
  unfold Array.eraseIdxIfInBounds
  split
  · simp
  · rename_i h
    rw [List.eraseIdx_of_length_le (by simpa using h)]
theorem put_wr {W : World} {b : Nat} {o o' : Obj} (hb : W.heap[b]? = some o) : Wr (fun x => x = b) W { W with heap := W.heap.setIfInBounds b o' } :=
  ⟨rfl, rfl, rfl, by simp, fun k _ hx => (MapKept.heap_set hb).2 k hx⟩

section
variable {P : Program} {G : Globs} {C : Ctx} {β : Places} {free : Nat → Prop} {N : Nat} {regs : Regs} {look : Look} {a : Act} {W : World} {nm : Nat} {Q : Exit → Act → World → Prop}
theorem zero_tree {M : Mem} {τ : TypeId} {z : T} (hf : zeroForm M.P τ = true) (h : zeroTree M.P τ = some z) (w : World) : ∃ zv, (zeroValue τ).run M.P w = .ok zv w ∧ PV M.P M.W M.ok τ z zv := by
  unfold zeroTree at h
  split at h
  case h_1 d hd =>
    split at h
    case h_1 t f hp =>
      cases h
      obtain ⟨i, zv, h1, h2, h3⟩ := zeroVal_rep (M := M) (β := fun _ => none) hd
      refine ⟨zv, by simp [zeroValue, typeInfo, h1, h2], ?_⟩
      have hs : ∃ s, csz M.P τ = some s := by
        unfold zeroForm at hf
        rw [h1] at hf
        simp only [h2] at hf
        split at hf
        · simp only [Bool.and_eq_true] at hf; exact Option.isSome_iff_exists.1 hf.2
        · simp only [Bool.and_eq_true] at hf; exact Option.isSome_iff_exists.1 hf.2
        · cases hf
      obtain ⟨s, hs⟩ := hs
      have hr := packT_rep (M := M) (look := fun _ => none) (β := fun _ => none) (ok' := M.ok) (fun n o hn => by cases hn) (fun _ h => h) hp (h3 s hs).1 (fun n hn => by rw [packT_none hp] at hn; simp at hn)
      refine ⟨_, hr, ?_⟩
      unfold zeroForm at hf
      rw [h1] at hf
      simp only [h2] at hf
      cases zv <;> simp only [Bool.and_eq_true, Bool.not_eq_true'] at hf <;> rw [hf.1] <;> simp [Value.cells]
    case h_2 => cases h
  case h_2 => cases h
theorem key_val (h : Rel P G C β free N regs look a W) {ix : Operand} {kt : TypeId} {k : T} {f : List Nat} (hp : packT P (fun _ => none) kt (evalD G regs ix) = some (k, f)) (ok' : Nat → Prop) (hok : ∀ b, okOf C β look b → ok' b) : PV P W ok' kt k (a.eval ix) :=
  packT_val (M := memOf P C β look W) (look := fun _ => none) (β := β) (fun n o hn => by cases hn) hok hp (rv_eval h ix) (fun n hn => by rw [packT_none hp] at hn; simp at hn)
theorem opv_lookup (h : Rel P G C β free N regs look a W) {o : Oper} {t : TypeId} {x ix : Operand} {ok : Bool} (ho : o.op = .lookup t x ix ok) {r : OR} {u : OpOut}
    (hr : lookupD P look t (evalD G regs x) (evalD G regs ix) ok = some r) (hu : r.get = some u) : o.wp P a W (Nxt P G C β free N regs look o.dst nm u) Q := by
  generalize hx : evalD G regs x = dx at hr
  unfold lookupD at hr
  split at hr
  case h_1 kt vt hm =>
    split at hr
    case h_1 eq z k f hk hz hp =>
      have hzf := (bif_some hz).1
      replace hz := (bif_some hz).2
      have hkv := key_val h hp (okOf C β look) (fun _ hb => hb)
      obtain ⟨d, hd, hK, _⟩ := key_of hk
      have hck : ∀ b, (Instr.checkKey b 10000 kt (a.eval ix)).run P W = .ok () W := fun b => MapKept.run_checkKey hd (hK hkv) b 9999
      obtain ⟨zv, hzr, hzp⟩ := zero_tree (M := memOf P C β look W) hzf hz W
      change (zeroValue vt).run P W = .ok zv W at hzr
      have fin : ∀ {t' : T} {v : Value} {b : Bool} {touch : List Nat}, PV P W (okOf C β look) vt t' v → (Instr.lookup t (a.eval x) (a.eval ix) ok).run P W = .ok (if ok then .tuple #[v, .bool b] else v) W →
          o.wp P a W (Nxt P G C β free N regs look o.dst nm { d := bif ok then .tup [ofT P vt t', .bool b] else ofT P vt t', touch }) Q := by
        intro t' v b touch hpv hrun
        obtain ⟨cs, hc1, hc2⟩ := hpv
        obtain ⟨hrc, hsc⟩ := PRep.ofT (M := memOf P C β look W) (β := β) hc1
        have hvf := VF_of (P := P) hsc hc2
        refine wp_pure h (v := if ok then .tuple #[v, .bool b] else v) ?_ ?_
        · simp only [execOp, ho, Sem.run_bind, hrun]; rfl
        · cases ok with
          | true =>
            exact ⟨#[v, .bool b], rfl, .inr ⟨cs, hrc, hvf⟩, .inr ⟨[.bool b], by simp [RC], by simp [VF, scalar]⟩, trivial⟩
          | false => exact RV_of hrc hvf
      split at hr
      case h_1 =>
        have := ev_scalar h hx rfl
        simp only [RC, List.cons.injEq, and_true] at this
        cases hr
        cases done_get hu
        refine fin (t' := z) (v := zv) (b := false) (touch := []) hzp ?_
        rw [this]
        cases ok <;> simp [Instr.lookup, run_und hm, hck, MapKept.run_findKey hd (show Instr.findNow d (a.eval ix) [] 0 = some none from rfl), hzr]
      case h_2 n =>
        obtain ⟨pl, h2, h3, h1⟩ := ev_scalar h hx rfl
        simp only [List.cons.injEq, and_true] at h1
        split at hr
        case h_1 kt' vt' es hl =>
          have hb := (bif_some hr).1
          replace hr := (bif_some hr).2
          simp only [Bool.and_eq_true] at hb
          have := beqN hb.1; subst this
          have := beqN hb.2; subst this
          cases hr
          cases done_get hu
          obtain ⟨pl', h5, h6, ms, clock, h7, h8, h9⟩ := h.objs n _ hl
          rw [h2] at h5; cases h5
          change W.heap[pl.b]? = some (.map ms clock) at h7
          rcases find_ents (M := memOf P C β look W) hd hk hkv es ms.toList 0 h8 with ⟨a1, a0, a2, a3, a4, a5⟩ | ⟨j, m', e', a1, a2, a3, a4, a5, a6, a7, a8, a9⟩
          · rw [a3, a2]
            refine fin hzp ?_
            rw [h1]
            cases ok <;> simp [Instr.lookup, run_und hm, hck, MapKept.run_getObj_map h7, MapKept.run_findKey hd a1, hzr]
          · rw [a7, a6]
            refine fin a5.2 ?_
            rw [h1]
            cases ok <;> simp [Instr.lookup, run_und hm, hck, MapKept.run_getObj_map h7, MapKept.run_findKey hd a1]
        case h_2 => cases hr
      case h_3 => cases hr
    case h_2 => cases hr
  case h_2 => cases hr
theorem nxt_map (h : Rel P G C β free N regs look a W) {n : Nat} {kt vt : TypeId} {es es' : List T} {pl : Place} {ms ms' : Array MapEntry} {clock clock' : Nat} (hl : look n = some (.map kt vt es)) (hpl : β n = some pl) (hv : pl.virt = false) (hb : W.heap[pl.b]? = some (.map ms clock))
    {frz touch : List Nat} (hnf : n ∉ frz) {d : D} {v : Value} {dst : Option Tmp} (hst : MapKept.Stamped ms' clock')
    (hre : (memOf P C β look W).Le (memOf P C β (updF look ((n, some (.map kt vt es')) :: goneAll frz)) { W with heap := W.heap.setIfInBounds pl.b (.map ms' clock') }) →
      Stay (okOf C β (updF look ((n, some (.map kt vt es')) :: goneAll frz))) (okOf C β (updF look ((n, some (.map kt vt es')) :: goneAll frz))) W { W with heap := W.heap.setIfInBounds pl.b (.map ms' clock') } →
      REnts (memOf P C β (updF look ((n, some (.map kt vt es')) :: goneAll frz)) { W with heap := W.heap.setIfInBounds pl.b (.map ms' clock') }) kt vt es' ms'.toList)
    (hrv : d = .undef ∨ (d = .tup [] ∧ v = .tuple #[])) :
    Nxt P G C β free N regs look dst nm { d := d, upd := (n, some (.map kt vt es')) :: goneAll frz, touch := touch } (a.put dst v) { W with heap := W.heap.setIfInBounds pl.b (.map ms' clock') } := by
  have hw := put_wr (o' := .map ms' clock') hb
  refine nxt_write h hl rfl hpl hv hw hnf (fun hle => ?_) rfl (fun _ => ?_)
  · refine ⟨hv, ms', clock', (MapKept.heap_set hb).1, hre hle ⟨fun b hb => .inl hb, fun b o hbk hbo => ?_⟩, hst⟩
    have hbl : b < W.heap.size := by
      rcases Nat.lt_or_ge b W.heap.size with hlt | hge
      · exact hlt
      · rw [Array.getElem?_eq_none hge] at hbo; cases hbo
    refine (hw.block b hbl ?_).trans hbo
    intro hbe
    subst hbe
    have hnl : updF look ((n, some (.map kt vt es')) :: goneAll frz) n ≠ none := by
      simp only [updF, updF_gone, if_neg hnf, setF, if_true]; simp
    exact hbk.2 n pl hnl hpl hv rfl
  · rcases hrv with rfl | ⟨rfl, rfl⟩
    · trivial
    · exact ⟨#[], rfl, trivial⟩
theorem opv_sliceMv (h : Rel P G C β free N regs look a W) (hfr : free nm) {o : Oper} {t : TypeId} {x : Operand} {lo hi mx : Option Operand} (ho : o.op = .slice t x lo hi mx) (hmv : mvB P t (evalD G regs x) lo hi mx = true) {r : OR} {u : OpOut}
    (hr : sliceMv P look (evalD G regs) nm t (evalD G regs x) hi = some r) (hu : r.get = some u) : o.wp P a W (Nxt P G C β free N regs look o.dst nm u) Q := by
  generalize hx : evalD G regs x = dx at hr hmv
  have he : ∀ v, (Instr.sliceAt t (a.eval x) (lo.map a.eval) (hi.map a.eval) (mx.map a.eval)).run P W = .ok v W → (execOp a.eval o).run P W = .ok (.value v) W := by
    intro v hv
    simp only [execOp, ho, Sem.run_bind, hv]; rfl
  unfold mvB at hmv
  unfold sliceMv at hr
  split at hr
  case h_1 n e ht =>
    rw [ht] at hmv
    simp only [Bool.and_eq_true, Option.isNone_iff_eq_none] at hmv
    obtain ⟨⟨hlo, hhi0⟩, hmx⟩ := hmv
    subst hlo hmx
    split at hr
    case h_1 e' xs hh hl hhi =>
      have hb := beqN (bif_some hr).1
      replace hr := (bif_some hr).2
      subst hb
      cases hr
      obtain ⟨hc, rfl⟩ := need_get hu
      simp only [Bool.and_eq_true, decide_eq_true_eq] at hc
      obtain ⟨pl0, q0, q1⟩ := ev_scalar h hx rfl
      obtain ⟨pl1, q2, q3⟩ := h.objs n _ hl
      rw [q0] at q2; cases q2
      obtain ⟨q4, q5, q6, q7, q8⟩ := q3
      have hhib : IsBound (hi.map a.eval) 0 hh ∧ hi.isSome = true := ⟨hiOf_bound h hhi, hhi0⟩
      have hbd : ∀ d : Int, IsBound (hi.map a.eval) d hh := fun d => by
        cases hi with
        | none => cases hhi0
        | some y =>
          rcases hhib.1 with ⟨h1, _⟩ | h1
          · cases h1
          · exact .inr h1
      have hlob : IsBound ((none : Option Operand).map a.eval) 0 0 := .inl ⟨rfl, rfl⟩
      cases hv : pl0.virt with
      | true =>
        have hxs := q7 hv
        subst hxs
        rw [hv] at q1
        simp only [if_true] at q1
        obtain ⟨ad, e1⟩ := q1
        injection e1 with e1 _
        have hh0 : hh = 0 := by have := hc.2; simp at this; omega
        subst hh0
        have hrun := run_sliceAt (P := P) (W := W) (ad := ad) ht q5 (run_bounds (P := P) (W := W) (isS := true) (len := 0) (cap := 0) (l := 0) (h := 0) hlob (hbd _) (by omega) (by omega) (by omega) (by omega))
        refine wp_value (he _ (by rw [e1]; exact hrun)) (nxt_moved h hfr hl rfl q0 (Wr.refl (fun _ => False) W) (fun _ hx => hx.elim) rfl (pl := { b := 0, off := 0, len := 0, sz := pl0.sz, lim := 0, virt := true }) (.inl rfl) (fun hle => ?_) (fun hle => ?_))
        · exact ⟨by simp, q5, q6, fun _ => by simp, fun hv => by cases hv⟩
        · exact RV_scalar ⟨_, setP_self, by simp⟩ rfl
      | false =>
        rw [hv] at q1
        simp only [Bool.false_eq_true, if_false] at q1
        obtain ⟨cap, e1, q9, q10⟩ := q1
        injection e1 with e1 _
        rw [q4] at e1 q9
        obtain ⟨c, el, fr, q11, q12, q13, q14⟩ := q8 hv
        have hrun := run_sliceAt (P := P) (W := W) (ad := some ⟨pl0.b, pl0.off, none⟩) ht q5 (run_bounds (P := P) (W := W) (isS := true) (len := xs.length) (cap := cap) (l := 0) (h := hh) hlob (hbd _) hc.1 (by omega) (by omega) hc.1)
        have hval : (if cap = (0 : Int).toNat then (some ⟨pl0.b, pl0.off, none⟩ : Option Addr) else (some ⟨pl0.b, pl0.off, none⟩ : Option Addr).map (·.add ((0 : Int).toNat * pl0.sz))) = some ⟨pl0.b, pl0.off, none⟩ := by
          split
          · rfl
          · simp [add_none]
        rw [hval] at hrun
        have hlen : (xs.take hh.toNat).length = hh.toNat := by rw [List.length_take]; omega
        refine wp_value (he _ (by rw [e1]; exact hrun)) (nxt_moved h hfr hl rfl q0 (Wr.refl (fun _ => False) W) (fun _ hx => hx.elim) rfl (pl := { pl0 with len := hh.toNat }) (.inr (.inr ⟨hv, rfl⟩)) (fun hle => ?_) (fun hle => ?_))
        · refine ⟨hlen.symm, q5, q6, (fun h => by rw [show pl0.virt = true from h] at hv; cases hv), fun _ => ⟨c, el, fr, q11, q12, q13, fun i x hx => ?_⟩⟩
          rw [List.getElem?_take] at hx
          split at hx
          · exact (q14 i x hx).stay hle.stay
          · cases hx
        · refine RV_scalar ⟨_, setP_self, ?_⟩ rfl
          show if pl0.virt = true then _ else _
          rw [hv]
          simp only [Bool.false_eq_true, if_false]
          exact ⟨cap, by simp, by show hh.toNat ≤ cap; omega, q10⟩
    case h_2 => cases hr
  case h_2 => cases hr
theorem opv_mapUpdate (h : Rel P G C β free N regs look a W) {o : Oper} {t : TypeId} {x ix y : Operand} (ho : o.op = .mapUpdate t x ix y ∨ o.op = .insert t x ix y) {r : OR} {u : OpOut}
    (hr : mapUpdateD P look t (evalD G regs x) (evalD G regs ix) (evalD G regs y) = some r) (hu : r.get = some u) : o.wp P a W (Nxt P G C β free N regs look o.dst nm u) Q := by
  generalize hx : evalD G regs x = dx at hr
  unfold mapUpdateD at hr
  split at hr
  case h_1 kt vt n hm =>
    split at hr
    case h_1 eq k f tv frz kt' vt' es hk hp hpv hl =>
      have hb := (bif_some hr).1
      replace hr := (bif_some hr).2
      simp only [Bool.and_eq_true, Bool.not_eq_true'] at hb
      have := beqN hb.1.1; subst this
      have := beqN hb.1.2; subst this
      have hnf : n ∉ frz := fun hm => by have := memN_iff.2 hm; rw [this] at hb; exact absurd hb.2 (by simp)
      cases hr
      cases done_get hu
      obtain ⟨pl, h2, h3, h1⟩ := ev_scalar h hx rfl
      simp only [List.cons.injEq, and_true] at h1
      obtain ⟨pl', h5, h6, ms, clock, h7, h8, h9⟩ := h.objs n _ hl
      rw [h2] at h5; cases h5
      change W.heap[pl.b]? = some (.map ms clock) at h7
      have hkv := key_val h hp (okOf C β look) (fun _ hb => hb)
      obtain ⟨d, hd, hK, _⟩ := key_of hk
      have hkk := hK hkv
      have hck : ∀ b, (Instr.checkKey b 10000 kt (a.eval ix)).run P W = .ok () W := fun b => MapKept.run_checkKey hd hkk b 9999
      have hex : ∀ W', (Instr.mapUpdate t (a.eval x) (a.eval ix) (a.eval y)).run P W = .ok () W' → (execOp a.eval o).run P W = .ok .skip W' := by
        intro W' hrun
        rcases ho with ho | ho <;> (simp only [execOp, ho, Sem.run_bind, hrun]; rfl)
      have hlive : ∀ (es' : List T) m, updF look ((n, some (.map kt vt es')) :: goneAll frz) m ≠ none → look m ≠ none ∧ (m ∉ frz) := by
        intro es' m hm
        simp only [updF, updF_gone] at hm
        split at hm
        · exact absurd rfl hm
        · rename_i hmf
          refine ⟨?_, hmf⟩
          unfold setF at hm
          split at hm
          · rename_i e; subst e; rw [hl]; simp
          · exact hm
      have hok : ∀ (es' : List T) b, okOf C β look b → okOf C β (updF look ((n, some (.map kt vt es')) :: goneAll frz)) b := fun es' b hok => ⟨hok.1, fun m p hm hp hv => hok.2 m p (hlive es' m hm).1 hp hv⟩
      have hval : ∀ es' : List T, PV P W (okOf C β (updF look ((n, some (.map kt vt es')) :: goneAll frz))) vt tv (a.eval y) := fun es' =>
        packT_val (M := memOf P C β look W) (look := look) h.objs (hok es') hpv (rv_eval h y)
          (fun m hm p hp hv => frz_ok h (packT_names hpv m hm).choose_spec.choose_spec rfl hp hv (fun m' p' hm' hp' hv' => .inl ⟨fun e => by subst e; exact (hlive es' m' hm').2 hm, (hlive es' m' hm').1, hp'⟩))
      rcases find_ents (M := memOf P C β look W) hd hk hkv es ms.toList 0 h8 with ⟨a1, a0, a2, a3, a4, a5⟩ | ⟨j, m', e', a1, a2, a3, a4, a5, a6, a7, a8, a9⟩
      · rw [a4]
        refine wp_skip' (hex _ ?_) (nxt_map h (es' := es ++ [.node [k, tv]]) (ms' := ms.push { key := a.eval ix, val := a.eval y, born := clock }) (clock' := clock + 1) hl h2 h3 h7 hnf ?_ (fun hle hst => ?_) (.inl rfl))
        · rw [h1]
          simp [Instr.mapUpdate, run_und hm, MapKept.run_getObj_map h7, hck, MapKept.run_findKey hd a1, MapKept.run_setObj_map _ h7]
        · exact MapKept.stamped_push h9 a0
        · rw [Array.toList_push]
          exact (REnts.le hle h8).push ⟨hkv.stay hle.stay, (hval _).stay hst⟩
      · rw [a8]
        have hj : ms[j]? = some m' := by simpa using a2
        rw [Nat.zero_add] at a1
        refine wp_skip' (hex _ ?_) (nxt_map h (es' := es.set j (.node [k, tv])) (ms' := ms.modify j fun e => { e with key := a.eval ix, val := a.eval y }) (clock' := clock) hl h2 h3 h7 hnf ?_ (fun hle hst => ?_) (.inl rfl))
        · rw [h1]
          simp [Instr.mapUpdate, run_und hm, MapKept.run_getObj_map h7, hck, MapKept.run_findKey hd a1, hj, a3, MapKept.run_keyThatStays hkk, MapKept.run_setObj_map _ h7]
        · exact MapKept.stamped_modify h9 _ _ (fun _ _ => rfl) (fun e' _ he' => by rw [hj] at he'; cases he'; exact a3.symm)
        · rw [modify_list _ _ _ hj]
          exact (REnts.le hle h8).set j ⟨hkv.stay hle.stay, (hval _).stay hst⟩
    case h_2 => cases hr
  case h_2 => cases hr
theorem nxt_mapP (h : Rel P G C β free N regs look a W) (hfr : free nm) {n : Nat} {kt vt : TypeId} {es : List T} {pl : Place} {ms ms' : Array MapEntry} {clock clock' : Nat} {k : T} (hl : look n = some (.map kt vt es)) (hpl : β n = some pl) (hv : pl.virt = false) (hb : W.heap[pl.b]? = some (.map ms clock))
    (born : Nat) {touch : List Nat} {d : D} {v : Value} {dst : Option Tmp}
    (hro : (memOf P C β look W).Le (memOf P C (setP β nm { b := born, virt := true }) (updF look [(n, some (.mapP kt vt es nm k))]) { W with heap := W.heap.setIfInBounds pl.b (.map ms' clock') }) →
      RO (memOf P C (setP β nm { b := born, virt := true }) (updF look [(n, some (.mapP kt vt es nm k))]) { W with heap := W.heap.setIfInBounds pl.b (.map ms' clock') }) (setP β nm { b := born, virt := true }) pl (.mapP kt vt es nm k))
    (hrv : (memOf P C β look W).Le (memOf P C (setP β nm { b := born, virt := true }) (updF look [(n, some (.mapP kt vt es nm k))]) { W with heap := W.heap.setIfInBounds pl.b (.map ms' clock') }) →
      RV (memOf P C (setP β nm { b := born, virt := true }) (updF look [(n, some (.mapP kt vt es nm k))]) { W with heap := W.heap.setIfInBounds pl.b (.map ms' clock') }) (setP β nm { b := born, virt := true }) d v) :
    Nxt P G C β free N regs look dst nm { d := d, upd := [(n, some (.mapP kt vt es nm k))], touch := touch, fresh := 1 } (a.put dst v) { W with heap := W.heap.setIfInBounds pl.b (.map ms' clock') } := by
  have hβ := h.free nm hfr
  have hne : n ≠ nm := fun e => by subst e; rw [hβ] at hpl; cases hpl
  have hw := put_wr (o' := .map ms' clock') hb
  have hlk : ∀ m o', updF look [(n, some (.mapP kt vt es nm k))] m = some o' → m = n ∧ o' = .mapP kt vt es nm k ∨ m ≠ n ∧ look m = some o' := by
    intro m o' hm
    simp only [updF, setF] at hm
    split at hm
    · rename_i e; cases hm; exact .inl ⟨e, rfl⟩
    · rename_i e; exact .inr ⟨e, hm⟩
  have hset : ∀ m, m ≠ nm → setP β nm { b := born, virt := true } m = β m := fun m hm => by unfold setP; rw [if_neg hm]
  have hX : ∀ b, b = pl.b → ∃ n pl' o, look n = some o ∧ isRo o = false ∧ β n = some pl' ∧ pl'.virt = false ∧ pl'.b = b := fun b hb => ⟨n, pl, _, hl, rfl, hpl, hv, hb.symm⟩
  have hsub : Sub β (setP β nm { b := born, virt := true }) := Sub.setP hβ
  have hlive : ∀ m, updF look [(n, some (.mapP kt vt es nm k))] m ≠ none → look m ≠ none := by
    intro m hm
    obtain ⟨o1, ho1⟩ := Option.ne_none_iff_exists'.1 hm
    rcases hlk m o1 ho1 with ⟨rfl, _⟩ | ⟨_, h2⟩
    · rw [hl]; simp
    · rw [h2]; simp
  have hold : ∀ m, look m ≠ none → m ≠ nm := fun m hm e => by
    obtain ⟨o1, ho1⟩ := Option.ne_none_iff_exists'.1 hm
    obtain ⟨pl1, h5, _⟩ := h.objs m o1 ho1
    rw [e, hβ] at h5; cases h5
  have hle := h.le hw hX hsub (look' := updF look [(n, some (.mapP kt vt es nm k))]) (fun m o' hm => .inl (hlive m (by rw [hm]; simp)))
  refine ⟨setP β nm { b := born, virt := true }, hsub, h.step hw hX hsub (fun m o' hm => ?_) (fun x y p p' hx hy hp hp' => ?_) hrv ?_⟩
  · rcases hlk m o' hm with ⟨rfl, rfl⟩ | ⟨hmn, h2⟩
    · exact .inr ⟨pl, hsub _ _ hpl, hro hle, fun _ => .inr ⟨m, _, pl, hl, hpl, hv, rfl, rfl⟩⟩
    · refine .inl ⟨h2, fun pl' hpl' hv' hbb => hmn ?_⟩
      exact h.inj m n pl' pl (by rw [h2]; simp) (by rw [hl]; simp) hpl' hpl hv' hv hbb
  · rw [hset x (hold x (hlive x hx))] at hp
    rw [hset y (hold y (hlive y hy))] at hp'
    exact h.inj x y p p' (hlive x hx) (hlive y hy) hp hp'
  · intro m hm
    show setP β nm _ m = none
    unfold setP
    rw [if_neg (fun e => hm.2 (by subst e; exact ⟨Nat.le_refl _, Nat.lt_succ_self _⟩))]
    exact h.free m hm.1
theorem opv_mapEntry (h : Rel P G C β free N regs look a W) (hfr : free nm) {o : Oper} {t : TypeId} {x ix : Operand} (ho : o.op = .mapEntry t x ix) {r : OR} {u : OpOut}
    (hr : mapEntryD P look nm t (evalD G regs x) (evalD G regs ix) = some r) (hu : r.get = some u) : o.wp P a W (Nxt P G C β free N regs look o.dst nm u) Q := by
  generalize hx : evalD G regs x = dx at hr
  unfold mapEntryD at hr
  split at hr
  case h_1 kt vt n hm =>
    split at hr
    case h_1 eq z k f kt' vt' es hk hz hp hl =>
      have hb := (bif_some hr).1
      replace hr := (bif_some hr).2
      simp only [Bool.and_eq_true] at hb
      have := beqN hb.1; subst this
      have := beqN hb.2; subst this
      have hzf := (bif_some hz).1
      replace hz := (bif_some hz).2
      cases hr
      cases done_get hu
      obtain ⟨pl, h2, h3, h1⟩ := ev_scalar h hx rfl
      simp only [List.cons.injEq, and_true] at h1
      obtain ⟨pl', h5, h6, ms, clock, h7, h8, h9⟩ := h.objs n _ hl
      rw [h2] at h5; cases h5
      change W.heap[pl.b]? = some (.map ms clock) at h7
      have hkv := key_val h hp (okOf C β look) (fun _ hb => hb)
      obtain ⟨d, hd, hK, _⟩ := key_of hk
      have hkk := hK hkv
      have hck : ∀ b, (Instr.checkKey b 10000 kt (a.eval ix)).run P W = .ok () W := fun b => MapKept.run_checkKey hd hkk b 9999
      obtain ⟨zv, hzr, hzp⟩ := zero_tree (M := memOf P C β look W) hzf hz W
      change (zeroValue vt).run P W = .ok zv W at hzr
      have hex : ∀ v W', (Instr.mapEntry t (a.eval x) (a.eval ix)).run P W = .ok v W' → (execOp a.eval o).run P W = .ok (.value v) W' := by
        intro v W' hrun
        simp only [execOp, ho, Sem.run_bind, hrun]; rfl
      have fin : ∀ {M' : Mem} {β' : Places} {t' : T} {v : Value} {b : Nat}, M'.P = P → PV M'.P M'.W M'.ok vt t' v → β' nm = some { b := b, virt := true } → RV M' β' (.tup [ofT P vt t', .stamp nm]) (.tuple #[v, goInt b]) := by
        intro M' β' t' v b hP hpv hβ
        obtain ⟨cs, hc1, hc2⟩ := hpv
        obtain ⟨hrc, hsc⟩ := PRep.ofT (M := M') (β := β') hc1
        rw [hP] at hrc hsc hc2
        exact ⟨#[v, goInt b], rfl, .inr ⟨cs, hrc, VF_of hsc hc2⟩, .inr ⟨[.int .i64 (b : Nat)], ⟨_, hβ, rfl⟩, by simp [VF, scalar, goInt]⟩, trivial⟩
      rcases find_ents (M := memOf P C β look W) hd hk hkv es ms.toList 0 h8 with ⟨a1, a0, a2, a3, a4, a5⟩ | ⟨j, m', e', a1, a2, a3, a4, a5, a6, a7, a8, a9⟩
      · rw [a3]
        refine wp_value (v := .tuple #[zv, goInt clock]) (hex _ _ ?_) (nxt_mapP h hfr (ms' := ms.push { key := a.eval ix, val := zv, born := clock }) (clock' := clock + 1) hl h2 h3 h7 clock (fun hle => ?_) (fun hle => ?_))
        · rw [h1]
          simp [Instr.mapEntry, run_und hm, MapKept.run_getObj_map h7, hck, MapKept.run_findKey hd a1, hzr, MapKept.run_setObj_map _ h7]
        · refine ⟨h3, _, clock + 1, eq, { b := clock, virt := true }, ms.size, { key := a.eval ix, val := zv, born := clock }, es ++ [.node [k, z]], (MapKept.heap_set h7).1, ?_, MapKept.stamped_push h9 a0, hk, by simp [setP], by simp, rfl, hkv.stay hle.stay, fun y => ?_⟩
          · rw [Array.toList_push]
            exact (REnts.le hle h8).push ⟨hkv.stay hle.stay, PV.stay hle.stay hzp⟩
          · have hlen : es.length = ms.size := by
              have : ∀ {es : List T} {ms : List MapEntry}, REnts (memOf P C β look W) kt vt es ms → es.length = ms.length := by
                intro es
                induction es with
                | nil => intro ms h; cases ms <;> first | rfl | exact h.elim
                | cons e es ih =>
                  intro ms h
                  cases ms with
                  | nil => exact h.elim
                  | cons m ms => simp [ih h.2]
              rw [this h8, Array.length_toList]
            rw [a4 y, ← hlen, List.set_append_right _ _ (Nat.le_refl _)]
            simp
        · exact fin rfl (PV.stay hle.stay hzp) (by simp [setP])
      · rw [a7]
        have hj : ms[j]? = some m' := by simpa using a2
        rw [Nat.zero_add] at a1
        refine wp_value (v := .tuple #[m'.val, goInt m'.born]) (hex _ _ ?_) (nxt_mapP h hfr (ms' := ms.modify j fun e => { e with key := a.eval ix }) (clock' := clock) hl h2 h3 h7 m'.born (fun hle => ?_) (fun hle => ?_))
        · rw [h1]
          simp [Instr.mapEntry, run_und hm, MapKept.run_getObj_map h7, hck, MapKept.run_findKey hd a1, hj, a3, MapKept.run_keyThatStays hkk, MapKept.run_setObj_map _ h7]
        · have hmod := modify_list ms j (fun e => { e with key := a.eval ix }) hj
          refine ⟨h3, _, clock, eq, { b := m'.born, virt := true }, j, { m' with key := a.eval ix }, es, (MapKept.heap_set h7).1, ?_, MapKept.stamped_modify h9 _ _ (fun _ _ => rfl) (fun e' _ he' => by rw [hj] at he'; cases he'; exact a3.symm), hk, by simp [setP], ?_, rfl, hkv.stay hle.stay, a8⟩
          · rw [hmod]
            have hse : es.set j e' = es := by
              apply List.ext_getElem?
              intro i
              rw [List.getElem?_set]
              by_cases e : j = i
              · subst e; rw [if_pos rfl, a4, if_pos (List.getElem?_eq_some_iff.1 a4).1]
              · rw [if_neg e]
            have := (REnts.le hle h8).set j (e := e') (m := { m' with key := a.eval ix }) ⟨by have := PV.stay hle.stay a5.1; rw [a3] at this; exact this, PV.stay hle.stay a5.2⟩
            rw [hse] at this
            exact this
          · rw [← Array.getElem?_toList, hmod, List.getElem?_set_self (List.getElem?_eq_some_iff.1 a2).1]
        · exact fin rfl (PV.stay hle.stay a5.2) (by simp [setP])
    case h_2 => cases hr
  case h_2 => cases hr
theorem opv_entryStore (h : Rel P G C β free N regs look a W) {o : Oper} {t : TypeId} {x s y : Operand} (ho : o.op = .entryStore t x s y) {r : OR} {u : OpOut}
    (hr : entryStoreD P look t (evalD G regs x) (evalD G regs s) (evalD G regs y) = some r) (hu : r.get = some u) : o.wp P a W (Nxt P G C β free N regs look o.dst nm u) Q := by
  generalize hx : evalD G regs x = dx at hr
  generalize hs : evalD G regs s = ds at hr
  unfold entryStoreD at hr
  split at hr
  case h_1 kt vt n st hm =>
    split at hr
    case h_1 eq tv frz kt' vt' es st' k hk hpv hl =>
      have hb := (bif_some hr).1
      replace hr := (bif_some hr).2
      simp only [Bool.and_eq_true, Bool.not_eq_true'] at hb
      have := beqN hb.1.1.1; subst this
      have := beqN hb.1.1.2; subst this
      have := beqN hb.1.2; subst this
      have hnf : n ∉ frz := fun hm => by have := memN_iff.2 hm; rw [this] at hb; exact absurd hb.2 (by simp)
      cases hr
      cases done_get hu
      obtain ⟨pl, h2, h3, h1⟩ := ev_scalar h hx rfl
      simp only [List.cons.injEq, and_true] at h1
      obtain ⟨pls, g2, g1⟩ := ev_scalar h hs rfl
      simp only [List.cons.injEq, and_true] at g1
      obtain ⟨pl', h5, h6, ms, clock, eq', pls', j, m, es1, h7, h8, h9, h10, h11, h12, h13, h14, h15⟩ := h.objs n _ hl
      rw [h2] at h5; cases h5
      rw [g2] at h11; cases h11
      have heq : eq' = eq := by
        change keyEq P kt = some eq' at h10
        rw [hk] at h10; cases h10; rfl
      subst heq
      change W.heap[pl.b]? = some (.map ms clock) at h7
      have hfind : ms.findIdx? (fun e => (e.born : Int) == ((pls.b : Nat) : Int)) = some j := by
        rw [Array.findIdx?_eq_some_iff_getElem]
        have hjl := (Array.getElem?_eq_some_iff.1 h12).1
        have hje := (Array.getElem?_eq_some_iff.1 h12).2
        refine ⟨hjl, by rw [hje, h13]; simp, fun i hi => ?_⟩
        have hil : i < ms.size := by omega
        simp only [beq_iff_eq, ← h13]
        intro hc
        have hc' : ms[i].born = m.born := by exact_mod_cast hc
        have hnd := h9.2.1
        have h16 : (ms.toList.map (·.born))[i]? = (ms.toList.map (·.born))[j]? := by
          rw [List.getElem?_map, List.getElem?_map, Array.getElem?_toList, Array.getElem?_toList, h12, Array.getElem?_eq_getElem hil]
          simp [hc']
        have := (List.getElem?_inj (by simpa using hil) hnd).1 h16
        omega
      have hmod := modify_list ms j (fun e => { e with val := a.eval y }) h12
      have hex : ∀ W', (Instr.entryStore t (a.eval x) (a.eval s) (a.eval y)).run P W = .ok () W' → (execOp a.eval o).run P W = .ok .skip W' := by
        intro W' hrun
        simp only [execOp, ho, Sem.run_bind, hrun]; rfl
      have hlive : ∀ m, updF look ((n, some (.map kt vt (mput eq' es k tv))) :: goneAll frz) m ≠ none → look m ≠ none ∧ (m ∉ frz) := by
        intro m hm
        simp only [updF, updF_gone] at hm
        split at hm
        · exact absurd rfl hm
        · rename_i hmf
          refine ⟨?_, hmf⟩
          unfold setF at hm
          split at hm
          · rename_i e; subst e; rw [hl]; simp
          · exact hm
      have hok : ∀ b, okOf C β look b → okOf C β (updF look ((n, some (.map kt vt (mput eq' es k tv))) :: goneAll frz)) b := fun b hok => ⟨hok.1, fun m p hm hp hv => hok.2 m p (hlive m hm).1 hp hv⟩
      have hval : PV P W (okOf C β (updF look ((n, some (.map kt vt (mput eq' es k tv))) :: goneAll frz))) vt tv (a.eval y) :=
        packT_val (M := memOf P C β look W) (look := look) h.objs hok hpv (rv_eval h y)
          (fun m hm p hp hv => frz_ok h (packT_names hpv m hm).choose_spec.choose_spec rfl hp hv (fun m' p' hm' hp' hv' => .inl ⟨fun e => by subst e; exact (hlive m' hm').2 hm, (hlive m' hm').1, hp'⟩))
      have hw := put_wr (o' := .map (ms.modify j fun e => { e with val := a.eval y }) clock) h7
      refine wp_skip' (hex _ ?_) (nxt_write h hl rfl h2 h3 hw hnf (fun hle => ?_) rfl (fun _ => trivial))
      · rw [h1, g1]
        simp [Instr.entryStore, MapKept.run_getObj_map h7, asInt, asIntOf, hfind, MapKept.run_setObj_map _ h7]
      · refine ⟨h3, _, clock, (MapKept.heap_set h7).1, ?_, MapKept.stamped_modify h9 _ _ (fun _ _ => rfl) (fun _ _ _ => rfl)⟩
        rw [hmod]
        have hstW : Stay (okOf C β (updF look ((n, some (.map kt vt (mput eq' es k tv))) :: goneAll frz))) (okOf C β (updF look ((n, some (.map kt vt (mput eq' es k tv))) :: goneAll frz))) W { W with heap := W.heap.setIfInBounds pl.b (.map (ms.modify j fun e => { e with val := a.eval y }) clock) } := by
          refine ⟨fun b hb => .inl hb, fun b o hbk hbo => ?_⟩
          have hbl : b < W.heap.size := by
            rcases Nat.lt_or_ge b W.heap.size with hlt | hge
            · exact hlt
            · rw [Array.getElem?_eq_none hge] at hbo; cases hbo
          refine (hw.block b hbl ?_).trans hbo
          intro hbe
          subst hbe
          have hnl : updF look ((n, some (.map kt vt (mput eq' es k tv))) :: goneAll frz) n ≠ none := by
            simp only [updF, updF_gone, if_neg hnf, setF, if_true]; simp
          exact hbk.2 n pl hnl h2 h3 rfl
        have hq := (REnts.le hle h8).set j (e := .node [k, tv]) (m := { m with val := a.eval y }) ⟨PV.stay hle.stay h14, PV.stay hstW hval⟩
        rw [← h15 tv] at hq
        exact hq
    case h_2 => cases hr
  case h_2 => cases hr
theorem opv_delete (h : Rel P G C β free N regs look a W) {o : Oper} {t : TypeId} {x ix : Operand} (hex : ∀ W', (Builtin.delete_ #[t] o.type #[a.eval x, a.eval ix]).run P W = .ok (.tuple #[]) W' → (execOp a.eval o).run P W = .ok (.value (.tuple #[])) W') {r : OR} {u : OpOut}
    (hr : deleteD P look t (evalD G regs x) (evalD G regs ix) = some r) (hu : r.get = some u) : o.wp P a W (Nxt P G C β free N regs look o.dst nm u) Q := by
  generalize hx : evalD G regs x = dx at hr
  unfold deleteD at hr
  split at hr
  case h_1 kt vt n hm =>
    split at hr
    case h_1 eq k f kt' vt' es hk hp hl =>
      have hb := (bif_some hr).1
      replace hr := (bif_some hr).2
      simp only [Bool.and_eq_true] at hb
      have := beqN hb.1; subst this
      have := beqN hb.2; subst this
      cases hr
      cases done_get hu
      obtain ⟨pl, h2, h3, h1⟩ := ev_scalar h hx rfl
      simp only [List.cons.injEq, and_true] at h1
      obtain ⟨pl', h5, h6, ms, clock, h7, h8, h9⟩ := h.objs n _ hl
      rw [h2] at h5; cases h5
      change W.heap[pl.b]? = some (.map ms clock) at h7
      have hkv := key_val h hp (okOf C β look) (fun _ hb => hb)
      obtain ⟨d, hd, hK, _⟩ := key_of hk
      have hkk := hK hkv
      have hck : ∀ b, (Instr.checkKey b 10000 kt (a.eval ix)).run P W = .ok () W := fun b => MapKept.run_checkKey hd hkk b 9999
      rcases find_ents (M := memOf P C β look W) hd hk hkv es ms.toList 0 h8 with ⟨a1, a0, a2, a3, a4, a5⟩ | ⟨j, m', e', a1, a2, a3, a4, a5, a6, a7, a8, a9⟩
      · rw [a5]
        refine wp_value (v := .tuple #[]) (hex _ ?_) (nxt_map h (frz := []) (es' := es) (ms' := ms) (clock' := clock) hl h2 h3 h7 (by simp) h9 (fun hle hst => REnts.le hle h8) (.inr ⟨rfl, rfl⟩))
        rw [h1]
        simp [Builtin.delete_, run_und hm, MapKept.run_getObj_map h7, hck, MapKept.run_findKey hd a1, MapKept.run_setObj_map _ h7]
      · rw [a9]
        rw [Nat.zero_add] at a1
        refine wp_value (v := .tuple #[]) (hex _ ?_) (nxt_map h (frz := []) (es' := es.eraseIdx j) (ms' := ms.eraseIdxIfInBounds j) (clock' := clock) hl h2 h3 h7 (by simp) ?_ (fun hle hst => ?_) (.inr ⟨rfl, rfl⟩))
        · rw [h1]
          simp [Builtin.delete_, run_und hm, MapKept.run_getObj_map h7, hck, MapKept.run_findKey hd a1, MapKept.run_setObj_map _ h7]
        · exact MapKept.stamped_erase h9 j
        · rw [erase_list]; exact (REnts.le hle h8).erase j
    case h_2 => cases hr
  case h_2 => cases hr
end

section
variable {P : Program} {G : Globs} {C : Ctx} {β : Places} {free : Nat → Prop} {N : Nat} {regs : Regs} {look : Look} {a : Act} {W : World} {nm : Nat} {Q : Exit → Act → World → Prop}
theorem exec_builtin {o : Oper} {c : Call} {b : Builtin} (ho : o.op = .call c) (hc : c.callee = .builtin b) :
    (execOp a.eval o).run P W = (builtin b c.argTypes o.type (c.args.map fun | .const _ => true | _ => false) (c.args.map a.eval)).run P W := by
  simp only [execOp, ho, resolve, hc, invoke, Sem.run_bind, Sem.run_pure, Result.andThen_ok]
  rfl
theorem opv_builtin (h : Rel P G C β free N regs look a W) (hfr : ∀ u : OpOut, u.fresh = 1 → free nm) {o : Oper} {c : Call} {b : Builtin} (ho : o.op = .call c) (hc : c.callee = .builtin b) {r : OR} {u : OpOut}
    (hr : builtinD P look nm b c.argTypes.toList (c.args.toList.map (evalD G regs)) = some r) (hu : r.get = some u) : o.wp P a W (Nxt P G C β free N regs look o.dst nm u) Q := by
  have hex := exec_builtin (P := P) (a := a) (W := W) ho hc
  unfold builtinD at hr
  split at hr
  case h_1 τ x hts hargs =>
    have hk := (bif_some hr).1
    replace hr := (bif_some hr).2
    obtain ⟨ox, hl, rfl⟩ := map_one hargs
    have ha := arr_one hl
    have ht := arr_one hts
    obtain ⟨n, h1, h2, h3, h4⟩ := opv_len h hr hu
    obtain ⟨ud, uu, ut, uf⟩ := u
    simp only at h1 h2 h3
    subst h1; subst h2; subst h3
    have hlen : (Builtin.len_ #[τ] o.type #[a.eval ox]).run P W = .ok (.int .i64 n) W := by
      generalize hd : evalD G regs ox = dx at hk
      have hrv := rv_eval h ox
      rw [hd] at hrv
      unfold lenOk at hk
      split at hk <;> first
        | (cases hk; done)
        | (rename_i hu'
           rcases h4 with ⟨s, e1, e2⟩ | ⟨ad, len, cap, e1, e2⟩ | ⟨e1, e2⟩ | ⟨b, ms, cl, e1, e2, e3⟩ <;>
             (rw [e1] at hrv ⊢; first
               | (exfalso; (first
                   | (obtain ⟨_, h5, h6⟩ := hrv; simp [RC, VF, scalar] at h5 h6; done)
                   | (obtain ⟨_, h5, h6⟩ := hrv; obtain ⟨_, _, h7, _⟩ := h5; simp [VF, scalar] at h6; rw [h6] at h7; simp at h7; done)
                   | (obtain ⟨_, h5, h6⟩ := hrv; obtain ⟨_, h7⟩ := h5; simp [VF, scalar] at h6; rw [h6] at h7; simp at h7; done)
                   | (have h5 := RV_out hrv rfl; simp [RC] at h5; done)
                   | (obtain ⟨_, _, h7⟩ := RV_out hrv rfl; split at h7 <;> simp at h7; done)
                   | (obtain ⟨_, _, _, h7⟩ := RV_out hrv rfl; simp at h7; done)))
               | (subst e2; simp [Builtin.len_, run_und hu', goInt]; done)
               | (subst e3; simp [Builtin.len_, run_und hu', goInt, getObj, Sem.run, e2]; done)))
    refine wp_pure h (v := .int .i64 n) ?_ rv_int
    rw [hex, ht, ha]
    simp only [builtin, Sem.run_bind, List.map_toArray, List.map_cons, List.map_nil, hlen]
    rfl
  case h_2 l hl =>
    obtain ⟨k, n, rfl, hrun⟩ := opv_minmax h (f := minI) (op := Builtin.min2) (fun k x y w => by simp [Builtin.min2, minI]) hr hu
    refine wp_pure h (v := .int k n) ?_ rv_int
    rw [hex]
    cases hcl : c.args.toList with
    | nil => rw [hcl] at hr; simp [minmaxD] at hr
    | cons x l' =>
      rw [hcl] at hrun
      simp only [List.map_cons] at hrun
      simp only [builtin, Builtin.min_, Sem.run_bind, Array.toList_map, hcl, List.map_cons, hrun]
      rfl
  case h_3 l hl =>
    obtain ⟨k, n, rfl, hrun⟩ := opv_minmax h (f := maxI) (op := Builtin.max2) (fun k x y w => by simp [Builtin.max2, maxI]) hr hu
    refine wp_pure h (v := .int k n) ?_ rv_int
    rw [hex]
    cases hcl : c.args.toList with
    | nil => rw [hcl] at hr; simp [minmaxD] at hr
    | cons x l' =>
      rw [hcl] at hrun
      simp only [List.map_cons] at hrun
      simp only [builtin, Builtin.max_, Sem.run_bind, Array.toList_map, hcl, List.map_cons, hrun]
      rfl
  case h_4 t t2 s x hts hargs =>
    obtain ⟨os, ox, hl, rfl, rfl⟩ := map_two hargs
    have ha := arr_two hl
    have ht := arr_two hts
    unfold appendD at hr
    split at hr
    case h_1 e s0 hro =>
      obtain ⟨hsl, hsz, hs0⟩ := rowOf_slice hro
      split at hr
      case h_1 i ys tx d hi hadd hzv =>
        have hb := (bif_some hr).1
        replace hr := (bif_some hr).2
        simp only [Bool.and_eq_true] at hb
        have hni : ∃ d2, P.underlying t2 = some d2 ∧ ∀ k, d2 ≠ .int k := by
          have := hb.1
          unfold notInt at this
          split at this
          · cases this
          · rename_i d2 hd2 hne; exact ⟨d2, hne, fun k e => hd2 k e⟩
          · cases this
        obtain ⟨d2, hd2, hni⟩ := hni
        obtain ⟨cs, hA⟩ := adds_read h hsz (rv_eval h ox) hadd
        obtain ⟨i', z, hi', hz, hz2⟩ := zeroVal_rep (M := memOf P C β look W) (β := β) hzv
        change P.info? e = some i' at hi'
        rw [hi] at hi'; cases hi'
        have hzs : z.cells.size = s0 := by
          obtain ⟨q1, q2⟩ := hz2 s0 hsz
          have := fits_length (M := memOf P C β look W) q1 q2
          change csz P e = _ at this
          rw [hsz] at this
          simpa using (Option.some.inj this).symm
        refine opv_appendTo h hfr (t := t) (t2 := t2) (ty := o.type) (ox := os) (vx := a.eval ox) (fun v W' hv => ?_) hsl hsz hs0 hd2 hni hi hz hzs (Nat.le_of_ble_eq_true hb.2) hA hr hu
        rw [hex, ht, ha]
        simp only [builtin, Sem.run_bind, List.map_toArray, List.map_cons, List.map_nil, hv]
        rfl
      case h_2 => cases hr
    case h_2 => cases hr
  case h_5 t ts x k hts hargs =>
    obtain ⟨ox, ok, hl, rfl, rfl⟩ := map_two hargs
    have ha := arr_two hl
    have ht : c.argTypes[0]? = some t := by rw [← Array.getElem?_toList, hts]; rfl
    refine opv_delete h (t := t) (x := ox) (ix := ok) (fun W' hrun => ?_) hr hu
    rw [hex, ha]
    simp only [builtin, List.map_toArray, List.map_cons, List.map_nil]
    have he : ∀ vs : Array Value, Builtin.delete_ c.argTypes o.type vs = Builtin.delete_ #[t] o.type vs := by
      intro vs
      simp only [Builtin.delete_, ht]
      rfl
    rw [Sem.run_bind, he, hrun]
    rfl
  case h_6 => cases hr
end
end Go.Proofs.YtbejhhoakeapgaaVM
namespace Go.Proofs.YtbejhhoakeapgaaVM
open Go Go.RowKit
set_option linter.unusedVariables false
set_option linter.unusedSimpArgs false

theorem bindN_spec {σ σ' : List (Nat × Option Nat)} {j : Nat} {x : Option Nat} (h : bindN σ j x = some σ') : sigma σ' j = some x ∧ ∀ i y, sigma σ i = some y → sigma σ' i = some y := by
  unfold bindN at h
  split at h
  case h_1 m n hs =>
    have hb := beqN (bif_some h).1
    replace h := (bif_some h).2
    cases h; subst hb
    exact ⟨hs, fun _ _ h => h⟩
  case h_2 hs => cases h; exact ⟨hs, fun _ _ h => h⟩
  case h_3 n hs =>
    cases hn : hasName σ n <;> rw [hn] at h
    · simp only [cond_false, Option.some.injEq] at h
      subst h
      refine ⟨by simp [sigma], fun i y hi => ?_⟩
      simp only [sigma]
      cases hb : Nat.beq j i with
      | true => have := beqN hb; subst this; rw [hs] at hi; cases hi
      | false => simpa using hi
    · cases h
  case h_4 hs =>
    cases h
    refine ⟨by simp [sigma], fun i y hi => ?_⟩
    simp only [sigma]
    cases hb : Nat.beq j i with
    | true => have := beqN hb; subst this; rw [hs] at hi; cases hi
    | false => simpa using hi
  case h_5 => cases h
theorem hasName_sigma : ∀ {σ : List (Nat × Option Nat)} {j n : Nat}, sigma σ j = some (some n) → hasName σ n = true
  | [], j, n, h => by simp [sigma] at h
  | (i, x) :: σ, j, n, h => by
    simp only [sigma] at h
    cases hb : Nat.beq i j with
    | true =>
      rw [hb] at h
      simp at h
      subst h
      simp [hasName]
    | false =>
      rw [hb] at h
      simp only [cond_false] at h
      have := hasName_sigma h
      cases x <;> simp [hasName, this]
def SInj (σ : List (Nat × Option Nat)) : Prop := ∀ i j n, sigma σ i = some (some n) → sigma σ j = some (some n) → i = j
theorem bindN_inj {σ σ' : List (Nat × Option Nat)} {j : Nat} {x : Option Nat} (h : bindN σ j x = some σ') (hi : SInj σ) : SInj σ' := by
  unfold bindN at h
  split at h
  case h_1 m n hs => replace h := (bif_some h).2; cases h; exact hi
  case h_2 => cases h; exact hi
  case h_3 n hs =>
    cases hn : hasName σ n <;> rw [hn] at h
    · simp only [cond_false, Option.some.injEq] at h
      subst h
      intro a b m ha hb
      simp only [sigma] at ha hb
      cases e1 : Nat.beq j a <;> cases e2 : Nat.beq j b <;> rw [e1] at ha <;> rw [e2] at hb <;> simp only [cond_true, cond_false] at ha hb
      · exact hi a b m ha hb
      · simp at hb; subst hb; have := hasName_sigma ha; rw [hn] at this; cases this
      · simp at ha; subst ha; have := hasName_sigma hb; rw [hn] at this; cases this
      · exact (beqN e1).symm.trans (beqN e2)
    · cases h
  case h_4 hs =>
    cases h
    intro a b m ha hb
    simp only [sigma] at ha hb
    cases e1 : Nat.beq j a <;> cases e2 : Nat.beq j b <;> rw [e1] at ha <;> rw [e2] at hb <;> simp only [cond_true, cond_false] at ha hb
    · exact hi a b m ha hb
    · simp at hb
    · simp at ha
    · simp at ha
  case h_5 => cases h

structure Pk.Le (k k' : Pk) : Prop where
  as : ∃ l, k'.as = k.as ++ l
  σ : ∀ j x, sigma k.σ j = some x → sigma k'.σ j = some x
  frz : ∀ n, n ∈ k.frz → n ∈ k'.frz
  inj : SInj k.σ → SInj k'.σ
  held : ∀ n, n ∈ k.held → n ∈ k'.held
theorem Pk.Le.refl (k : Pk) : k.Le k := ⟨⟨[], by simp⟩, fun _ _ h => h, fun _ h => h, fun h => h, fun _ h => h⟩
theorem Pk.Le.trans {a b c : Pk} (h : a.Le b) (k : b.Le c) : a.Le c :=
  ⟨by obtain ⟨l, h1⟩ := h.as; obtain ⟨m, h2⟩ := k.as; exact ⟨l ++ m, by rw [h2, h1, List.append_assoc]⟩, fun j x hx => k.σ j x (h.σ j x hx), fun n hn => k.frz n (h.frz n hn), fun hi => k.inj (h.inj hi), fun n hn => k.held n (h.held n hn)⟩
theorem Pk.Le.bind {k : Pk} {j : Nat} {x : Option Nat} {σ : List (Nat × Option Nat)} (h : bindN k.σ j x = some σ) : k.Le ⟨k.as, σ, k.frz, k.held⟩ :=
  ⟨⟨[], by simp⟩, (bindN_spec h).2, fun _ h => h, bindN_inj h, fun _ h => h⟩
theorem Pk.Le.one {k : Pk} (t : A) : k.Le ⟨k.as ++ [t], k.σ, k.frz, k.held⟩ := ⟨⟨_, rfl⟩, fun _ _ h => h, fun _ h => h, fun h => h, fun _ h => h⟩
section
variable {P : Program} {look : Look}
mutual
theorem packR_le : ∀ (c : RM) {d : D} {k k' : Pk}, packR P look c d k = some k' → k.Le k' ∧ k'.held = k.held
  | .v τ, d, k, k', h => by
    unfold packR at h
    split at h
    · cases h; exact ⟨⟨⟨_, rfl⟩, fun _ _ h => h, fun n hn => List.mem_append_left _ hn, fun h => h, fun _ h => h⟩, rfl⟩
    · cases h
  | .fn ps rs, d, k, k', h => by
    cases d <;> simp only [packR] at h <;> first
      | (cases h; done)
      | (replace h := (bif_some h).2; cases h; exact ⟨⟨⟨_, rfl⟩, fun _ _ h => h, fun n hn => hn, fun h => h, fun _ h => h⟩, rfl⟩)
  | .p j τ, d, k, k', h => by
    cases d <;> try (simp only [packR] at h; cases h; done)
    case ptr n τ' path =>
      cases path with
      | cons => simp [packR] at h
      | nil =>
        simp only [packR] at h
        replace h := (bif_some h).2
        split at h
        case h_1 σ hb => cases h; exact ⟨.bind hb, rfl⟩
        case h_2 => cases h
  | .o j, d, k, k', h => by
    cases d <;> simp only [packR] at h <;> first
      | (cases h; done)
      | (split at h
         · rename_i hb; cases h; exact ⟨.bind hb, rfl⟩
         · cases h)
  | .m j, d, k, k', h => by
    cases d <;> simp only [packR] at h <;> first
      | (cases h; done)
      | (split at h
         · rename_i hb; cases h; exact ⟨.bind hb, rfl⟩
         · cases h)
  | .np, d, k, k', h => by
    cases d <;> simp only [packR] at h <;> first
      | (cases h; done)
      | (cases h; exact ⟨.refl _, rfl⟩)
  | .nl, d, k, k', h => by
    cases d <;> simp only [packR] at h <;> first
      | (cases h; done)
      | (cases h; exact ⟨.refl _, rfl⟩)
  | .nm, d, k, k', h => by
    cases d <;> simp only [packR] at h <;> first
      | (cases h; done)
      | (cases h; exact ⟨.refl _, rfl⟩)
  | .nf, d, k, k', h => by
    cases d <;> simp only [packR] at h <;> first
      | (cases h; done)
      | (cases h; exact ⟨.refl _, rfl⟩)
  | .clo f cs, d, k, k', h => by
    cases d <;> simp only [packR] at h <;> first
      | (cases h; done)
      | exact packRs_le cs (bif_some h).2
  | .agg τ cs, d, k, k', h => by
    cases d <;> simp only [packR] at h <;> first
      | (cases h; done)
      | exact packRs_le cs (bif_some h).2
      | (replace h := (bif_some h).2
         split at h
         · exact packRs_le cs h
         · cases h)
theorem packRs_le : ∀ (cs : List RM) {ds : List D} {k k' : Pk}, packRs P look cs ds k = some k' → k.Le k' ∧ k'.held = k.held
  | [], ds, k, k', h => by cases ds <;> simp only [packRs] at h <;> cases h; exact ⟨.refl _, rfl⟩
  | c :: cs, ds, k, k', h => by
    cases ds <;> simp only [packRs] at h
    case nil => cases h
    case cons d ds =>
      split at h
      case h_1 k1 h1 =>
        obtain ⟨a1, a2⟩ := packR_le c h1
        obtain ⟨b1, b2⟩ := packRs_le cs h
        exact ⟨a1.trans b1, b2.trans a2⟩
      case h_2 => cases h
end
theorem packObjs_le {st : Bool} : ∀ (l : List OM) {j : Nat} {k k' : Pk}, packObjs P st look j l k = some k' → k.Le k' ∧ k'.held = k.held
  | [], j, k, k', h => by simp only [packObjs] at h; cases h; exact ⟨.refl _, rfl⟩
  | .gone :: l, j, k, k', h => by simp only [packObjs] at h; exact packObjs_le l h
  | .var τ c ro :: l, j, k, k', h => by
    simp only [packObjs] at h
    split at h
    · split at h
      · replace h := (bif_some h).2
        split at h
        case h_1 k1 h1 =>
          obtain ⟨a1, a2⟩ := packR_le c h1
          obtain ⟨b1, b2⟩ := packObjs_le l h
          exact ⟨a1.trans b1, b2.trans a2⟩
        case h_2 => cases h
      · cases h
    · cases h
  | .row e :: l, j, k, k', h => by
    simp only [packObjs] at h
    split at h
    · split at h
      · obtain ⟨b1, b2⟩ := packObjs_le l (bif_some h).2
        exact ⟨(Pk.Le.one _).trans b1, b2⟩
      · cases h
    · split at h
      · obtain ⟨b1, b2⟩ := packObjs_le l h
        exact ⟨(Pk.Le.one _).trans b1, b2⟩
      · cases h
    · cases h
  | .map kt vt :: l, j, k, k', h => by
    simp only [packObjs] at h
    split at h
    · split at h
      · obtain ⟨b1, b2⟩ := packObjs_le l (bif_some h).2
        exact ⟨(Pk.Le.one _).trans b1, b2⟩
      · cases h
    · cases h
end

structure Tr (M M' : Mem) (β : Places) (F : List Nat) : Prop where
  P : M'.P = M.P
  mid : Stay (fun b => M.ok b ∨ ∃ n, n ∈ F ∧ ∃ pl, β n = some pl ∧ pl.virt = false ∧ pl.b = b) M'.ok M.W M'.W
  fn : ∀ g ps rs v, FnRep M.P M.C g ps rs v → FnRep M.P M'.C g ps rs v
structure Bind (β β' : Places) (σ : List (Nat × Option Nat)) (nm : Nat → Nat) : Prop where
  some_ : ∀ j n pl, sigma σ j = some (some n) → β n = some pl → β' (nm j) = some pl
  virt_ : ∀ j, sigma σ j = some none → ∃ pl, β' (nm j) = some pl ∧ pl.virt = true ∧ pl.len = 0
section
variable {M M' : Mem} {β β' : Places} {look : Look} {F : List Nat} {σf : List (Nat × Option Nat)} {nm : Nat → Nat} {as : List A} {off : Nat}
theorem packT_fits {lk : Look} {τ σ : TypeId} {d : D} {t : T} {f : List Nat} (h : packT M.P lk τ d = some (t, f)) (hf : fits M.P σ d = true) : fits M.P σ (ofT M.P τ t) = true := by
  have hs := packT_scalar h
  have hsc := fits_scalar hf
  cases hb : scalar d with
  | true =>
    have h1 : (!isAggB M.P σ && (csz M.P σ).isSome) = true := by
      cases d <;> simp [scalar] at hb <;> exact hf
    cases d <;> simp [scalar] at hb <;> simp only [packT] at h <;> (try (cases h; done))
    all_goals
      split at h <;> first
        | (cases h; done)
        | (rename_i hu; simp only [ofT, hu, fits]; exact h1)
        | (rename_i hu; simp only [ofT, (rowOf_slice hu).1, fits]; exact h1)
        | (rename_i hu _; simp only [ofT, (rowOf_slice hu).1, fits]; exact h1)
  | false =>
    cases d <;> (try (simp [scalar] at hb; done))
    case tup => simp [packT] at h
    case undef => simp [packT] at h
    case tree τ' t' =>
      simp only [packT] at h
      have := beqN (bif_some h).1
      subst this
      rw [hb] at hs
      have hagg : isAggB M.P τ = true := by simpa using hs.symm
      simp only [fits, Bool.and_eq_true] at hf
      have := beqN hf.1; subst this
      unfold isAggB at hagg
      split at hagg <;> first
        | (rename_i hu; simp [ofT, hu, fits, isAggB]; done)
        | cases hagg
    case agg τ' ds =>
      simp only [packT] at h
      have := beqN (bif_some h).1
      subst this
      rw [hb] at hs
      have hagg : isAggB M.P τ = true := by simpa using hs.symm
      simp only [fits, Bool.and_eq_true] at hf
      have := beqN hf.1; subst this
      unfold isAggB at hagg
      split at hagg <;> first
        | (rename_i hu; simp [ofT, hu, fits, isAggB]; done)
        | cases hagg
theorem packT_tr (ho : Objs M β look) (tr : Tr M M' β F) {d : D} {τ : TypeId} {t : T} {f : List Nat} {cs : List Value} (h : packT M.P look τ d = some (t, f)) (hc : RC M β d cs) (hf : ∀ n, n ∈ f → n ∈ F) : PRep M'.P M'.W M'.ok τ t cs := by
  rw [tr.P]
  exact (packT_rep ho (ok' := fun b => M.ok b ∨ ∃ n, n ∈ F ∧ ∃ pl, β n = some pl ∧ pl.virt = false ∧ pl.b = b) (fun b hb => .inl hb) h hc (fun n hn pl hpl hv => .inr ⟨n, hf n hn, pl, hpl, hv, rfl⟩)).stay tr.mid
mutual
theorem packR_rep (ho : Objs M β look) (tr : Tr M M' β F) (bd : Bind β β' σf nm) : ∀ (c : RM) {d : D} {k k' : Pk} {cs : List Value}, packR M.P look c d k = some k' → RC M β d cs → (∀ j x, sigma k'.σ j = some x → sigma σf j = some x) → (∀ n, n ∈ k'.frz → n ∈ F) →
    (∀ i, i < k'.as.length → aAt as (off + i) = aAt k'.as i) →
    RC M' β' (unR M.P nm as c (off + k.as.length)).1 cs ∧ (unR M.P nm as c (off + k.as.length)).2 = off + k'.as.length ∧ scalar (unR M.P nm as c (off + k.as.length)).1 = scalar d ∧ (∀ τ, fits M.P τ d = true → fits M.P τ (unR M.P nm as c (off + k.as.length)).1 = true)
  | .v τ, d, k, k', cs, h, hc, hσ, hF, ha => by
    unfold packR at h
    split at h
    case h_1 t f hp =>
      cases h
      have hi : aAt as (off + k.as.length) = .t t := by
        rw [ha _ (by simp)]
        simp [aAt, List.getD]
      have hr := packT_tr ho tr hp hc (fun n hn => hF n (List.mem_append_right _ hn))
      have h1 := (PRep.ofT (β := β') hr)
      rw [tr.P] at h1
      simp only [unR, hi, A.tree]
      refine ⟨h1.1, by simp; omega, ?_, fun σ hf => packT_fits hp hf⟩
      rw [h1.2, packT_scalar hp]
    case h_2 => cases h
  | .fn ps rs, d, k, k', cs, h, hc, hσ, hF, ha => by
    cases d <;> simp only [packR] at h <;> try (cases h; done)
    case fnv g ps' rs' =>
      have hb := (bif_some h).1
      replace h := (bif_some h).2
      have beq : ∀ (l m : List TypeId), beqL l m = true → l = m := by
        intro l
        induction l with
        | nil => intro m hm; cases m <;> simp [beqL] at hm; rfl
        | cons x l ih => intro m hm; cases m <;> simp only [beqL, Bool.and_eq_true, Bool.false_eq_true] at hm; rw [beqN hm.1, ih _ hm.2]
      simp only [Bool.and_eq_true] at hb
      have e1 := beq _ _ hb.1
      have e2 := beq _ _ hb.2
      subst e1; subst e2
      cases h
      have hi : aAt as (off + k.as.length) = .fn g := by
        rw [ha _ (by simp)]
        simp [aAt, List.getD]
      simp only [unR, hi, A.fnOf]
      obtain ⟨v, h1, h2⟩ := hc
      exact ⟨⟨v, h1, by rw [tr.P]; exact tr.fn _ _ _ _ h2⟩, by simp; omega, trivial, fun σ hf => hf⟩
  | .p j τ, d, k, k', cs, h, hc, hσ, hF, ha => by
    cases d <;> try (simp only [packR] at h; cases h; done)
    case ptr n τ' path =>
      cases path with
      | cons => simp [packR] at h
      | nil =>
        simp only [packR] at h
        have := beqN (bif_some h).1
        subst this
        replace h := (bif_some h).2
        split at h
        case h_1 σ hb =>
          cases h
          obtain ⟨pl, o, h1, h2, h3, h4⟩ := hc
          refine ⟨⟨pl, o, h1, bd.some_ j n pl (hσ j _ (bindN_spec hb).1) h2, h3, by rw [tr.P]; exact h4⟩, rfl, rfl, fun σ hf => hf⟩
        case h_2 => cases h
  | .o j, d, k, k', cs, h, hc, hσ, hF, ha => by
    cases d <;> simp only [packR] at h <;> try (cases h; done)
    case own n =>
      split at h
      case h_1 σ hb =>
        cases h
        obtain ⟨pl, h1, h2⟩ := hc
        exact ⟨⟨pl, bd.some_ j n pl (hσ j _ (bindN_spec hb).1) h1, h2⟩, rfl, rfl, fun σ hf => hf⟩
      case h_2 => cases h
    case nils =>
      split at h
      case h_1 σ hb =>
        cases h
        obtain ⟨pl, h1, h2, _⟩ := bd.virt_ j (hσ j _ (bindN_spec hb).1)
        simp only [RC] at hc
        exact ⟨⟨pl, h1, by rw [h2]; exact ⟨none, hc⟩⟩, rfl, rfl, fun σ hf => hf⟩
      case h_2 => cases h
    case emp =>
      split at h
      case h_1 σ hb =>
        cases h
        obtain ⟨pl, h1, h2, _⟩ := bd.virt_ j (hσ j _ (bindN_spec hb).1)
        obtain ⟨ad, hc⟩ := hc
        exact ⟨⟨pl, h1, by rw [h2]; exact ⟨ad, hc⟩⟩, rfl, rfl, fun σ hf => hf⟩
      case h_2 => cases h
  | .m j, d, k, k', cs, h, hc, hσ, hF, ha => by
    cases d <;> simp only [packR] at h <;> try (cases h; done)
    case map n =>
      split at h
      case h_1 σ hb =>
        cases h
        obtain ⟨pl, h1, h2, h3⟩ := hc
        exact ⟨⟨pl, bd.some_ j n pl (hσ j _ (bindN_spec hb).1) h1, h2, h3⟩, rfl, rfl, fun σ hf => hf⟩
      case h_2 => cases h
  | .np, d, k, k', cs, h, hc, hσ, hF, ha => by
    cases d <;> simp only [packR] at h <;> try (cases h; done)
    case nilp => cases h; simp only [RC] at hc; exact ⟨hc, rfl, rfl, fun σ hf => hf⟩
  | .nl, d, k, k', cs, h, hc, hσ, hF, ha => by
    cases d <;> simp only [packR] at h <;> try (cases h; done)
    case nils => cases h; simp only [RC] at hc; exact ⟨hc, rfl, rfl, fun σ hf => hf⟩
  | .nm, d, k, k', cs, h, hc, hσ, hF, ha => by
    cases d <;> simp only [packR] at h <;> try (cases h; done)
    case nilm => cases h; simp only [RC] at hc; exact ⟨hc, rfl, rfl, fun σ hf => hf⟩
  | .nf, d, k, k', cs, h, hc, hσ, hF, ha => by
    cases d <;> simp only [packR] at h <;> try (cases h; done)
    case nilf => cases h; simp only [RC] at hc; exact ⟨hc, rfl, rfl, fun σ hf => hf⟩
  | .clo f rs, d, k, k', cs, h, hc, hσ, hF, ha => by
    cases d <;> simp only [packR] at h <;> try (cases h; done)
    case clo f' ds =>
      have := beqN (bif_some h).1
      subst this
      replace h := (bif_some h).2
      obtain ⟨vs, fst, ws, h2, h1, h5⟩ := hc
      obtain ⟨h3, h4⟩ := packRs_vs ho tr bd rs h h2 hσ hF ha
      exact ⟨⟨vs, fst, ws, h3, h1, by rw [tr.P]; exact h5⟩, h4, rfl, fun σ hf => hf⟩
  | .agg τ rs, d, k, k', cs, h, hc, hσ, hF, ha => by
    cases d <;> simp only [packR] at h <;> try (cases h; done)
    case agg τ' ds =>
      have := beqN (bif_some h).1
      subst this
      replace h := (bif_some h).2
      obtain ⟨h1, h2, fs, h3, h4⟩ := hc
      obtain ⟨h5, h6⟩ := packRs_cs ho tr bd rs h h4 hσ hF ha
      exact ⟨⟨by rw [tr.P]; exact h1, by rw [tr.P]; exact h2, fs, by rw [tr.P]; exact h3, h5⟩, h6, rfl, fun σ hf => hf⟩
    case tree τ' t =>
      have := beqN (bif_some h).1
      subst this
      replace h := (bif_some h).2
      split at h
      case h_1 ds hex =>
        obtain ⟨h1, h2, h3⟩ := hc
        have hfs : ∃ fs, fieldsOf M.P τ = some fs := by
          unfold expand at hex
          cases hfs : fieldsOf M.P τ with
          | none => rw [hfs] at hex; cases hex
          | some fs => exact ⟨fs, rfl⟩
        obtain ⟨fs, hfs⟩ := hfs
        obtain ⟨h5, h6⟩ := packRs_cs ho tr bd rs h (expand_rep (β := β) hex hfs h1) hσ hF ha
        exact ⟨⟨by rw [tr.P]; exact h2, by rw [tr.P]; exact h3, fs, by rw [tr.P]; exact hfs, h5⟩, h6, rfl, fun σ hf => hf⟩
      case h_2 => cases h
theorem packRs_vs (ho : Objs M β look) (tr : Tr M M' β F) (bd : Bind β β' σf nm) : ∀ (rs : List RM) {ds : List D} {k k' : Pk} {vs : List Value}, packRs M.P look rs ds k = some k' → RVs M β ds vs → (∀ j x, sigma k'.σ j = some x → sigma σf j = some x) → (∀ n, n ∈ k'.frz → n ∈ F) →
    (∀ i, i < k'.as.length → aAt as (off + i) = aAt k'.as i) → RVs M' β' (unRs M.P nm as rs (off + k.as.length)).1 vs ∧ (unRs M.P nm as rs (off + k.as.length)).2 = off + k'.as.length
  | [], ds, k, k', vs, h, hv, hσ, hF, ha => by
    cases ds <;> simp only [packRs] at h <;> cases h
    cases vs with
    | nil => exact ⟨trivial, rfl⟩
    | cons => exact hv.elim
  | c :: rs, ds, k, k', vs, h, hv, hσ, hF, ha => by
    cases ds <;> simp only [packRs] at h
    case nil => cases h
    case cons d ds =>
      split at h
      case h_1 k1 h1 =>
        cases vs with
        | nil => exact hv.elim
        | cons v vs =>
          obtain ⟨hv1, hv2⟩ := hv
          obtain ⟨le2, _⟩ := packRs_le rs h
          obtain ⟨l, hl⟩ := le2.as
          rcases hv1 with rfl | ⟨cs, hc, hf⟩
          · cases c <;> simp [packR, packT] at h1
          · obtain ⟨r1, r2, r3, _⟩ := packR_rep ho tr bd c h1 hc (fun j x hx => hσ j x (le2.σ j x hx)) (fun n hn => hF n (le2.frz n hn)) (fun i hi => by
              rw [ha i (by rw [hl, List.length_append]; omega), hl]
              simp only [aAt, List.getD, List.getElem?_append_left hi])
            obtain ⟨s1, s2⟩ := packRs_vs ho tr bd rs h hv2 hσ hF ha
            simp only [unRs, r2]
            exact ⟨⟨.inr ⟨cs, r1, by unfold VF at hf ⊢; rw [r3]; exact hf⟩, s1⟩, s2⟩
      case h_2 => cases h
theorem packRs_cs (ho : Objs M β look) (tr : Tr M M' β F) (bd : Bind β β' σf nm) : ∀ (rs : List RM) {ds : List D} {k k' : Pk} {fs : List (TypeId × Nat)} {cs : List Value}, packRs M.P look rs ds k = some k' → RCs M β fs ds cs → (∀ j x, sigma k'.σ j = some x → sigma σf j = some x) → (∀ n, n ∈ k'.frz → n ∈ F) →
    (∀ i, i < k'.as.length → aAt as (off + i) = aAt k'.as i) → RCs M' β' fs (unRs M.P nm as rs (off + k.as.length)).1 cs ∧ (unRs M.P nm as rs (off + k.as.length)).2 = off + k'.as.length
  | [], ds, k, k', fs, cs, h, hv, hσ, hF, ha => by
    cases ds <;> simp only [packRs] at h <;> cases h
    cases fs with
    | nil => exact ⟨hv, rfl⟩
    | cons => exact hv.elim
  | c :: rs, ds, k, k', fs, cs, h, hv, hσ, hF, ha => by
    cases ds <;> simp only [packRs] at h
    case nil => cases h
    case cons d ds =>
      split at h
      case h_1 k1 h1 =>
        cases fs with
        | nil => exact hv.elim
        | cons f fs =>
          obtain ⟨c1, c2, e1, e2, e3, e4, e5⟩ := hv
          obtain ⟨le2, _⟩ := packRs_le rs h
          obtain ⟨l, hl⟩ := le2.as
          obtain ⟨r1, r2, r3, r4⟩ := packR_rep ho tr bd c h1 e3 (fun j x hx => hσ j x (le2.σ j x hx)) (fun n hn => hF n (le2.frz n hn)) (fun i hi => by
              rw [ha i (by rw [hl, List.length_append]; omega), hl]
              simp only [aAt, List.getD, List.getElem?_append_left hi])
          obtain ⟨s1, s2⟩ := packRs_cs ho tr bd rs h e5 hσ hF ha
          simp only [unRs, r2]
          exact ⟨⟨c1, c2, e1, e2, r1, by rw [tr.P]; exact r4 _ e4, s1⟩, s2⟩
      case h_2 => cases h
end
end
end Go.Proofs.YtbejhhoakeapgaaVM
namespace Go.Proofs.YtbejhhoakeapgaaVM
open Go Go.RowKit
set_option linter.unusedVariables false
set_option linter.unusedSimpArgs false

def blank (P : Program) (objs : List OM) (j : Nat) : Place := { b := 0, virt := true, sz := match objs[j]? with | some (.row e) => (csz P e).getD 1 | _ => 1 }
def betaOf (P : Program) (β : Places) (σ : List (Nat × Option Nat)) (objs : List OM) : Places := fun j => match sigma σ j with
  | some (some n) => β n
  | some none => some (blank P objs j)
  | none => none
def lookOf (P : Program) (objs : List OM) (as : List A) (i : Nat) : Look := lookL (someL (unOs P id as objs 0 i))

theorem lookL_mem : ∀ {l : List (Nat × O)} {n : Nat} {o : O}, lookL l n = some o → (n, o) ∈ l
  | [], n, o, h => by simp [lookL] at h
  | (m, o') :: l, n, o, h => by
    simp only [lookL] at h
    cases hb : Nat.beq m n with
    | true => rw [hb] at h; have := beqN hb; subst this; simp at h; subst h; exact List.mem_cons_self ..
    | false => rw [hb] at h; exact List.mem_cons_of_mem _ (lookL_mem (by simpa using h))
theorem someL_mem : ∀ {l : List (Nat × Option O)} {n : Nat} {o : O}, (n, o) ∈ someL l → (n, some o) ∈ l
  | [], n, o, h => by simp [someL] at h
  | (m, some o') :: l, n, o, h => by
    simp only [someL, List.mem_cons, Prod.mk.injEq] at h
    rcases h with ⟨rfl, rfl⟩ | h
    · exact List.mem_cons_self ..
    · exact List.mem_cons_of_mem _ (someL_mem h)
  | (m, none) :: l, n, o, h => by
    simp only [someL] at h
    exact List.mem_cons_of_mem _ (someL_mem h)
theorem lookOf_mem {P : Program} {objs : List OM} {as : List A} {i n : Nat} {o : O} (h : lookOf P objs as i n = some o) : (n, some o) ∈ unOs P id as objs 0 i := someL_mem (lookL_mem h)
theorem sigBound_spec : ∀ {σ : List (Nat × Option Nat)} {m j : Nat} {x : Option Nat}, sigBound σ m = true → sigma σ j = some x → j < m
  | [], m, j, x, h, hs => by simp [sigma] at hs
  | (i, y) :: σ, m, j, x, h, hs => by
    simp only [sigBound, Bool.and_eq_true] at h
    simp only [sigma] at hs
    cases hb : Nat.beq i j with
    | true => have := beqN hb; subst this; have := h.1; rwa [Nat.blt_eq] at this
    | false => rw [hb] at hs; exact sigBound_spec h.2 (by simpa using hs)
theorem gonesOk_spec : ∀ {σ : List (Nat × Option Nat)} {l : List OM} {j p : Nat}, gonesOk σ j l = true → l[p]? = some .gone → sigma σ (j + p) = none
  | σ, [], j, p, h, hp => by simp at hp
  | σ, om :: l, j, 0, h, hp => by
    simp at hp; subst hp
    simp only [gonesOk, Bool.and_eq_true] at h
    simpa using h.1
  | σ, om :: l, j, p + 1, h, hp => by
    have h2 : gonesOk σ (j + 1) l = true := by cases om <;> simp only [gonesOk, Bool.and_eq_true] at h <;> first | exact h.2 | exact h
    have := gonesOk_spec h2 (p := p) (by simpa using hp)
    rwa [show j + 1 + p = j + (p + 1) by omega] at this
theorem apartB_spec {σ : List (Nat × Option Nat)} : ∀ {l : List Nat} {j n : Nat}, apartB σ l = true → n ∈ l → sigma σ j = some (some n) → False
  | [], j, n, h, hn, hs => by simp at hn
  | m :: l, j, n, h, hn, hs => by
    simp only [apartB, Bool.and_eq_true] at h
    rcases List.mem_cons.1 hn with rfl | hn
    · have := hasName_sigma hs; rw [this] at h; simp at h
    · exact apartB_spec h.2 hn hs

section
variable {P : Program} {look : Look}
mutual
theorem packR_names : ∀ (c : RM) {d : D} {k k' : Pk}, packR P look c d k = some k' → ∀ n, n ∈ k'.frz → n ∈ k.frz ∨ ∃ e xs, look n = some (.row e xs)
  | .v τ, d, k, k', h => by
    unfold packR at h
    split at h
    case h_1 t f hp => cases h; intro n hn; rcases List.mem_append.1 hn with h1 | h1; exact .inl h1; exact .inr (packT_names hp n h1)
    case h_2 => cases h
  | .fn ps rs, d, k, k', h => by
    cases d <;> simp only [packR] at h <;> first
      | (cases h; done)
      | (replace h := (bif_some h).2; cases h; exact fun n hn => .inl hn)
  | .p j τ, d, k, k', h => by
    cases d <;> try (simp only [packR] at h; cases h; done)
    case ptr n τ' path =>
      cases path with
      | cons => simp [packR] at h
      | nil =>
        simp only [packR] at h
        replace h := (bif_some h).2
        split at h
        case h_1 σ hb => cases h; exact fun n hn => .inl hn
        case h_2 => cases h
  | .o j, d, k, k', h => by
    cases d <;> simp only [packR] at h <;> first
      | (cases h; done)
      | (split at h
         · cases h; exact fun n hn => .inl hn
         · cases h)
  | .m j, d, k, k', h => by
    cases d <;> simp only [packR] at h <;> first
      | (cases h; done)
      | (split at h
         · cases h; exact fun n hn => .inl hn
         · cases h)
  | .np, d, k, k', h => by
    cases d <;> simp only [packR] at h <;> first
      | (cases h; done)
      | (cases h; exact fun n hn => .inl hn)
  | .nl, d, k, k', h => by
    cases d <;> simp only [packR] at h <;> first
      | (cases h; done)
      | (cases h; exact fun n hn => .inl hn)
  | .nm, d, k, k', h => by
    cases d <;> simp only [packR] at h <;> first
      | (cases h; done)
      | (cases h; exact fun n hn => .inl hn)
  | .nf, d, k, k', h => by
    cases d <;> simp only [packR] at h <;> first
      | (cases h; done)
      | (cases h; exact fun n hn => .inl hn)
  | .clo f cs, d, k, k', h => by
    cases d <;> simp only [packR] at h <;> first
      | (cases h; done)
      | exact packRs_names cs (bif_some h).2
  | .agg τ cs, d, k, k', h => by
    cases d <;> simp only [packR] at h <;> first
      | (cases h; done)
      | exact packRs_names cs (bif_some h).2
      | (replace h := (bif_some h).2
         split at h
         · exact packRs_names cs h
         · cases h)
theorem packRs_names : ∀ (cs : List RM) {ds : List D} {k k' : Pk}, packRs P look cs ds k = some k' → ∀ n, n ∈ k'.frz → n ∈ k.frz ∨ ∃ e xs, look n = some (.row e xs)
  | [], ds, k, k', h => by cases ds <;> simp only [packRs] at h <;> cases h; exact fun n hn => .inl hn
  | c :: cs, ds, k, k', h => by
    cases ds <;> simp only [packRs] at h
    case nil => cases h
    case cons d ds =>
      split at h
      case h_1 k1 h1 =>
        intro n hn
        rcases packRs_names cs h n hn with h2 | h2
        · exact packR_names c h1 n h2
        · exact .inr h2
      case h_2 => cases h
end
theorem packObjs_names {st : Bool} : ∀ (l : List OM) {j : Nat} {k k' : Pk}, packObjs P st look j l k = some k' → ∀ n, n ∈ k'.frz → n ∈ k.frz ∨ ∃ e xs, look n = some (.row e xs)
  | [], j, k, k', h => by simp only [packObjs] at h; cases h; exact fun n hn => .inl hn
  | .gone :: l, j, k, k', h => by simp only [packObjs] at h; exact packObjs_names l h
  | .var τ c ro :: l, j, k, k', h => by
    simp only [packObjs] at h
    split at h
    · split at h
      · replace h := (bif_some h).2
        split at h
        case h_1 k1 h1 =>
          intro n hn
          rcases packObjs_names l h n hn with h2 | h2
          · exact packR_names c h1 n h2
          · exact .inr h2
        case h_2 => cases h
      · cases h
    · cases h
  | .row e :: l, j, k, k', h => by
    simp only [packObjs] at h
    split at h
    · split at h
      · exact fun n hn => packObjs_names l (bif_some h).2 n hn
      · cases h
    · split at h
      · exact fun n hn => packObjs_names l h n hn
      · cases h
    · cases h
  | .map kt vt :: l, j, k, k', h => by
    simp only [packObjs] at h
    split at h
    · split at h
      · exact fun n hn => packObjs_names l (bif_some h).2 n hn
      · cases h
    · cases h
theorem packObjs_live {st : Bool} : ∀ (l : List OM) {j : Nat} {k k' : Pk}, packObjs P st look j l k = some k' → ∀ p om, l[p]? = some om → om = .gone ∨ sigma k'.σ (j + p) = some none ∨ ∃ n on, sigma k'.σ (j + p) = some (some n) ∧ look n = some on
  | [], j, k, k', h, p, om, hp => by simp at hp
  | .gone :: l, j, k, k', h, p, om, hp => by
    simp only [packObjs] at h
    cases p with
    | zero => simp at hp; exact .inl hp.symm
    | succ p => rw [show j + (p + 1) = j + 1 + p by omega]; exact packObjs_live l h p om (by simpa using hp)
  | .var τ c ro :: l, j, k, k', h, p, om, hp => by
    have hh := (packObjs_le _ h).1.σ
    simp only [packObjs] at h
    split at h
    · rename_i n hs
      split at h
      · rename_i τ' d ro' hl
        replace h := (bif_some h).2
        split at h
        case h_1 k1 h1 =>
          cases p with
          | zero => exact .inr (.inr ⟨n, _, hh _ _ hs, hl⟩)
          | succ p => rw [show j + (p + 1) = j + 1 + p by omega]; exact packObjs_live l h p om (by simpa using hp)
        case h_2 => cases h
      · cases h
    · cases h
  | .row e :: l, j, k, k', h, p, om, hp => by
    have hh := (packObjs_le _ h).1.σ
    simp only [packObjs] at h
    split at h
    · rename_i n hs
      split at h
      · rename_i e' xs hl
        cases p with
        | zero => exact .inr (.inr ⟨n, _, hh _ _ hs, hl⟩)
        | succ p => rw [show j + (p + 1) = j + 1 + p by omega]; exact packObjs_live l (bif_some h).2 p om (by simpa using hp)
      · cases h
    · rename_i hs
      split at h
      · cases p with
        | zero => exact .inr (.inl (hh _ _ hs))
        | succ p => rw [show j + (p + 1) = j + 1 + p by omega]; exact packObjs_live l h p om (by simpa using hp)
      · cases h
    · cases h
  | .map kt vt :: l, j, k, k', h, p, om, hp => by
    have hh := (packObjs_le _ h).1.σ
    simp only [packObjs] at h
    split at h
    · rename_i n hs
      split at h
      · rename_i hl
        cases p with
        | zero => exact .inr (.inr ⟨n, _, hh _ _ hs, hl⟩)
        | succ p => rw [show j + (p + 1) = j + 1 + p by omega]; exact packObjs_live l (bif_some h).2 p om (by simpa using hp)
      · cases h
    · cases h
end

section
variable {M M' : Mem} {β β' : Places} {look : Look} {F : List Nat} {σf : List (Nat × Option Nat)} {as : List A} {off : Nat}
theorem unOs_ge {P : Program} {nm : Nat → Nat} {as : List A} : ∀ {l : List OM} {j i : Nat} {x : Nat × Option O}, x ∈ unOs P nm as l j i → ∃ p, j ≤ p ∧ p < j + l.length ∧ x.1 = nm p
  | [], j, i, x, h => by simp [unOs] at h
  | om :: l, j, i, x, h => by
    simp only [unOs, List.mem_cons] at h
    rcases h with rfl | h
    · exact ⟨j, Nat.le_refl _, by simp, rfl⟩
    · obtain ⟨p, h1, h2, h3⟩ := unOs_ge h
      exact ⟨p, by omega, by simp; omega, h3⟩
theorem packObjs_rep {st : Bool} (ho : Objs M β look) (tr : Tr M M' β F) (hW : ∀ j n pl, sigma σf j = some (some n) → β n = some pl → pl.virt = false → M'.W.heap[pl.b]? = M.W.heap[pl.b]?) (bd : Bind β β' σf id) : ∀ (l : List OM) {j : Nat} {k k' : Pk}, packObjs M.P st look j l k = some k' → (∀ j x, sigma k'.σ j = some x → sigma σf j = some x) → (∀ n, n ∈ k'.frz → n ∈ F) →
    (∀ i, i < k'.as.length → aAt as (off + i) = aAt k'.as i) → ∀ n o, (n, some o) ∈ unOs M.P id as l j (off + k.as.length) →
    (∃ m on pl, sigma σf n = some (some m) ∧ look m = some on ∧ β m = some pl ∧ RO M' β' pl o ∧ (st = true → isRo on = isRo o) ∧ (isRo o = false → isRo on = false)) ∨
    (sigma σf n = some none ∧ isRo o = false ∧ ∃ e s, l[n - j]? = some (.row e) ∧ j ≤ n ∧ o = .row e [] ∧ csz M.P e = some (s + 1))
  | [], j, k, k', h, hσ, hF, ha, n, o, hm => by simp [unOs] at hm
  | .gone :: l, j, k, k', h, hσ, hF, ha, n, o, hm => by
    simp only [packObjs] at h
    simp only [unOs, unO, List.mem_cons, Prod.mk.injEq, reduceCtorEq, and_false, false_or] at hm
    rcases packObjs_rep ho tr hW bd l h hσ hF ha n o hm with h1 | ⟨h1, h2, e, s, h3, h4, h5⟩
    · exact .inl h1
    · refine .inr ⟨h1, h2, e, s, ?_, by omega, h5⟩
      rw [show n - j = (n - (j + 1)) + 1 by omega]; simpa using h3
  | .var τ c ro :: l, j, k, k', h, hσ, hF, ha, n, o, hm => by
    have hh := (packObjs_le _ h).1.σ
    simp only [packObjs] at h
    split at h
    · rename_i m hs
      split at h
      · rename_i τ' d ro' hl
        have hc := (bif_some h).1
        replace h := (bif_some h).2
        split at h
        case h_1 k1 h1 =>
          have hj : τ = τ' ∧ (st = true → ro = ro') ∧ (ro = false → ro' = false) := by
            simp only [Bool.and_eq_true] at hc
            refine ⟨beqN hc.1, ?_⟩
            cases st <;> simp at hc
            · exact ⟨fun h => by simp at h, fun h => by cases ro <;> cases ro' <;> simp_all⟩
            · exact ⟨fun _ => hc.2, fun h => by rw [← hc.2, h]⟩
          obtain ⟨rfl, hj2, hj3⟩ := hj
          obtain ⟨pl, hpl, hv, cc, el, fr, w1, w2, w3, w4, w5⟩ := ho m _ hl
          obtain ⟨le2, _⟩ := packObjs_le l h
          obtain ⟨lx, hlx⟩ := le2.as
          obtain ⟨r1, r2, r3, r4⟩ := packR_rep (off := off) (as := as) ho tr bd c h1 w4 (fun j x hx => hσ j x (le2.σ j x hx)) (fun n hn => hF n (le2.frz n hn)) (fun i hi => by
              rw [ha i (by rw [hlx, List.length_append]; omega), hlx]
              simp only [aAt, List.getD, List.getElem?_append_left hi])
          simp only [unOs, unO, List.mem_cons, Prod.mk.injEq, id_eq, Option.some.injEq] at hm
          rcases hm with ⟨rfl, rfl⟩ | hm
          · refine .inl ⟨m, _, pl, hσ _ _ (hh _ _ hs), hl, hpl, ⟨hv, cc, el, fr, by rw [hW _ _ _ (hσ _ _ (hh _ _ hs)) hpl hv]; exact w1, w2, by rw [tr.P]; exact w3, r1, by rw [tr.P]; exact r4 _ w5⟩, fun e => (hj2 e).symm, fun e => hj3 e⟩
          · rw [r2] at hm
            rcases packObjs_rep ho tr hW bd l h hσ hF ha n o hm with h1 | ⟨h1, h2, e, s, h3, h4, h5⟩
            · exact .inl h1
            · refine .inr ⟨h1, h2, e, s, ?_, by omega, h5⟩
              rw [show n - j = (n - (j + 1)) + 1 by omega]; simpa using h3
        case h_2 => cases h
      · cases h
    · cases h
  | .row e :: l, j, k, k', h, hσ, hF, ha, n, o, hm => by
    have hh := (packObjs_le _ h).1.σ
    have step : ∀ (xs : List T) (k1 : Pk), k1 = ⟨k.as ++ [.t (.node xs)], k.σ, k.frz, k.held⟩ → packObjs M.P st look (j + 1) l k1 = some k' → aAt as (off + k.as.length) = .t (.node xs) := by
      intro xs k1 hk1 hp
      obtain ⟨lx, hlx⟩ := (packObjs_le l hp).1.as
      subst hk1
      rw [ha _ (by rw [hlx]; simp), hlx]
      simp [aAt, List.getD]
    simp only [packObjs] at h
    split at h
    · rename_i m hs
      split at h
      · rename_i e' xs hl
        have := beqN (bif_some h).1
        subst this
        replace h := (bif_some h).2
        have ha1 := step xs _ rfl h
        simp only [unOs, unO, List.mem_cons, Prod.mk.injEq, id_eq, Option.some.injEq, ha1, A.tree, T.kids] at hm
        rcases hm with ⟨rfl, rfl⟩ | hm
        · obtain ⟨pl, hpl, w1, w2, w3, w4, w5⟩ := ho m _ hl
          refine .inl ⟨m, _, pl, hσ _ _ (hh _ _ hs), hl, hpl, ⟨w1, by rw [tr.P]; exact w2, w3, w4, fun hv => ?_⟩, fun _ => rfl, fun _ => rfl⟩
          obtain ⟨c, el, fr, x1, x2, x3, x4⟩ := w5 hv
          exact ⟨c, el, fr, by rw [hW _ _ _ (hσ _ _ (hh _ _ hs)) hpl hv]; exact x1, x2, by rw [tr.P]; exact x3, fun i x hx => by
            rw [tr.P]
            exact (x4 i x hx).stay ⟨fun b hb => tr.mid.1 b (.inl hb), fun b o hb ho => tr.mid.2 b o (.inl hb) ho⟩⟩
        · rw [show off + k.as.length + 1 = off + (Pk.mk (k.as ++ [.t (.node xs)]) k.σ k.frz k.held).as.length by simp; omega] at hm
          rcases packObjs_rep ho tr hW bd l h hσ hF ha n o hm with h1 | ⟨h1, h2, e, s, h3, h4, h5⟩
          · exact .inl h1
          · refine .inr ⟨h1, h2, e, s, ?_, by omega, h5⟩
            rw [show n - j = (n - (j + 1)) + 1 by omega]; simpa using h3
      · cases h
    · rename_i hs
      split at h
      · rename_i s hcs
        have ha1 := step [] _ rfl h
        simp only [unOs, unO, List.mem_cons, Prod.mk.injEq, id_eq, Option.some.injEq, ha1, A.tree, T.kids] at hm
        rcases hm with ⟨rfl, rfl⟩ | hm
        · exact .inr ⟨hσ _ _ (hh _ _ hs), rfl, e, s, by simp, Nat.le_refl _, rfl, hcs⟩
        · rw [show off + k.as.length + 1 = off + (Pk.mk (k.as ++ [.t (.node [])]) k.σ k.frz k.held).as.length by simp; omega] at hm
          rcases packObjs_rep ho tr hW bd l h hσ hF ha n o hm with h1 | ⟨h1, h2, e, s, h3, h4, h5⟩
          · exact .inl h1
          · refine .inr ⟨h1, h2, e, s, ?_, by omega, h5⟩
            rw [show n - j = (n - (j + 1)) + 1 by omega]; simpa using h3
      · cases h
    · cases h
  | .map kt vt :: l, j, k, k', h, hσ, hF, ha, n, o, hm => by
    have hh := (packObjs_le _ h).1.σ
    have step : ∀ (xs : List T) (k1 : Pk), k1 = ⟨k.as ++ [.t (.node xs)], k.σ, k.frz, k.held⟩ → packObjs M.P st look (j + 1) l k1 = some k' → aAt as (off + k.as.length) = .t (.node xs) := by
      intro xs k1 hk1 hp
      obtain ⟨lx, hlx⟩ := (packObjs_le l hp).1.as
      subst hk1
      rw [ha _ (by rw [hlx]; simp), hlx]
      simp [aAt, List.getD]
    simp only [packObjs] at h
    split at h
    · rename_i m hs
      split at h
      · rename_i kt' vt' es hl
        have hb := (bif_some h).1
        simp only [Bool.and_eq_true] at hb
        have e1 := beqN hb.1
        have e2 := beqN hb.2
        subst e1; subst e2
        replace h := (bif_some h).2
        have ha1 := step es _ rfl h
        simp only [unOs, unO, List.mem_cons, Prod.mk.injEq, id_eq, Option.some.injEq, ha1, A.tree, T.kids] at hm
        rcases hm with ⟨rfl, rfl⟩ | hm
        · obtain ⟨pl, hpl, w1, ms, clock, w2, w3⟩ := ho m _ hl
          refine .inl ⟨m, _, pl, hσ _ _ (hh _ _ hs), hl, hpl, ⟨w1, ms, clock, by rw [hW _ _ _ (hσ _ _ (hh _ _ hs)) hpl w1]; exact w2, ?_⟩, fun _ => rfl, fun _ => rfl⟩
          have hst : Stay M.ok M'.ok M.W M'.W := ⟨fun b hb => tr.mid.1 b (.inl hb), fun b o hb ho => tr.mid.2 b o (.inl hb) ho⟩
          have : ∀ {es : List T} {ms : List MapEntry}, REnts M kt vt es ms → REnts M' kt vt es ms := by
            intro es
            induction es with
            | nil => intro ms h; cases ms <;> exact h
            | cons e es ih =>
              intro ms h
              cases ms with
              | nil => exact h
              | cons m ms => exact ⟨⟨by rw [tr.P]; exact h.1.1.stay hst, by rw [tr.P]; exact h.1.2.stay hst⟩, ih h.2⟩
          exact ⟨this w3.1, w3.2⟩
        · rw [show off + k.as.length + 1 = off + (Pk.mk (k.as ++ [.t (.node es)]) k.σ k.frz k.held).as.length by simp; omega] at hm
          rcases packObjs_rep ho tr hW bd l h hσ hF ha n o hm with h1 | ⟨h1, h2, e, s, h3, h4, h5⟩
          · exact .inl h1
          · refine .inr ⟨h1, h2, e, s, ?_, by omega, h5⟩
            rw [show n - j = (n - (j + 1)) + 1 by omega]; simpa using h3
      · cases h
    · cases h
end
end Go.Proofs.YtbejhhoakeapgaaVM
namespace Go.Proofs.YtbejhhoakeapgaaVM
open Go Go.RowKit
set_option linter.unusedVariables false
set_option linter.unusedSimpArgs false

structure Over (P : Program) (C C' : Ctx) (β : Places) (look look' : Look) (W : World) (st : Bool) (σ : List (Nat × Option Nat)) (frz : List Nat) : Prop where
  keeps : Keeps C' W
  avold : ∀ b, C'.Av b → b < C'.W0.heap.size
  av : ∀ b, C'.Av b → C.Av b ∨ ∃ n pl, look n ≠ none ∧ β n = some pl ∧ pl.virt = false ∧ pl.b = b ∧ n ∉ frz
  own : ∀ j o' n on pl, look' j = some o' → sigma σ j = some (some n) → look n = some on → β n = some pl → pl.virt = false → (st = true → isRo on = isRo o') → (isRo o' = false → isRo on = false) →
    (isRo o' = false → (C'.W0.heap.size ≤ pl.b ∨ C'.S0 pl.b) ∧ ¬ C'.Av pl.b) ∧ (isRo o' = true → C'.Av pl.b)
  fn : ∀ g ps rs v, FnRep P C g ps rs v → FnRep P C' g ps rs v

section
variable {P : Program} {G : Globs} {C C' : Ctx} {β : Places} {free : Nat → Prop} {N : Nat} {regs : Regs} {look : Look} {a : Act} {W : World} {st : Bool} {objs : List OM} {k0 k : Pk}
theorem betaOf_bind (hb : sigBound k.σ objs.length = true) : Bind β (betaOf P β k.σ objs) k.σ id :=
  ⟨fun j n pl h1 h2 => by simp only [id_eq, betaOf, h1]; exact h2, fun j h1 => ⟨blank P objs j, by simp only [id_eq, betaOf, h1], rfl, rfl⟩⟩
theorem over_live (h : Rel P G C β free N regs look a W) (hb : sigBound k.σ objs.length = true) (hgo : gonesOk k.σ 0 objs = true) (hobj : packObjs P st look 0 objs k0 = some k)
    {j : Nat} {pl : Place} (hp : betaOf P β k.σ objs j = some pl) (hv : pl.virt = false) : ∃ n on, sigma k.σ j = some (some n) ∧ look n = some on ∧ β n = some pl := by
  unfold betaOf at hp
  split at hp
  · rename_i n hs
    have hj := sigBound_spec hb hs
    have hom : objs[j]? = some objs[j] := List.getElem?_eq_getElem hj
    rcases packObjs_live objs hobj j _ hom with h1 | h1 | ⟨m, on, h1, h2⟩
    · rw [h1] at hom
      have := gonesOk_spec hgo hom
      rw [Nat.zero_add, hs] at this
      cases this
    · rw [Nat.zero_add, hs] at h1; cases h1
    · rw [Nat.zero_add, hs] at h1
      cases h1
      exact ⟨n, on, hs, h2, hp⟩
  · cases hp; cases hv
  · cases hp
theorem over_tr (h : Rel P G C β free N regs look a W) (hb : sigBound k.σ objs.length = true) (hgo : gonesOk k.σ 0 objs = true) (hap : apartB k.σ k.frz = true) (hobj : packObjs P st look 0 objs k0 = some k)
    (hfr : ∀ n, n ∈ k.frz → ∃ e xs, look n = some (.row e xs)) {look' : Look} (ov : Over P C C' β look look' W st k.σ k.frz) :
    Tr (memOf P C β look W) (memOf P C' (betaOf P β k.σ objs) look' W) β k.frz := by
  have key : ∀ b, (okOf C β look b ∨ ∃ n, n ∈ k.frz ∧ ∃ pl, β n = some pl ∧ pl.virt = false ∧ pl.b = b) → okOf C' (betaOf P β k.σ objs) look' b := by
    intro b hb0
    refine ⟨fun hav => ?_, fun j pl hlj hpj hvj hbj => ?_⟩
    · rcases ov.av b hav with h1 | ⟨m, plm, h1, h2, h3, h4, h5⟩
      · rcases hb0 with h6 | ⟨n, hn, pl, h7, h8, h9⟩
        · exact h6.1 h1
        · obtain ⟨e, xs, hl⟩ := hfr n hn
          exact h.own n _ pl hl h7 h8 rfl (h9 ▸ h1)
      · rcases hb0 with h6 | ⟨n, hn, pl, h7, h8, h9⟩
        · exact h6.2 m plm h1 h2 h3 h4
        · obtain ⟨e, xs, hl⟩ := hfr n hn
          have := h.inj m n plm pl h1 (by rw [hl]; simp) h2 h7 h3 h8 (h4.trans h9.symm)
          subst this
          exact h5 hn
    · obtain ⟨m, on, h1, h2, h3⟩ := over_live h hb hgo hobj hpj hvj
      rcases hb0 with h6 | ⟨n, hn, pl', h7, h8, h9⟩
      · exact h6.2 m pl (by rw [h2]; simp) h3 hvj hbj
      · obtain ⟨e, xs, hl⟩ := hfr n hn
        have := h.inj m n pl pl' (by rw [h2]; simp) (by rw [hl]; simp) h3 h7 hvj h8 (hbj.trans h9.symm)
        subst this
        exact apartB_spec hap hn h1
  exact ⟨rfl, ⟨fun b hb => .inl (key b hb), fun _ _ _ ho => ho⟩, ov.fn⟩
theorem Rel.over (h : Rel P G C β free N regs look a W) (hi : SInj k.σ) (hb : sigBound k.σ objs.length = true) (hgo : gonesOk k.σ 0 objs = true) (hap : apartB k.σ k.frz = true) (hobj : packObjs P st look 0 objs k0 = some k)
    (hfr : ∀ n, n ∈ k.frz → ∃ e xs, look n = some (.row e xs)) (ov : Over P C C' β look (lookOf P objs k.as k0.as.length) W st k.σ k.frz)
    {N' : Nat} {regs' : Regs} {a' : Act} (hd : a'.defers = []) (hN : a'.tmps.size = N')
    (hv : ∀ t, RV (memOf P C' (betaOf P β k.σ objs) (lookOf P objs k.as k0.as.length) W) (betaOf P β k.σ objs) (regs' t) (a'.tmps.getD t Go.undef)) (hbd : ∀ t, N' ≤ t → regs' t = .undef) :
    Rel P G C' (betaOf P β k.σ objs) (fun j => objs.length ≤ j) N' regs' (lookOf P objs k.as k0.as.length) a' W := by
  have tr := over_tr h hb hgo hap hobj hfr ov
  have ho := packObjs_rep (as := k.as) (off := 0) (F := k.frz) (σf := k.σ) h.objs tr (fun _ _ _ _ _ _ => rfl) (betaOf_bind (P := P) (β := β) hb) objs hobj (fun _ _ h => h) (fun _ h => h) (fun i _ => by rw [Nat.zero_add])
  have ho' : ∀ n o, lookOf P objs k.as k0.as.length n = some o → _ := fun n o hn => ho n o (by rw [Nat.zero_add]; exact lookOf_mem hn)
  have real : ∀ j o pl, lookOf P objs k.as k0.as.length j = some o → betaOf P β k.σ objs j = some pl → pl.virt = false → ∃ n on, sigma k.σ j = some (some n) ∧ look n = some on ∧ β n = some pl ∧ (st = true → isRo on = isRo o) ∧ (isRo o = false → isRo on = false) := by
    intro j o pl hj hp hv
    rcases ho' j o hj with ⟨m, on, pl', h1, h2, h3, _, h5, h6⟩ | ⟨h1, _⟩
    · have : betaOf P β k.σ objs j = β m := by simp only [betaOf, h1]
      rw [this, h3] at hp
      cases hp
      exact ⟨m, on, h1, h2, h3, h5, h6⟩
    · have : betaOf P β k.σ objs j = some (blank P objs j) := by simp only [betaOf, h1]
      rw [this] at hp
      cases hp
      cases hv
  have fr : ∀ j o pl, lookOf P objs k.as k0.as.length j = some o → betaOf P β k.σ objs j = some pl → pl.virt = false → (isRo o = false → (C'.W0.heap.size ≤ pl.b ∨ C'.S0 pl.b) ∧ ¬ C'.Av pl.b) ∧ (isRo o = true → C'.Av pl.b) := by
    intro j o pl hj hp hv
    obtain ⟨n, on, h1, h2, h3, h4, h5⟩ := real j o pl hj hp hv
    exact ov.own j o n on pl hj h1 h2 h3 hv h4 h5
  refine { keeps := ov.keeps, defers := hd, size := hN, vals := hv, bound := hbd, objs := fun j o hj => ?_, inj := fun i j pl pl' hi' hj' hp hp' hv hv' hbb => ?_, foot := fun j o pl hj hp hv hr => ((fr j o pl hj hp hv).1 hr).1,
           own := fun j o pl hj hp hv hr => ((fr j o pl hj hp hv).1 hr).2, roav := fun j o pl hj hp hv hr => (fr j o pl hj hp hv).2 hr, free := fun j hj => ?_, globs := fun g τ t hg => ?_, avold := ov.avold }
  · rcases ho' j o hj with ⟨m, on, pl, h1, h2, h3, h4, _⟩ | ⟨h1, h2, e, s, h3, _, h5, h6⟩
    · exact ⟨pl, by simp only [betaOf, h1]; exact h3, h4⟩
    · refine ⟨blank P objs j, by simp only [betaOf, h1], ?_⟩
      have h3' : objs[j]? = some (.row e) := by simpa using h3
      have h6' : csz P e = some (s + 1) := h6
      subst h5
      refine ⟨rfl, ?_, ?_, fun _ => rfl, fun hv => by cases hv⟩
      · show csz P e = some (blank P objs j).sz
        simp [blank, h3', h6']
      · show 0 < (blank P objs j).sz
        simp [blank, h3', h6']
  · obtain ⟨o1, ho1⟩ := Option.ne_none_iff_exists'.1 hi'
    obtain ⟨o2, ho2⟩ := Option.ne_none_iff_exists'.1 hj'
    obtain ⟨n, on, h1, h2, h3, _⟩ := real i o1 pl ho1 hp hv
    obtain ⟨m, om, h4, h5, h6, _⟩ := real j o2 pl' ho2 hp' hv'
    have := h.inj n m pl pl' (by rw [h2]; simp) (by rw [h5]; simp) h3 h6 hv hv' hbb
    subst this
    exact hi i j n h1 h4
  · cases hs : sigma k.σ j with
    | none => simp only [betaOf, hs]
    | some x => have := sigBound_spec hb hs; omega
  · obtain ⟨b, o, c, el, fr, s, h1, h2, h3, h4, h5, h6⟩ := h.globs g τ t hg
    refine ⟨b, o, c, el, fr, s, h1, (tr.mid.1 b (.inl h2)).resolve_right (by show ¬ W.heap[b]? = none; rw [show W.heap[b]? = _ from h3]; simp), h3, h4, h5.stay ⟨fun b hb => tr.mid.1 b (.inl hb), fun b o hb ho => tr.mid.2 b o (.inl hb) ho⟩, h6⟩
theorem Over.same (h : Rel P G C β free N regs look a W) {look' : Look} : Over P C C β look look' W true k.σ k.frz where
  keeps := h.keeps
  avold := h.avold
  av := fun b hb => .inl hb
  own := fun j o' n on pl h1 h2 h3 h4 h5 h6 h7 => ⟨fun hr => ⟨h.foot n on pl h3 h4 h5 (h7 hr), h.own n on pl h3 h4 h5 (h7 hr)⟩, fun hr => h.roav n on pl h3 h4 h5 ((h6 rfl).trans hr)⟩
  fn := fun _ _ _ _ h => h
def callS (β : Places) (σ : List (Nat × Option Nat)) (look' : Look) (b : Nat) : Prop := ∃ j o n pl, look' j = some o ∧ isRo o = false ∧ sigma σ j = some (some n) ∧ β n = some pl ∧ pl.virt = false ∧ pl.b = b
def callAv (C : Ctx) (β : Places) (look : Look) (σ : List (Nat × Option Nat)) (frz : List Nat) (look' : Look) (b : Nat) : Prop :=
  C.Av b ∨ ∃ n pl, look n ≠ none ∧ β n = some pl ∧ pl.virt = false ∧ pl.b = b ∧ n ∉ frz ∧ ∀ j o, look' j = some o → isRo o = false → sigma σ j ≠ some (some n)
def callC (C : Ctx) (β : Places) (look : Look) (W : World) (σ : List (Nat × Option Nat)) (frz : List Nat) (look' : Look) : Ctx := ⟨W, callS β σ look', callAv C β look σ frz look'⟩
theorem Rel.live_lt (h : Rel P G C β free N regs look a W) {n : Nat} {pl : Place} (hn : look n ≠ none) (hp : β n = some pl) (hv : pl.virt = false) : pl.b < W.heap.size := by
  obtain ⟨o, ho⟩ := Option.ne_none_iff_exists'.1 hn
  obtain ⟨pl', h1, h2⟩ := h.objs n o ho
  rw [hp] at h1; cases h1
  exact h2.real hv
theorem Rel.live_foot (h : Rel P G C β free N regs look a W) {n : Nat} {pl : Place} (hn : look n ≠ none) (hp : β n = some pl) (hv : pl.virt = false) : C.Av pl.b ∨ C.S0 pl.b ∨ C.W0.heap.size ≤ pl.b := by
  obtain ⟨o, ho⟩ := Option.ne_none_iff_exists'.1 hn
  cases hr : isRo o with
  | true => exact .inl (h.roav n o pl ho hp hv hr)
  | false => rcases h.foot n o pl ho hp hv hr with h1 | h1; exact .inr (.inr h1); exact .inr (.inl h1)
theorem FnRep.inner {g : List T → Option (List T)} {ps rs : List TypeId} {v : Value} (h : FnRep P C g ps rs v) (hk : Keeps C W) {S A : Nat → Prop} (hS : ∀ b, S b → C.W0.heap.size ≤ b ∨ C.S0 b) (hA : ∀ b, C.Av b → A b) (hA2 : ∀ b, A b → C.Av b ∨ C.S0 b ∨ C.W0.heap.size ≤ b) :
    FnRep P ⟨W, S, A⟩ g ps rs v := by
  obtain ⟨f, caps, h1, h2, h3⟩ := h
  refine ⟨f, caps, h1, h2, fun W' hk' A' a1 a2 a3 ts o vs => h3 W' ?_ A' (fun b hb => a1 b (hA b hb)) (fun b hb => ?_) a3 ts o vs⟩
  · exact ⟨hk'.os.trans hk.os, hk'.tape.trans hk.tape, hk'.output.trans hk.output, Nat.le_trans hk.size hk'.size, fun b hb hs =>
      (hk'.block b (Nat.lt_of_lt_of_le hb hk.size) (fun hx => by rcases hS b hx with h4 | h4; omega; exact hs h4)).trans (hk.block b hb hs)⟩
  · rcases a2 b hb with h4 | h4 | h4
    · exact hA2 b h4
    · rcases hS b h4 with h5 | h5
      · exact .inr (.inr h5)
      · exact .inr (.inl h5)
    · have := hk.size
      exact .inr (.inr (Nat.le_trans this h4))
theorem Over.call (h : Rel P G C β free N regs look a W) (hi : SInj k.σ) {look' : Look} (hlive : ∀ j n, sigma k.σ j = some (some n) → look n ≠ none)
    (hap : apartB k.σ k.frz = true) (hro : ∀ j o n on, look' j = some o → sigma k.σ j = some (some n) → look n = some on → isRo o = false → isRo on = false) :
    Over P C (callC C β look W k.σ k.frz look') β look look' W false k.σ k.frz := by
  have hS : ∀ b, callS β k.σ look' b → C.W0.heap.size ≤ b ∨ C.S0 b := by
    rintro b ⟨j, o, n, pl, h1, h2, h3, h4, h5, rfl⟩
    obtain ⟨on, hon⟩ := Option.ne_none_iff_exists'.1 (hlive j n h3)
    exact h.foot n on pl hon h4 h5 (hro j o n on h1 h3 hon h2)
  refine { keeps := Keeps.start W _ _, avold := fun b hb => ?_, av := fun b hb => ?_, own := fun j o' n on pl h1 h2 h3 h4 h5 h6 h7 => ⟨fun hr => ⟨.inr ⟨j, o', n, pl, h1, hr, h2, h4, h5, rfl⟩, fun hav => ?_⟩, fun hr => ?_⟩, fn := fun g ps rs v hf => hf.inner h.keeps hS (fun b hb => .inl hb) (fun b hb => ?_) }
  · show b < W.heap.size
    rcases hb with hb | ⟨n, pl, h1, h2, h3, h4, _⟩
    · exact Nat.lt_of_lt_of_le (h.avold b hb) h.keeps.size
    · rw [← h4]; exact h.live_lt h1 h2 h3
  · rcases hb with hb | ⟨n, pl, h1, h2, h3, h4, h5, _⟩
    · exact .inl hb
    · exact .inr ⟨n, pl, h1, h2, h3, h4, h5⟩
  · rcases hav with hav | ⟨m, plm, q1, q2, q3, q4, q5, q6⟩
    · exact h.own n on pl h3 h4 h5 (h7 hr) hav
    · have := h.inj m n plm pl q1 (by rw [h3]; simp) q2 h4 q3 h5 q4
      subst this
      exact q6 j o' h1 hr h2
  · cases hron : isRo on with
    | true => exact .inl (h.roav n on pl h3 h4 h5 hron)
    | false =>
      refine .inr ⟨n, pl, by rw [h3]; simp, h4, h5, rfl, fun hn => apartB_spec hap hn h2, fun i o q1 q2 q3 => ?_⟩
      have := hi i j n q3 h2
      subst this
      rw [h1] at q1; cases q1
      rw [hr] at q2; cases q2
  · rcases hb with hb | ⟨n, pl, h1, h2, h3, h4, _⟩
    · exact .inl hb
    · rw [← h4]; exact h.live_foot h1 h2 h3
end
end Go.Proofs.YtbejhhoakeapgaaVM
namespace Go.Proofs.YtbejhhoakeapgaaVM
open Go Go.RowKit
set_option linter.unusedVariables false
set_option linter.unusedSimpArgs false

def At (P : Program) (G : Globs) (C : Ctx) (β : Places) (sh : Shape) (as : List A) (vs : List Value) (W : World) : Prop :=
  vs.length = sh.regs.length ∧ (∀ p, sh.objs[p]? = some .gone → β p = none) ∧ Rel P G C β (fun j => sh.objs.length ≤ j) vs.length (regsOf (unRs P id as (regRMs sh) 0).1) (lookOf P sh.objs as (unRs P id as (regRMs sh) 0).2) ⟨vs.toArray, []⟩ W
def Kept (σ0 : List (Nat × Option Nat)) (β β' : Places) : Prop := ∀ j pl, sigma σ0 j = some (some j) → β j = some pl → β' j = some pl
def FnOk (P : Program) (G : Globs) (e : Entry) (F : List A → Option (List A)) : Prop :=
  Enters P e.fid ∧ ∀ C β vs as o W, C.W0 = W → F as = some o → At P G C β e.ins as vs W →
    Calls P e.fid vs.toArray W fun x W' => ∃ us β', x = .returned (retVal us) ∧ Kept (stays 0 e.ins.objs e.outs.objs) β β' ∧ At P G C β' e.outs o us W'
structure EnvOk (P : Program) (G : Globs) (E : Env) : Prop where
  ents : ∀ i e, E.ents[i]? = some e → FnOk P G e (E.call i)
  glob : E.G = G

def RVt (M : Mem) (β : Places) : List D → List Value → Prop
  | [], [] => True
  | d :: ds, v :: vs => RV M β d v ∧ RVt M β ds vs
  | _, _ => False
theorem RVt.get {M : Mem} {β : Places} : ∀ {ds : List D} {vs : List Value}, RVt M β ds vs → ∀ t, RV M β (regsOf ds t) (vs.toArray.getD t Go.undef)
  | [], [], h, t => by simp [regsOf]; trivial
  | [], _ :: _, h, t => h.elim
  | _ :: _, [], h, t => h.elim
  | d :: ds, v :: vs, h, 0 => by simpa [regsOf] using h.1
  | d :: ds, v :: vs, h, t + 1 => by
    have := RVt.get h.2 t
    simpa [regsOf] using this
theorem RVt.of_get {M : Mem} {β : Places} : ∀ {ds : List D} {vs : List Value}, ds.length = vs.length → (∀ t, RV M β (regsOf ds t) (vs.toArray.getD t Go.undef)) → RVt M β ds vs
  | [], [], h, hg => trivial
  | [], _ :: _, h, hg => by simp at h
  | _ :: _, [], h, hg => by simp at h
  | d :: ds, v :: vs, h, hg => ⟨by simpa [regsOf] using hg 0, RVt.of_get (by simpa using h) (fun t => by simpa [regsOf] using hg (t + 1))⟩
theorem RVs.toRVt {M : Mem} {β : Places} : ∀ {ds : List D} {vs : List Value}, RVs M β ds vs → RVt M β ds vs
  | [], [], _ => trivial
  | [], _ :: _, h => h.elim
  | _ :: _, [], h => h.elim
  | d :: ds, v :: vs, h => ⟨by
      rcases h.1 with rfl | ⟨cs, h1, h2⟩
      · trivial
      · exact RV_of h1 h2, h.2.toRVt⟩
theorem unRs_length {P : Program} {nm : Nat → Nat} {as : List A} : ∀ (l : List RM) (i : Nat), (unRs P nm as l i).1.length = l.length
  | [], i => rfl
  | c :: l, i => by simp [unRs, unRs_length l]
theorem RVt.length {M : Mem} {β : Places} : ∀ {ds : List D} {vs : List Value}, RVt M β ds vs → ds.length = vs.length
  | [], [], _ => rfl
  | [], _ :: _, h => h.elim
  | _ :: _, [], h => h.elim
  | d :: ds, v :: vs, h => by simp [h.2.length]

theorem pv_of_rv {M : Mem} {β : Places} {τ : TypeId} {t : T} {v : Value} (hd : dataTy M.P τ = true) (h : RV M β (ofT M.P τ t) v) : PV M.P M.W M.ok τ t v := by
  unfold dataTy at hd
  split at hd
  case h_1 k hu =>
    simp only [ofT, hu] at h
    have h1 := RV_out h rfl
    simp only [RC] at h1
    exact ⟨[v], by rw [h1]; exact .int hu, by simp [isAggB, hu]⟩
  case h_2 hu =>
    simp only [ofT, hu] at h
    have h1 := RV_out h rfl
    simp only [RC] at h1
    exact ⟨[v], by rw [h1]; exact .bool hu, by simp [isAggB, hu]⟩
  case h_3 hu =>
    simp only [ofT, hu] at h
    have h1 := RV_out h rfl
    simp only [RC] at h1
    exact ⟨[v], by rw [h1]; exact .str hu, by simp [isAggB, hu]⟩
  case h_4 e hu =>
    simp only [ofT, hu] at h
    have h1 := RV_out h rfl
    obtain ⟨a, cap, h2, h3, h4, _⟩ := h1
    exact ⟨[v], by rw [h2]; exact .slice hu h3 h4, by simp [isAggB, hu]⟩
  case h_5 fs hu =>
    simp only [ofT, hu] at h
    obtain ⟨cs, h1, h2, h3, h4⟩ := RV_tree h
    exact ⟨cs.toList, h2, by simp [isAggB, hu, h1]⟩
  case h_6 n e hu =>
    simp only [ofT, hu] at h
    obtain ⟨cs, h1, h2, h3, h4⟩ := RV_tree h
    exact ⟨cs.toList, h2, by simp [isAggB, hu, h1]⟩
  case h_7 => cases hd
theorem rv_of_pv {M : Mem} {β : Places} {τ : TypeId} {t : T} {v : Value} (h : PV M.P M.W M.ok τ t v) : RV M β (ofT M.P τ t) v := by
  obtain ⟨cs, h1, h2⟩ := h
  obtain ⟨h3, h4⟩ := PRep.ofT (β := β) h1
  refine RV_of h3 ?_
  unfold VF
  rw [h4]
  cases hb : isAggB M.P τ <;> rw [hb] at h2 <;> simpa using h2

theorem betaOf_gone {P : Program} {β : Places} {σ : List (Nat × Option Nat)} {objs : List OM} (h : gonesOk σ 0 objs = true) : ∀ p, objs[p]? = some .gone → betaOf P β σ objs p = none := by
  intro p hp
  have := gonesOk_spec h hp
  rw [Nat.zero_add] at this
  simp only [betaOf, this]
theorem allRo_gones : ∀ {l : List OM} {σ : List (Nat × Option Nat)} {j : Nat}, allRo l = true → gonesOk σ j l = true
  | [], σ, j, h => rfl
  | .var τ c true :: l, σ, j, h => by simp only [gonesOk]; exact allRo_gones (l := l) (by simpa [allRo] using h)
  | .var τ c false :: l, σ, j, h => by simp [allRo] at h
  | .row e :: l, σ, j, h => by simp [allRo] at h
  | .map k v :: l, σ, j, h => by simp [allRo] at h
  | .gone :: l, σ, j, h => by simp [allRo] at h
theorem allRo_un {P : Program} {as : List A} : ∀ {l : List OM} {j i n : Nat} {o : O}, allRo l = true → (n, some o) ∈ unOs P id as l j i → isRo o = true
  | [], j, i, n, o, h, hm => by simp [unOs] at hm
  | .var τ c true :: l, j, i, n, o, h, hm => by
    simp only [unOs, unO, List.mem_cons, Prod.mk.injEq, Option.some.injEq] at hm
    rcases hm with ⟨_, rfl⟩ | hm
    · rfl
    · exact allRo_un (l := l) (by simpa [allRo] using h) hm
  | .var τ c false :: l, j, i, n, o, h, hm => by simp [allRo] at h
  | .row e :: l, j, i, n, o, h, hm => by simp [allRo] at h
  | .map k v :: l, j, i, n, o, h, hm => by simp [allRo] at h
  | .gone :: l, j, i, n, o, h, hm => by simp [allRo] at h
theorem namesOf_mem : ∀ {σ : List (Nat × Option Nat)} {j n : Nat}, sigma σ j = some (some n) → n ∈ namesOf σ
  | [], j, n, h => by simp [sigma] at h
  | (i, x) :: σ, j, n, h => by
    simp only [sigma] at h
    cases hb : Nat.beq i j with
    | true => rw [hb] at h; simp at h; subst h; simp [namesOf]
    | false =>
      rw [hb] at h
      have := namesOf_mem (σ := σ) (by simpa using h)
      cases x <;> simp [namesOf, this]
theorem SInj.nil : SInj [] := fun i j n h => by simp [sigma] at h
theorem takeV_un {M : Mem} {β : Places} {as : List A} : ∀ {ps : List TypeId} {l cs : List RM} {i : Nat} {ts : List T} {vs vs2 : List Value}, takeV l ps = some cs → PVs M.P M.W M.ok ps ts vs → (∀ p t, ts[p]? = some t → aAt as (i + p) = .t t) →
    RVt M β (unRs M.P id as cs (i + ps.length)).1 vs2 → RVt M β (unRs M.P id as l i).1 (vs ++ vs2) ∧ (unRs M.P id as l i).2 = (unRs M.P id as cs (i + ps.length)).2 ∧ l.length = ps.length + cs.length ∧ vs.length = ps.length ∧ ts.length = ps.length
  | [], l, cs, i, ts, vs, vs2, h, hp, ha, hv => by
    simp only [takeV, Option.some.injEq] at h
    subst h
    cases ts with
    | cons => exact hp.elim
    | nil =>
      cases vs with
      | cons => exact hp.elim
      | nil => exact ⟨hv, rfl, by simp, rfl, rfl⟩
  | τ :: ps, [], cs, i, ts, vs, vs2, h, hp, ha, hv => by simp [takeV] at h
  | τ :: ps, c :: l, cs, i, ts, vs, vs2, h, hp, ha, hv => by
    cases c <;> simp only [takeV] at h <;> try (cases h; done)
    case v τ' =>
      have := beqN (bif_some h).1
      subst this
      replace h := (bif_some h).2
      cases ts with
      | nil => exact hp.elim
      | cons t ts =>
        cases vs with
        | nil => exact hp.elim
        | cons v vs =>
          obtain ⟨h1, h2⟩ := hp
          have ih := takeV_un (i := i + 1) (vs2 := vs2) h h2 (fun p t hp => by rw [show i + 1 + p = i + (p + 1) by omega]; exact ha (p + 1) t (by simpa using hp)) (by rw [show i + 1 + ps.length = i + (τ' :: ps).length by simp; omega]; exact hv)
          obtain ⟨i1, i2, i3, i4, i5⟩ := ih
          have hi := ha 0 t (by simp)
          rw [Nat.add_zero] at hi
          simp only [unRs, unR, hi, A.tree, List.cons_append]
          refine ⟨⟨rv_of_pv h1, i1⟩, ?_, by simp; omega, by simp [i4], by simp [i5]⟩
          rw [i2]; congr 2; simp; omega
theorem allV_un {M : Mem} {β : Places} {as : List A} : ∀ {regs : List (Nat × RM)} {rs : List TypeId} {i : Nat} {us : List Value}, allV regs rs = true → allData M.P rs = true → RVt M β (unRs M.P id as (regs.map (·.2)) i).1 us →
    PVs M.P M.W M.ok rs ((List.range' i rs.length).map fun p => (aAt as p).tree) us
  | [], [], i, us, h, hd, hv => by
    cases us with
    | nil => exact trivial
    | cons => exact hv.elim
  | [], τ :: rs, i, us, h, hd, hv => by simp [allV] at h
  | (q, c) :: regs, [], i, us, h, hd, hv => by cases c <;> simp [allV] at h
  | (q, c) :: regs, τ :: rs, i, us, h, hd, hv => by
    cases c <;> simp only [allV, Bool.and_eq_true, Bool.false_eq_true] at h
    case v τ' =>
      have := beqN h.1
      subst this
      simp only [allData, Bool.and_eq_true] at hd
      cases us with
      | nil => exact hv.elim
      | cons u us =>
        simp only [List.map_cons, unRs, unR] at hv
        simp only [List.length_cons, List.range'_succ, List.map_cons]
        exact ⟨pv_of_rv hd.1 hv.1, allV_un h.2 hd.2 hv.2⟩

section
variable {P : Program} {G : Globs} {C C' : Ctx} {β : Places} {free : Nat → Prop} {N : Nat} {regs : Regs} {look : Look} {a : Act} {W : World} {E : Env}
theorem cloTry_rep (h : Rel P G C β free N regs look a W) {e : Entry} {eid : Nat} (hf : FnOk P G e (E.call eid)) {caps : List D} {ps rs : List TypeId} {g : List T → Option (List T)} {l : List Nat} (hc : cloTry P E look caps ps rs eid e = some (g, l))
    (hW : C'.W0 = W) (hS : ∀ b, C'.S0 b → ¬ okOf C β look b) (hA : ∀ b, C'.Av b → ¬ okOf C β look b) (hl : ∀ n pl, n ∈ l → β n = some pl → pl.virt = false → C'.Av pl.b ∧ ¬ C'.S0 pl.b) (hfn : ∀ g ps rs v, FnRep P C g ps rs v → FnRep P C' g ps rs v)
    {vs : Array Value} (hv : RVs (memOf P C β look W) β caps vs.toList) : FnRep P C' g ps rs (.func (.func e.fid) #[] vs) := by
  unfold cloTry at hc
  split at hc
  case h_2 => cases hc
  case h_1 cs htk =>
  split at hc
  case h_2 => cases hc
  case h_1 k hk =>
  split at hc
  case h_2 => cases hc
  case h_1 k' hk' =>
  have hb := (bif_some hc).1
  replace hc := (bif_some hc).2
  simp only [Option.some.injEq, Prod.mk.injEq] at hc
  obtain ⟨hg, hl'⟩ := hc
  subst hl'
  simp only [Bool.and_eq_true] at hb
  obtain ⟨⟨⟨⟨⟨⟨b1, b2⟩, b3⟩, b4⟩, b5⟩, b6⟩, b7⟩ := hb
  have hfrz : k'.frz = [] := by simpa using b4
  obtain ⟨le1, _⟩ := packRs_le cs hk
  obtain ⟨le2, _⟩ := packObjs_le _ hk'
  have hinj : SInj k'.σ := le2.inj (le1.inj SInj.nil)
  have hlive : ∀ {j : Nat} {pl : Place}, betaOf P β k'.σ e.ins.objs j = some pl → pl.virt = false → ∃ n on, sigma k'.σ j = some (some n) ∧ look n = some on ∧ β n = some pl := fun hp hv => over_live h b5 (allRo_gones b3) hk' hp hv
  refine ⟨e.fid, vs, rfl, hf.1, fun W1 hk1 X a1 a2 a3 ts o vs' hpv hgo => ?_⟩
  subst hg
  dsimp only at hgo
  cases hcall : E.call eid (ts.map A.t ++ k'.as) with
  | none => rw [hcall] at hgo; cases hgo
  | some out =>
  rw [hcall] at hgo
  simp only [Option.map_some, Option.some.injEq] at hgo
  subst hgo
  have hlook : ∀ as i j o', lookOf P e.ins.objs as i j = some o' → isRo o' = true := fun as i j o' hm => allRo_un b3 (lookOf_mem hm)
  have nA : ∀ b, okOf C β look b → b < W.heap.size → ¬ X b := by
    intro b hok hlt hb
    rcases a2 b hb with h1 | h1 | h1
    · exact hA b h1 hok
    · exact hS b h1 hok
    · rw [hW] at h1; omega
  have capA : ∀ {j : Nat} {pl : Place}, betaOf P β k'.σ e.ins.objs j = some pl → pl.virt = false → X pl.b := by
    intro j pl hp hv
    obtain ⟨n, on, h1, h2, h3⟩ := hlive hp hv
    exact a1 _ (hl n pl (namesOf_mem h1) h3 hv).1
  let i0 := ts.length + k.as.length
  have tr : Tr (memOf P C β look W) (memOf P ⟨W1, fun _ => False, X⟩ (betaOf P β k'.σ e.ins.objs) (lookOf P e.ins.objs (ts.map A.t ++ k'.as) i0) W1) β k'.frz := by
    have mid : ∀ b, (okOf C β look b ∨ ∃ n, n ∈ k'.frz ∧ ∃ pl, β n = some pl ∧ pl.virt = false ∧ pl.b = b) → okOf C β look b := by
      rintro b (hb | ⟨n, hn, _⟩)
      · exact hb
      · rw [hfrz] at hn; simp at hn
    refine ⟨rfl, ⟨fun b hb => ?_, fun b o hb ho => ?_⟩, fun g ps rs v hf => ?_⟩
    · have hb := mid b hb
      by_cases hn : W.heap[b]? = none
      · exact .inr hn
      · have hlt : b < W.heap.size := by
          rcases Nat.lt_or_ge b W.heap.size with h1 | h1
          · exact h1
          · exact absurd (Array.getElem?_eq_none h1) hn
        refine .inl ⟨nA b hb hlt, fun j pl _ hp hv hbe => nA b hb hlt (hbe ▸ capA hp hv)⟩
    · have hb := mid b hb
      have hlt : b < W.heap.size := by
        rcases Nat.lt_or_ge b W.heap.size with h1 | h1
        · exact h1
        · change W.heap[b]? = some o at ho; rw [Array.getElem?_eq_none h1] at ho; cases ho
      show W1.heap[b]? = some o
      rw [hk1.block b (by rw [hW]; exact hlt) (fun hx => hS b hx hb), hW]
      exact ho
    · have := hfn g ps rs v hf
      exact this.inner hk1 (fun b hb => hb.elim) a1 a2
  have hWW : ∀ j n pl, sigma k'.σ j = some (some n) → β n = some pl → pl.virt = false → W1.heap[pl.b]? = W.heap[pl.b]? := by
    intro j n pl hs hp hv
    have hj := sigBound_spec b5 hs
    have hlt : pl.b < W.heap.size := by
      obtain ⟨n', on, h1, h2, h3⟩ := hlive (j := j) (pl := pl) (by simp only [betaOf, hs]; exact hp) hv
      exact h.live_lt (by rw [h2]; simp) h3 hv
    rw [hk1.block pl.b (by rw [hW]; exact hlt) (hl n pl (namesOf_mem hs) hp hv).2, hW]
  have bd := betaOf_bind (P := P) (β := β) b5
  have hat : ∀ i, i < k'.as.length → aAt (ts.map A.t ++ k'.as) (ts.length + i) = aAt k'.as i := by
    intro i hi
    simp only [aAt, List.getD]
    rw [List.getElem?_append_right (by simp)]
    simp
  obtain ⟨l2, hl2⟩ := le2.as
  have hkl : k.as.length ≤ k'.as.length := by rw [hl2]; simp
  have hvc := packRs_vs (as := ts.map A.t ++ k'.as) (off := ts.length) (nm := id) h.objs tr bd cs hk hv le2.σ (fun n hn => le2.frz n hn) (fun i hi => by
    rw [hat i (by omega), hl2]
    simp only [aAt, List.getD, List.getElem?_append_left hi])
  have hob := packObjs_rep (as := ts.map A.t ++ k'.as) (off := ts.length) (F := k'.frz) (σf := k'.σ) h.objs tr hWW bd e.ins.objs hk' (fun _ _ h => h) (fun _ h => h) hat
  -- the arguments
  have hpv' : PVs P W1 (okOf ⟨W1, fun _ => False, X⟩ (betaOf P β k'.σ e.ins.objs) (lookOf P e.ins.objs (ts.map A.t ++ k'.as) i0)) ps ts vs' := by
    have key : ∀ b, ¬ X b → okOf ⟨W1, fun _ => False, X⟩ (betaOf P β k'.σ e.ins.objs) (lookOf P e.ins.objs (ts.map A.t ++ k'.as) i0) b := fun b hb => ⟨hb, fun j pl _ hp hv hbe => hb (hbe ▸ capA hp hv)⟩
    have : ∀ {ps : List TypeId} {ts : List T} {vs : List Value}, PVs P W1 (fun b => ¬ X b) ps ts vs → ∀ {ok : Nat → Prop}, (∀ b, ¬ X b → ok b) → PVs P W1 ok ps ts vs := by
      intro ps
      induction ps with
      | nil => intro ts vs h ok _; cases ts <;> cases vs <;> first | exact h.elim | exact trivial
      | cons τ ps ih =>
        intro ts vs h ok hok
        cases ts with
        | nil => exact h.elim
        | cons t ts =>
          cases vs with
          | nil => exact h.elim
          | cons v vs => exact ⟨h.1.stay ⟨fun b hb => .inl (hok b hb), fun _ _ _ h => h⟩, ih h.2 hok⟩
    exact this hpv key
  have ht := takeV_un (M := memOf P ⟨W1, fun _ => False, X⟩ (betaOf P β k'.σ e.ins.objs) (lookOf P e.ins.objs (ts.map A.t ++ k'.as) i0) W1) (β := betaOf P β k'.σ e.ins.objs) (as := ts.map A.t ++ k'.as) (i := 0) (vs2 := vs.toList) htk hpv' (fun p t hp => by
      simp only [aAt, List.getD, Nat.zero_add]
      rw [List.getElem?_append_left (by rw [List.length_map]; exact (List.getElem?_eq_some_iff.1 hp).1), List.getElem?_map, hp]
      rfl)
  have hlen : ts.length = ps.length := by
    have : ∀ {ps : List TypeId} {ts : List T} {vs : List Value}, PVs P W1 (fun b => ¬ X b) ps ts vs → ts.length = ps.length := by
      intro ps
      induction ps with
      | nil => intro ts vs h; cases ts <;> cases vs <;> first | exact h.elim | rfl
      | cons τ ps ih =>
        intro ts vs h
        cases ts with
        | nil => exact h.elim
        | cons t ts =>
          cases vs with
          | nil => exact h.elim
          | cons v vs => simp [ih h.2]
    exact this hpv
  simp only [List.length_nil, Nat.add_zero] at hvc
  rw [hlen] at hvc
  obtain ⟨t1, t2, t3, t4, t5⟩ := ht (by rw [Nat.zero_add]; exact hvc.1.toRVt)
  have hi0 : (unRs P id (ts.map A.t ++ k'.as) (regRMs e.ins) 0).2 = i0 := by
    refine t2.trans ?_
    rw [Nat.zero_add]
    exact hvc.2.trans (by rw [← hlen])
  have hAt : At P G ⟨W1, fun _ => False, X⟩ (betaOf P β k'.σ e.ins.objs) e.ins (ts.map A.t ++ k'.as) (vs' ++ vs.toList) W1 := by
    have hlenv := t1.length
    rw [unRs_length] at hlenv
    refine ⟨by rw [← hlenv]; simp [regRMs], betaOf_gone (allRo_gones b3), ?_⟩
    rw [hi0]
    have objs' : ∀ j o, lookOf P e.ins.objs (ts.map A.t ++ k'.as) i0 j = some o → ∃ pl, betaOf P β k'.σ e.ins.objs j = some pl ∧ RO (memOf P ⟨W1, fun _ => False, X⟩ (betaOf P β k'.σ e.ins.objs) (lookOf P e.ins.objs (ts.map A.t ++ k'.as) i0) W1) (betaOf P β k'.σ e.ins.objs) pl o := by
      intro j o hj
      rcases hob j o (lookOf_mem hj) with ⟨m, on, pl, h1, h2, h3, h4, _⟩ | ⟨_, h2, _⟩
      · exact ⟨pl, by simp only [betaOf, h1]; exact h3, h4⟩
      · rw [hlook _ _ _ _ hj] at h2; cases h2
    refine { keeps := Keeps.start W1 _ _, defers := rfl, size := by simp, vals := t1.get, bound := fun t ht => ?_, objs := objs', inj := fun i j pl pl' hi' hj' hp hp' hv hv' hbb => ?_, foot := fun j o pl hj hp hv hr => (by rw [hlook _ _ _ _ hj] at hr; cases hr),
             own := fun j o pl hj hp hv hr => (by rw [hlook _ _ _ _ hj] at hr; cases hr), roav := fun j o pl hj hp hv hr => capA hp hv, free := fun j hj => ?_, globs := fun g τ t hg => ?_, avold := a3 }
    · unfold regsOf
      rw [List.getD, List.getElem?_eq_none (by rw [unRs_length, hlenv]; exact ht)]
      rfl
    · obtain ⟨n, on, h1, h2, h3⟩ := hlive hp hv
      obtain ⟨m, om, h4, h5, h6⟩ := hlive hp' hv'
      have := h.inj n m pl pl' (by rw [h2]; simp) (by rw [h5]; simp) h3 h6 hv hv' hbb
      subst this
      exact hinj i j n h1 h4
    · cases hs : sigma k'.σ j with
      | none => simp only [betaOf, hs]
      | some x => have := sigBound_spec b5 hs; omega
    · obtain ⟨b, o, c, el, fr, s, h1, h2, h3, h4, h5, h6⟩ := h.globs g τ t hg
      exact ⟨b, o, c, el, fr, s, h1, (tr.mid.1 b (.inl h2)).resolve_right (by show ¬ W.heap[b]? = none; rw [show W.heap[b]? = _ from h3]; simp), tr.mid.2 b _ (.inl h2) h3, h4, h5.stay ⟨fun b hb => tr.mid.1 b (.inl hb), fun b o hb ho => tr.mid.2 b o (.inl hb) ho⟩, h6⟩
  have hcalls := hf.2 _ _ _ _ _ W1 rfl hcall hAt
  have hargs : (vs' ++ vs.toList).toArray = vs'.toArray ++ vs := by simp
  rw [hargs] at hcalls
  refine hcalls.mono ?_
  rintro x W2 ⟨us, β', hx, _, hus, _, hrel⟩
  refine ⟨us, hx, ⟨hrel.keeps.os, hrel.keeps.tape, hrel.keeps.output, hrel.keeps.size, fun b hb => hrel.keeps.block b hb (fun hf => hf)⟩, ?_⟩
  have hvt := RVt.of_get (by rw [unRs_length]; simp [regRMs, hus]) hrel.vals
  have hpv2 := allV_un (M := memOf P ⟨W1, fun _ => False, X⟩ β' (lookOf P e.outs.objs out (unRs P id out (regRMs e.outs) 0).2) W2) b1 b2 hvt
  have hts : (List.range rs.length).map (tAtD ((List.range rs.length).map fun i => (aAt out i).tree)) = (List.range' 0 rs.length).map fun p => (aAt out p).tree := by
    rw [← List.range_eq_range']
    refine List.map_congr_left fun i hi => ?_
    simp at hi
    simp [tAtD, hi]
  rw [hts]
  have weak : ∀ {rs : List TypeId} {ts : List T} {vs : List Value} {ok : Nat → Prop}, PVs P W2 ok rs ts vs → (∀ b, ok b → ¬ X b) → PVs P W2 (fun b => ¬ X b) rs ts vs := by
    intro ps
    induction ps with
    | nil => intro ts vs ok h _; cases ts <;> cases vs <;> first | exact h.elim | exact trivial
    | cons τ ps ih =>
      intro ts vs ok h hok
      cases ts with
      | nil => exact h.elim
      | cons t ts =>
        cases vs with
        | nil => exact h.elim
        | cons v vs => exact ⟨h.1.stay ⟨fun b hb => .inl (hok b hb), fun _ _ _ h => h⟩, ih h.2 hok⟩
  exact weak hpv2 (fun b hb => hb.1)
theorem cloFn_rep (h : Rel P G C β free N regs look a W) {f : FuncId} {caps : List D} {ps rs : List TypeId} {g : List T → Option (List T)} {l : List Nat} (hE : ∀ i e, E.ents[i]? = some e → FnOk P G e (E.call i)) :
    ∀ (es : List Entry) (i : Nat), (∀ p e, es[p]? = some e → E.ents[i + p]? = some e) → cloFn P E look f caps ps rs es i = some (g, l) →
    C'.W0 = W → (∀ b, C'.S0 b → ¬ okOf C β look b) → (∀ b, C'.Av b → ¬ okOf C β look b) → (∀ n pl, n ∈ l → β n = some pl → pl.virt = false → C'.Av pl.b ∧ ¬ C'.S0 pl.b) → (∀ g ps rs v, FnRep P C g ps rs v → FnRep P C' g ps rs v) →
    ∀ {v : Value}, RC (memOf P C β look W) β (.clo f caps) [v] → FnRep P C' g ps rs v
  | [], i, _, hc, _, _, _, _, _, v, hv => by simp [cloFn] at hc
  | e :: es, i, hes, hc, h1, h2, h3, h4, h5, v, hv => by
    have hnext : ∀ p e', es[p]? = some e' → E.ents[i + 1 + p]? = some e' := fun p e' hp => by rw [show i + 1 + p = i + (p + 1) by omega]; exact hes (p + 1) e' (by simpa using hp)
    simp only [cloFn] at hc
    cases hb : (cloMatch e f caps ps rs && !boundB P f caps.length) with
    | false => rw [hb] at hc; exact cloFn_rep h hE es (i + 1) hnext (by simpa using hc) h1 h2 h3 h4 h5 hv
    | true =>
      rw [hb] at hc
      simp only [cloMatch, Bool.and_eq_true] at hb
      have := beqN hb.1.1.1
      subst this
      simp only [cond_true] at hc
      obtain ⟨vs, fst, ws, hr, hvs, hca⟩ := hv
      simp only [List.cons.injEq, and_true] at hvs
      subst hvs
      have hlen := RVs.length hr
      rcases hca with ⟨rfl, rfl⟩ | ⟨_, _, hbd⟩
      case inr => have hb2 := hb.2; change boundB P e.fid vs.toList.length = true at hbd; rw [← hlen, hbd] at hb2; cases hb2
      exact cloTry_rep h (hE i e (by have := hes 0 e (by simp); simpa using this)) hc h1 h2 h3 h4 h5 hr
end
end Go.Proofs.YtbejhhoakeapgaaVM
namespace Go.Proofs.YtbejhhoakeapgaaVM
open Go Go.RowKit
set_option linter.unusedVariables false
set_option linter.unusedSimpArgs false

section
variable {P : Program} {look : Look} {st : Bool} {E : Env}
theorem packTop_cases {c : RM} {d : D} {k k' : Pk} (h : packTop P st E look c d k = some k') : packR P look c d k = some k' ∨
    ∃ ps rs f caps g l, c = .fn ps rs ∧ d = .clo f caps ∧ st = false ∧ cloFn P E look f caps ps rs E.ents 0 = some (g, l) ∧ k' = ⟨k.as ++ [.fn g], k.σ, k.frz, k.held ++ l⟩ := by
  unfold packTop at h
  split at h
  case h_1 ps rs f caps =>
    cases st with
    | true => cases h
    | false =>
      simp only [cond_false] at h
      split at h
      case h_1 g l hc => cases h; exact .inr ⟨ps, rs, f, caps, g, l, rfl, rfl, rfl, hc, rfl⟩
      case h_2 => cases h
  case h_2 => exact .inl h
theorem packTop_le {c : RM} {d : D} {k k' : Pk} (h : packTop P st E look c d k = some k') : k.Le k' := by
  rcases packTop_cases h with h1 | ⟨ps, rs, f, caps, g, l, _, _, _, _, rfl⟩
  · exact (packR_le c h1).1
  · exact ⟨⟨_, rfl⟩, fun _ _ h => h, fun n hn => hn, fun h => h, fun n hn => List.mem_append_left _ hn⟩
theorem packTops_le : ∀ (cs : List RM) {ds : List D} {k k' : Pk}, packTops P st E look cs ds k = some k' → k.Le k'
  | [], ds, k, k', h => by cases ds <;> simp only [packTops] at h <;> cases h; exact .refl _
  | c :: cs, ds, k, k', h => by
    cases ds <;> simp only [packTops] at h
    case nil => cases h
    case cons d ds =>
      split at h
      case h_1 k1 h1 => exact (packTop_le h1).trans (packTops_le cs h)
      case h_2 => cases h
theorem packTops_names : ∀ (cs : List RM) {ds : List D} {k k' : Pk}, packTops P st E look cs ds k = some k' → ∀ n, n ∈ k'.frz → n ∈ k.frz ∨ ∃ e xs, look n = some (.row e xs)
  | [], ds, k, k', h => by cases ds <;> simp only [packTops] at h <;> cases h; exact fun n hn => .inl hn
  | c :: cs, ds, k, k', h => by
    cases ds <;> simp only [packTops] at h
    case nil => cases h
    case cons d ds =>
      split at h
      case h_1 k1 h1 =>
        intro n hn
        rcases packTops_names cs h n hn with h2 | h2
        · rcases packTop_cases h1 with h3 | ⟨ps, rs, f, caps, g, l, _, _, _, _, rfl⟩
          · exact packR_names c h3 n h2
          · exact .inl h2
        · exact .inr h2
      case h_2 => cases h
end
section
variable {M M' : Mem} {β β' : Places} {look : Look} {F : List Nat} {σf : List (Nat × Option Nat)} {nm : Nat → Nat} {as : List A} {off : Nat} {st : Bool} {E : Env}
theorem packTops_vs (ho : Objs M β look) (tr : Tr M M' β F) (bd : Bind β β' σf nm) {H : List Nat}
    (hclo : ∀ f caps ps rs g l v, st = false → cloFn M.P E look f caps ps rs E.ents 0 = some (g, l) → (∀ n, n ∈ l → n ∈ H) → RC M β (.clo f caps) [v] → FnRep M.P M'.C g ps rs v) :
    ∀ (rs : List RM) {ds : List D} {k k' : Pk} {vs : List Value}, packTops M.P st E look rs ds k = some k' → RVt M β ds vs → (∀ j x, sigma k'.σ j = some x → sigma σf j = some x) → (∀ n, n ∈ k'.frz → n ∈ F) → (∀ n, n ∈ k'.held → n ∈ H) →
    (∀ i, i < k'.as.length → aAt as (off + i) = aAt k'.as i) → RVt M' β' (unRs M.P nm as rs (off + k.as.length)).1 vs ∧ (unRs M.P nm as rs (off + k.as.length)).2 = off + k'.as.length
  | [], ds, k, k', vs, h, hv, hσ, hF, hH, ha => by
    cases ds <;> simp only [packTops] at h <;> cases h
    cases vs with
    | nil => exact ⟨trivial, rfl⟩
    | cons => exact hv.elim
  | c :: rs, ds, k, k', vs, h, hv, hσ, hF, hH, ha => by
    cases ds <;> simp only [packTops] at h
    case nil => cases h
    case cons d ds =>
      split at h
      case h_2 => cases h
      case h_1 k1 h1 =>
        cases vs with
        | nil => exact hv.elim
        | cons v vs =>
          obtain ⟨hv1, hv2⟩ := hv
          have le2 := packTops_le rs h
          obtain ⟨l, hl⟩ := le2.as
          have ha1 : ∀ i, i < k1.as.length → aAt as (off + i) = aAt k1.as i := fun i hi => by
            rw [ha i (by rw [hl, List.length_append]; omega), hl]
            simp only [aAt, List.getD, List.getElem?_append_left hi]
          have step : RV M' β' (unR M.P nm as c (off + k.as.length)).1 v ∧ (unR M.P nm as c (off + k.as.length)).2 = off + k1.as.length := by
            rcases packTop_cases h1 with h3 | ⟨ps, rs', f, caps, g, l', rfl, rfl, hst, hc, rfl⟩
            · have hx : ∃ cs, RC M β d cs ∧ VF d cs v := by
                cases d <;> first
                  | exact hv1
                  | (cases c <;> simp [packR, packT] at h3; done)
              obtain ⟨cs, hc, hf⟩ := hx
              obtain ⟨r1, r2, r3, _⟩ := packR_rep ho tr bd c h3 hc (fun j x hx => hσ j x (le2.σ j x hx)) (fun n hn => hF n (le2.frz n hn)) ha1
              exact ⟨RV_of r1 (by unfold VF at hf ⊢; rw [r3]; exact hf), r2⟩
            · have hi : aAt as (off + k.as.length) = .fn g := by
                rw [ha1 _ (by simp)]
                simp [aAt, List.getD]
              simp only [unR, hi, A.fnOf]
              refine ⟨RV_scalar ⟨v, rfl, ?_⟩ rfl, by simp; omega⟩
              rw [tr.P]
              exact hclo f caps ps rs' g l' v hst hc (fun n hn => hH n (le2.held n (List.mem_append_right _ hn))) (RV_out hv1 rfl)
          obtain ⟨s1, s2⟩ := step
          obtain ⟨t1, t2⟩ := packTops_vs ho tr bd hclo rs h hv2 hσ hF hH ha
          simp only [unRs, s2]
          exact ⟨⟨s1, t1⟩, t2⟩
end
theorem meets_spec {m : List Nat} : ∀ {l : List Nat} {n : Nat}, meets l m = false → n ∈ l → n ∉ m
  | [], n, h, hn => by simp at hn
  | x :: l, n, h, hn => by
    simp only [meets, Bool.or_eq_false_iff] at h
    rcases List.mem_cons.1 hn with rfl | hn
    · intro hm; have := memN_iff.2 hm; rw [h.1] at this; cases this
    · exact meets_spec h.2 hn
theorem liveB_spec {look : Look} : ∀ {l : List Nat} {n : Nat}, liveB look l = true → n ∈ l → look n ≠ none
  | [], n, h, hn => by simp at hn
  | x :: l, n, h, hn => by
    simp only [liveB, Bool.and_eq_true] at h
    rcases List.mem_cons.1 hn with rfl | hn
    · intro hm; rw [hm] at h; simp at h
    · exact liveB_spec h.2 hn
section
variable {P : Program} {G : Globs} {C : Ctx} {β : Places} {free : Nat → Prop} {N : Nat} {regs : Regs} {look : Look} {a : Act} {W : World} {E : Env}
structure Packed (P : Program) (st : Bool) (E : Env) (look : Look) (σ0 : List (Nat × Option Nat)) (sh : Shape) (ds : List D) (k0 k : Pk) : Prop where
  tops : packTops P st E look (regRMs sh) ds ⟨[], σ0, [], []⟩ = some k0
  objs : packObjs P st look 0 sh.objs k0 = some k
  apart : apartB k.σ k.frz = true
  apartH : apartB k.σ k.held = true
  meets : meets k.held k.frz = false
  bound : sigBound k.σ sh.objs.length = true
  gones : gonesOk k.σ 0 sh.objs = true
  live : liveB look k.held = true
theorem packShape_spec {st : Bool} {σ0 : List (Nat × Option Nat)} {sh : Shape} {ds : List D} {k : Pk} (h : packShape P st E look σ0 sh ds = some k) : ∃ k0, Packed P st E look σ0 sh ds k0 k := by
  unfold packShape at h
  split at h
  case h_2 => cases h
  case h_1 k0 h1 =>
    split at h
    case h_2 => cases h
    case h_1 k' h2 =>
      have hb := (bif_some h).1
      replace h := (bif_some h).2
      cases h
      simp only [Bool.and_eq_true, Bool.not_eq_true'] at hb
      obtain ⟨⟨⟨⟨⟨b1, b2⟩, b3⟩, b4⟩, b5⟩, b6⟩ := hb
      exact ⟨k0, h1, h2, b1, b2, b3, b4, b5, b6⟩
theorem Packed.frz {st : Bool} {σ0 : List (Nat × Option Nat)} {sh : Shape} {ds : List D} {k0 k : Pk} (p : Packed P st E look σ0 sh ds k0 k) : ∀ n, n ∈ k.frz → ∃ e xs, look n = some (.row e xs) := by
  intro n hn
  rcases packObjs_names _ p.objs n hn with h1 | h1
  · rcases packTops_names _ p.tops n h1 with h2 | h2
    · simp at h2
    · exact h2
  · exact h1
theorem Packed.inj {st : Bool} {σ0 : List (Nat × Option Nat)} {sh : Shape} {ds : List D} {k0 k : Pk} (p : Packed P st E look σ0 sh ds k0 k) (h : SInj σ0) : SInj k.σ := (packObjs_le _ p.objs).1.inj ((packTops_le _ p.tops).inj h)
theorem Packed.sub {st : Bool} {σ0 : List (Nat × Option Nat)} {sh : Shape} {ds : List D} {k0 k : Pk} (p : Packed P st E look σ0 sh ds k0 k) : ∀ j x, sigma σ0 j = some x → sigma k.σ j = some x := fun j x h => (packObjs_le _ p.objs).1.σ j x ((packTops_le _ p.tops).σ j x h)
theorem Packed.liveσ {st : Bool} {σ0 : List (Nat × Option Nat)} {sh : Shape} {ds : List D} {k0 k : Pk} (p : Packed P st E look σ0 sh ds k0 k) {j n : Nat} (h : sigma k.σ j = some (some n)) : look n ≠ none := by
  have hj := sigBound_spec p.bound h
  have hom : sh.objs[j]? = some sh.objs[j] := List.getElem?_eq_getElem hj
  rcases packObjs_live _ p.objs j _ hom with h1 | h1 | ⟨m, on, h1, h2⟩
  · rw [h1] at hom
    have := gonesOk_spec p.gones hom
    rw [Nat.zero_add, h] at this; cases this
  · rw [Nat.zero_add, h] at h1; cases h1
  · rw [Nat.zero_add, h] at h1
    cases h1
    rw [h2]; simp
theorem call_in (h : Rel P G C β free N regs look a W) (hE : EnvOk P G E) {sh : Shape} {ds : List D} {vs : List Value} {k0 k : Pk} (p : Packed P false E look [] sh ds k0 k) (hv : RVt (memOf P C β look W) β ds vs) :
    At P G (callC C β look W k.σ k.frz (lookOf P sh.objs k.as k0.as.length)) (betaOf P β k.σ sh.objs) sh k.as vs W ∧ (unRs P id k.as (regRMs sh) 0).2 = k0.as.length ∧
    (∀ j o n on, lookOf P sh.objs k.as k0.as.length j = some o → sigma k.σ j = some (some n) → look n = some on → isRo o = false → isRo on = false) := by
  have hinj := p.inj SInj.nil
  have bd := betaOf_bind (P := P) (β := β) p.bound
  -- the objects tell whether they may be written, whatever the frame
  have hro : ∀ j o n on, lookOf P sh.objs k.as k0.as.length j = some o → sigma k.σ j = some (some n) → look n = some on → isRo o = false → isRo on = false := by
    intro j o n on hj hs hn hr
    have tr0 : Tr (memOf P C β look W) (memOf P C (betaOf P β k.σ sh.objs) (lookOf P sh.objs k.as k0.as.length) W) β k.frz := by
      refine ⟨rfl, ⟨fun b hb => .inl ⟨fun hav => ?_, fun j pl hlj hpj hvj hbj => ?_⟩, fun _ _ _ ho => ho⟩, fun _ _ _ _ h => h⟩
      · rcases hb with h6 | ⟨n, hn, pl, h7, h8, h9⟩
        · exact h6.1 hav
        · obtain ⟨e, xs, hl⟩ := p.frz n hn
          exact h.own n _ pl hl h7 h8 rfl (h9 ▸ hav)
      · obtain ⟨m, on, h1, h2, h3⟩ := over_live h p.bound p.gones p.objs hpj hvj
        rcases hb with h6 | ⟨n, hn, pl', h7, h8, h9⟩
        · exact h6.2 m pl (by rw [h2]; simp) h3 hvj hbj
        · obtain ⟨e, xs, hl⟩ := p.frz n hn
          have := h.inj m n pl pl' (by rw [h2]; simp) (by rw [hl]; simp) h3 h7 hvj h8 (hbj.trans h9.symm)
          subst this
          exact apartB_spec p.apart hn h1
    rcases packObjs_rep (as := k.as) (off := 0) (F := k.frz) (σf := k.σ) h.objs tr0 (fun _ _ _ _ _ _ => rfl) bd sh.objs p.objs (fun _ _ h => h) (fun _ h => h) (fun i _ => by rw [Nat.zero_add]) j o (by rw [Nat.zero_add]; exact lookOf_mem hj) with ⟨m, on', pl, h1, h2, h3, h4, h5, h6⟩ | ⟨h1, _⟩
    · rw [hs] at h1; cases h1
      rw [hn] at h2; cases h2
      exact h6 hr
    · rw [hs] at h1; cases h1
  have ov : Over P C (callC C β look W k.σ k.frz (lookOf P sh.objs k.as k0.as.length)) β look (lookOf P sh.objs k.as k0.as.length) W false k.σ k.frz := Over.call h hinj (fun j n hs => p.liveσ hs) p.apart hro
  have tr := over_tr h p.bound p.gones p.apart p.objs p.frz ov
  obtain ⟨l, hl⟩ := (packObjs_le _ p.objs).1.as
  have hvs := packTops_vs (as := k.as) (off := 0) (nm := id) (F := k.frz) (σf := k.σ) h.objs tr bd (H := k.held) (st := false) (E := E) (fun f caps ps rs g l' v _ hc hH hr => by
    refine cloFn_rep (C' := callC C β look W k.σ k.frz (lookOf P sh.objs k.as k0.as.length)) h hE.ents E.ents 0 (fun p e hp => by rw [Nat.zero_add]; exact hp) hc rfl (fun b hb hok => ?_) (fun b hb hok => ?_) (fun n pl hn hp hv => ⟨?_, ?_⟩) ov.fn hr
    · obtain ⟨j, o, n, pl, q1, q2, q3, q4, q5, q6⟩ := hb
      exact hok.2 n pl (p.liveσ q3) q4 q5 q6
    · rcases hb with hb | ⟨n, pl, q1, q2, q3, q4, _⟩
      · exact hok.1 hb
      · exact hok.2 n pl q1 q2 q3 q4
    · exact .inr ⟨n, pl, liveB_spec p.live (hH n hn), hp, hv, rfl, meets_spec p.meets (hH n hn), fun j o _ _ hs => apartB_spec p.apartH (hH n hn) hs⟩
    · rintro ⟨j, o, n', pl', q1, q2, q3, q4, q5, q6⟩
      have := h.inj n' n pl' pl (p.liveσ q3) (liveB_spec p.live (hH n hn)) q4 hp q5 hv q6
      subst this
      exact apartB_spec p.apartH (hH n' hn) q3) (regRMs sh) p.tops hv (fun j x hx => (packObjs_le _ p.objs).1.σ j x hx) (fun n hn => (packObjs_le _ p.objs).1.frz n hn) (fun n hn => (packObjs_le _ p.objs).1.held n hn) (fun i hi => by
        rw [Nat.zero_add, hl]
        simp only [aAt, List.getD, List.getElem?_append_left hi])
  simp only [List.length_nil, Nat.add_zero, Nat.zero_add] at hvs
  obtain ⟨v1, v2⟩ := hvs
  have v2' : (unRs P id k.as (regRMs sh) 0).2 = k0.as.length := v2
  have hlen := v1.length
  rw [unRs_length] at hlen
  refine ⟨⟨by rw [← hlen]; simp [regRMs], betaOf_gone p.gones, ?_⟩, v2', hro⟩
  rw [v2']
  exact Rel.over h hinj p.bound p.gones p.apart p.objs p.frz ov rfl (by simp) v1.get (fun t ht => by
    unfold regsOf
    rw [List.getD, List.getElem?_eq_none (by rw [unRs_length, hlen]; exact ht)]
    rfl)
end
end Go.Proofs.YtbejhhoakeapgaaVM
namespace Go.Proofs.YtbejhhoakeapgaaVM
open Go Go.RowKit
set_option linter.unusedVariables false
set_option linter.unusedSimpArgs false

section
variable {M M' : Mem} {β β' : Places} {nm : Nat → Nat} {as : List A}
theorem ofT_ren (hP : M'.P = M.P) (hst : Stay M.ok M'.ok M.W M'.W) {τ : TypeId} {t : T} {cs : List Value} (h : RC M β (ofT M.P τ t) cs) : RC M' β' (ofT M.P τ t) cs := by
  unfold ofT at h ⊢
  split at h
  case h_1 => exact h
  case h_2 => exact h
  case h_3 => exact h
  case h_4 => obtain ⟨a, cap, h1, h2, h3⟩ := h; exact ⟨a, cap, h1, by rw [hP]; exact h2.stay hst, h3⟩
  case h_5 => obtain ⟨h1, h2, h3⟩ := h; exact ⟨by rw [hP]; exact h1.stay hst, by rw [hP]; exact h2, by rw [hP]; exact h3⟩
  case h_6 => obtain ⟨h1, h2, h3⟩ := h; exact ⟨by rw [hP]; exact h1.stay hst, by rw [hP]; exact h2, by rw [hP]; exact h3⟩
  case h_7 => exact h.elim
mutual
theorem unR_snd {P : Program} {nm nm' : Nat → Nat} {as : List A} : ∀ (c : RM) (i : Nat), (unR P nm as c i).2 = (unR P nm' as c i).2 ∧ scalar (unR P nm as c i).1 = scalar (unR P nm' as c i).1 ∧ (∀ τ, fits P τ (unR P nm as c i).1 = fits P τ (unR P nm' as c i).1)
  | .v τ, i => ⟨rfl, rfl, fun _ => rfl⟩
  | .fn ps rs, i => ⟨rfl, rfl, fun _ => rfl⟩
  | .p j τ, i => ⟨rfl, rfl, fun _ => rfl⟩
  | .o j, i => ⟨rfl, rfl, fun _ => rfl⟩
  | .m j, i => ⟨rfl, rfl, fun _ => rfl⟩
  | .np, i => ⟨rfl, rfl, fun _ => rfl⟩
  | .nl, i => ⟨rfl, rfl, fun _ => rfl⟩
  | .nm, i => ⟨rfl, rfl, fun _ => rfl⟩
  | .nf, i => ⟨rfl, rfl, fun _ => rfl⟩
  | .clo f cs, i => ⟨unRs_snd cs i, rfl, fun _ => rfl⟩
  | .agg τ cs, i => ⟨unRs_snd cs i, rfl, fun _ => rfl⟩
theorem unRs_snd {P : Program} {nm nm' : Nat → Nat} {as : List A} : ∀ (l : List RM) (i : Nat), (unRs P nm as l i).2 = (unRs P nm' as l i).2
  | [], i => rfl
  | c :: l, i => by simp only [unRs]; rw [(unR_snd (nm := nm) (nm' := nm') c i).1]; exact unRs_snd l _
end
mutual
theorem unR_ren (hP : M'.P = M.P) (hst : Stay M.ok M'.ok M.W M'.W) (hβ : ∀ p pl, β p = some pl → β' (nm p) = some pl) : ∀ (c : RM) {i : Nat} {cs : List Value}, noFn c = true → RC M β (unR M.P id as c i).1 cs → RC M' β' (unR M.P nm as c i).1 cs
  | .v τ, i, cs, hn, h => ofT_ren hP hst h
  | .fn ps rs, i, cs, hn, h => by simp [noFn] at hn
  | .p j τ, i, cs, hn, h => by obtain ⟨pl, o, h1, h2, h3, h4⟩ := h; exact ⟨pl, o, h1, hβ _ _ h2, h3, by rw [hP]; exact h4⟩
  | .o j, i, cs, hn, h => by obtain ⟨pl, h1, h2⟩ := h; exact ⟨pl, hβ _ _ h1, h2⟩
  | .m j, i, cs, hn, h => by obtain ⟨pl, h1, h2⟩ := h; exact ⟨pl, hβ _ _ h1, h2⟩
  | .np, i, cs, hn, h => h
  | .nl, i, cs, hn, h => h
  | .nm, i, cs, hn, h => h
  | .nf, i, cs, hn, h => h
  | .clo f l, i, cs, hn, h => by
    obtain ⟨vs, fst, ws, h2, h1, h3⟩ := h
    exact ⟨vs, fst, ws, unRs_renV hP hst hβ l (by simpa [noFn] using hn) h2, h1, by rw [hP]; exact h3⟩
  | .agg τ l, i, cs, hn, h => by
    obtain ⟨h1, h2, fs, h3, h4⟩ := h
    exact ⟨by rw [hP]; exact h1, by rw [hP]; exact h2, fs, by rw [hP]; exact h3, unRs_renC hP hst hβ l (by simpa [noFn] using hn) h4⟩
theorem unRs_renV (hP : M'.P = M.P) (hst : Stay M.ok M'.ok M.W M'.W) (hβ : ∀ p pl, β p = some pl → β' (nm p) = some pl) : ∀ (l : List RM) {i : Nat} {vs : List Value}, noFns l = true → RVs M β (unRs M.P id as l i).1 vs → RVs M' β' (unRs M.P nm as l i).1 vs
  | [], i, vs, hn, h => by cases vs <;> first | exact h.elim | exact trivial
  | c :: l, i, vs, hn, h => by
    cases vs with
    | nil => exact h.elim
    | cons v vs =>
      simp only [noFns, Bool.and_eq_true] at hn
      obtain ⟨h1, h2⟩ := h
      obtain ⟨e1, e2, _⟩ := unR_snd (P := M.P) (nm := nm) (nm' := id) (as := as) c i
      simp only [unRs]
      refine ⟨?_, by rw [e1]; exact unRs_renV hP hst hβ l hn.2 h2⟩
      rcases h1 with h1 | ⟨cs, h3, h4⟩
      · refine .inl ?_
        cases c <;> simp only [unR] at h1 ⊢ <;> first | exact h1 | cases h1
      · exact .inr ⟨cs, unR_ren hP hst hβ c hn.1 h3, by unfold VF at h4 ⊢; rw [e2]; exact h4⟩
theorem unRs_renC (hP : M'.P = M.P) (hst : Stay M.ok M'.ok M.W M'.W) (hβ : ∀ p pl, β p = some pl → β' (nm p) = some pl) : ∀ (l : List RM) {i : Nat} {fs : List (TypeId × Nat)} {cs : List Value}, noFns l = true → RCs M β fs (unRs M.P id as l i).1 cs → RCs M' β' fs (unRs M.P nm as l i).1 cs
  | [], i, fs, cs, hn, h => by cases fs <;> first | exact h.elim | exact h
  | c :: l, i, fs, cs, hn, h => by
    cases fs with
    | nil => exact h.elim
    | cons f fs =>
      simp only [noFns, Bool.and_eq_true] at hn
      obtain ⟨c1, c2, h1, h2, h3, h4, h5⟩ := h
      obtain ⟨e1, e2, e3⟩ := unR_snd (P := M.P) (nm := nm) (nm' := id) (as := as) c i
      simp only [unRs]
      exact ⟨c1, c2, h1, h2, unR_ren hP hst hβ c hn.1 h3, by rw [hP, e3]; exact h4, by rw [e1]; exact unRs_renC hP hst hβ l hn.2 h5⟩
end
theorem unR_tup {P : Program} {nm : Nat → Nat} {as : List A} (c : RM) (i : Nat) (ds : List D) : (unR P nm as c i).1 ≠ .tup ds := by
  cases c <;> simp only [unR] <;> try (intro h; cases h; done)
  intro h
  unfold ofT at h
  split at h <;> cases h
theorem unRs_renT (hP : M'.P = M.P) (hst : Stay M.ok M'.ok M.W M'.W) (hβ : ∀ p pl, β p = some pl → β' (nm p) = some pl) : ∀ (l : List RM) {i : Nat} {vs : List Value}, noFns l = true → RVt M β (unRs M.P id as l i).1 vs → RVs M' β' (unRs M.P nm as l i).1 vs
  | [], i, vs, hn, h => by cases vs <;> first | exact h.elim | exact trivial
  | c :: l, i, vs, hn, h => by
    cases vs with
    | nil => exact h.elim
    | cons v vs =>
      simp only [noFns, Bool.and_eq_true] at hn
      obtain ⟨h1, h2⟩ := h
      obtain ⟨e1, e2, _⟩ := unR_snd (P := M.P) (nm := nm) (nm' := id) (as := as) c i
      simp only [unRs]
      refine ⟨?_, by rw [e1]; exact unRs_renT hP hst hβ l hn.2 h2⟩
      have hx : (unR M.P id as c i).1 = .undef ∨ ∃ cs, RC M β (unR M.P id as c i).1 cs ∧ VF (unR M.P id as c i).1 cs v := by
        cases hd : (unR M.P id as c i).1 <;> rw [hd] at h1 <;> first
          | exact .inl rfl
          | exact absurd hd (unR_tup c i _)
          | exact .inr h1
      rcases hx with h1 | ⟨cs, h3, h4⟩
      · refine .inl ?_
        cases c <;> simp only [unR] at h1 ⊢ <;> first | exact h1 | cases h1
      · exact .inr ⟨cs, unR_ren hP hst hβ c hn.1 h3, by unfold VF at h4 ⊢; rw [e2]; exact h4⟩
theorem tupD_rep {ds : List D} {us : List Value} (h : RVs M β ds us) : RV M β (tupD ds) (retVal us) := by
  match ds, us, h with
  | [], [], h => exact ⟨#[], rfl, trivial⟩
  | [d], [v], h =>
    rcases h.1 with rfl | ⟨cs, h1, h2⟩
    · exact trivial
    · exact RV_of h1 h2
  | d :: d' :: ds, v :: v' :: us, h => exact ⟨(v :: v' :: us).toArray, rfl, by simpa using h⟩
  | [], _ :: _, h => exact h.elim
  | _ :: _, [], h => exact h.elim
  | [_], _ :: _ :: _, h => exact h.2.elim
  | _ :: _ :: _, [_], h => exact h.2.elim
theorem unO_ren (hP : M'.P = M.P) (hW : M'.W = M.W) (hok : ∀ b, M.ok b → M'.ok b ∨ M.W.heap[b]? = none) (hβ : ∀ p pl, β p = some pl → β' (nm p) = some pl) {om : OM} {i : Nat} {pl : Place} {o : O} (hn : noFnO [om] = true) (hro : ∀ o, (unO M.P id as om i).1 = some o → isRo o = false)
    (h : (unO M.P nm as om i).1 = some o) : ∃ o', (unO M.P id as om i).1 = some o' ∧ (RO M β pl o' → RO M' β' pl o) ∧ isRo o = false := by
  have hst : Stay M.ok M'.ok M.W M'.W := ⟨hok, fun b o _ ho => by rw [hW]; exact ho⟩
  cases om with
  | gone => simp [unO] at h
  | var τ c ro =>
    simp only [unO, Option.some.injEq] at h
    subst h
    have hr := hro _ (by simp only [unO]; rfl)
    simp only [isRo] at hr
    subst hr
    obtain ⟨_, _, e3⟩ := unR_snd (P := M.P) (nm := nm) (nm' := id) (as := as) c i
    refine ⟨_, rfl, fun hR => ?_, rfl⟩
    obtain ⟨h2, cc, el, fr, h3, h4, h5, h6, h7⟩ := hR
    exact ⟨h2, cc, el, fr, by rw [hW]; exact h3, h4, by rw [hP]; exact h5, unR_ren hP hst hβ c (by simpa [noFnO] using hn) h6, by rw [hP, e3]; exact h7⟩
  | row e =>
    simp only [unO, Option.some.injEq] at h
    subst h
    refine ⟨_, rfl, fun hR => ?_, rfl⟩
    obtain ⟨h2, h3, h4, h5, h6⟩ := hR
    refine ⟨h2, by rw [hP]; exact h3, h4, h5, fun hv => ?_⟩
    obtain ⟨c, el, fr, h7, h8, h9, h10⟩ := h6 hv
    exact ⟨c, el, fr, by rw [hW]; exact h7, h8, by rw [hP]; exact h9, fun i x hx => by rw [hP]; exact (h10 i x hx).stay hst⟩
  | map kt vt =>
    simp only [unO, Option.some.injEq] at h
    subst h
    refine ⟨_, rfl, fun hR => ?_, rfl⟩
    obtain ⟨h2, ms, clock, h3, h4⟩ := hR
    refine ⟨h2, ms, clock, by rw [hW]; exact h3, ?_⟩
    have : ∀ {es : List T} {ms : List MapEntry}, REnts M kt vt es ms → REnts M' kt vt es ms := by
      intro es
      induction es with
      | nil => intro ms h; cases ms <;> exact h
      | cons e es ih =>
        intro ms h
        cases ms with
        | nil => exact h
        | cons m ms => exact ⟨⟨by rw [hP]; exact h.1.1.stay hst, by rw [hP]; exact h.1.2.stay hst⟩, ih h.2⟩
    exact ⟨this h4.1, h4.2⟩
end

theorem unOs_at {P : Program} {nm : Nat → Nat} {as : List A} : ∀ {l : List OM} {j i n : Nat} {x : Option O}, (n, x) ∈ unOs P nm as l j i → ∃ p om i', l[p]? = some om ∧ n = nm (j + p) ∧ x = (unO P nm as om i').1 ∧ (j + p, (unO P id as om i').1) ∈ unOs P id as l j i
  | [], j, i, n, x, h => by simp [unOs] at h
  | om :: l, j, i, n, x, h => by
    simp only [unOs, List.mem_cons, Prod.mk.injEq] at h
    rcases h with ⟨rfl, rfl⟩ | h
    · exact ⟨0, om, i, by simp, by simp, rfl, by simp [unOs]⟩
    · obtain ⟨p, om', i', h1, h2, h3, h4⟩ := unOs_at h
      have hs : (unO P nm as om i).2 = (unO P id as om i).2 := by
        cases om <;> simp only [unO]
        exact (unR_snd _ i).1
      refine ⟨p + 1, om', i', by simpa using h1, by rw [h2]; congr 1; omega, h3, ?_⟩
      rw [hs] at h4
      rw [show j + (p + 1) = j + 1 + p by omega]
      simp only [unOs, List.mem_cons]
      exact .inr h4
theorem unOs_get {P : Program} {nm : Nat → Nat} {as : List A} : ∀ {l : List OM} {j i p n : Nat} {x : Option O}, (unOs P nm as l j i)[p]? = some (n, x) → ∃ om i', l[p]? = some om ∧ n = nm (j + p) ∧ x = (unO P nm as om i').1 ∧ (j + p, (unO P id as om i').1) ∈ unOs P id as l j i
  | [], j, i, p, n, x, h => by simp [unOs] at h
  | om :: l, j, i, 0, n, x, h => by
    simp only [unOs, List.getElem?_cons_zero, Option.some.injEq, Prod.mk.injEq] at h
    obtain ⟨rfl, rfl⟩ := h
    exact ⟨om, i, by simp, by simp, rfl, by simp [unOs]⟩
  | om :: l, j, i, p + 1, n, x, h => by
    simp only [unOs, List.getElem?_cons_succ] at h
    obtain ⟨om', i', h1, h2, h3, h4⟩ := unOs_get h
    have hs : (unO P nm as om i).2 = (unO P id as om i).2 := by
      cases om <;> simp only [unO]
      exact (unR_snd _ i).1
    refine ⟨om', i', by simpa using h1, by rw [h2]; congr 1; omega, h3, ?_⟩
    rw [hs] at h4
    rw [show j + (p + 1) = j + 1 + p by omega]
    simp only [unOs, List.mem_cons]
    exact .inr h4
theorem unOs_len {P : Program} {nm : Nat → Nat} {as : List A} : ∀ (l : List OM) (j i : Nat), (unOs P nm as l j i).length = l.length
  | [], j, i => rfl
  | om :: l, j, i => by simp [unOs, unOs_len l]
theorem lookL_of_mem : ∀ {l : List (Nat × O)} {n : Nat} {o : O}, (n, o) ∈ l → (∀ o', (n, o') ∈ l → o' = o) → lookL l n = some o
  | [], n, o, h, hu => by simp at h
  | (m, o1) :: l, n, o, h, hu => by
    simp only [lookL]
    cases hb : Nat.beq m n with
    | true => have := beqN hb; subst this; simp; exact hu o1 (List.mem_cons_self ..)
    | false =>
      simp only [cond_false]
      rcases List.mem_cons.1 h with h1 | h1
      · cases h1; simp at hb
      · exact lookL_of_mem h1 (fun o' ho' => hu o' (List.mem_cons_of_mem _ ho'))
theorem mem_someL : ∀ {l : List (Nat × Option O)} {n : Nat} {o : O}, (n, some o) ∈ l → (n, o) ∈ someL l
  | [], n, o, h => by simp at h
  | (m, x) :: l, n, o, h => by
    rcases List.mem_cons.1 h with h1 | h1
    · cases h1; simp [someL]
    · cases x <;> simp only [someL] <;> first | exact List.mem_cons_of_mem _ (mem_someL h1) | exact mem_someL h1
theorem unOs_uniq {P : Program} {as : List A} : ∀ {l : List OM} {j i n : Nat} {x y : Option O}, (n, x) ∈ unOs P id as l j i → (n, y) ∈ unOs P id as l j i → x = y
  | [], j, i, n, x, y, h, h' => by simp [unOs] at h
  | om :: l, j, i, n, x, y, h, h' => by
    simp only [unOs, List.mem_cons, Prod.mk.injEq, id_eq] at h h'
    rcases h with ⟨rfl, rfl⟩ | h <;> rcases h' with ⟨h1, h2⟩ | h'
    · exact h2.symm
    · obtain ⟨p, h1, _, h3⟩ := unOs_ge h'; simp at h3; omega
    · obtain ⟨p, h3, _, h4⟩ := unOs_ge h; simp at h4; omega
    · exact unOs_uniq h h'
theorem lookOf_of_mem {P : Program} {objs : List OM} {as : List A} {i n : Nat} {o : O} (h : (n, some o) ∈ unOs P id as objs 0 i) : lookOf P objs as i n = some o :=
  lookL_of_mem (mem_someL h) (fun o' ho' => by have := unOs_uniq h (someL_mem ho'); cases this; rfl)
theorem unOs_all {P : Program} {nm : Nat → Nat} {as : List A} : ∀ {l : List OM} {j i p : Nat} {om : OM}, l[p]? = some om → ∃ i', (nm (j + p), (unO P nm as om i').1) ∈ unOs P nm as l j i
  | [], j, i, p, om, h => by simp at h
  | om' :: l, j, i, 0, om, h => by simp at h; subst h; exact ⟨i, by simp [unOs]⟩
  | om' :: l, j, i, p + 1, om, h => by
    obtain ⟨i', h1⟩ := unOs_all (j := j + 1) (i := (unO P nm as om' i).2) (nm := nm) (as := as) (P := P) (p := p) (by simpa using h)
    refine ⟨i', ?_⟩
    rw [show j + (p + 1) = j + 1 + p by omega]
    simp only [unOs, List.mem_cons]
    exact .inr h1

theorem updF_append (look : Look) (u v : List (Nat × Option O)) : updF look (u ++ v) = updF (updF look u) v := by
  induction u generalizing look with
  | nil => rfl
  | cons x u ih => obtain ⟨n, o⟩ := x; simp only [List.cons_append, updF]; exact ih _
theorem updF_mem : ∀ (u : List (Nat × Option O)) (look : Look) (n : Nat), (n, updF look u n) ∈ u ∨ ((∀ x, (n, x) ∉ u) ∧ updF look u n = look n)
  | [], look, n => .inr ⟨fun x h => by simp at h, rfl⟩
  | (m, o) :: u, look, n => by
    simp only [updF]
    rcases updF_mem u (setF look m o) n with h | ⟨h1, h2⟩
    · exact .inl (List.mem_cons_of_mem _ h)
    · by_cases he : n = m
      · subst he
        refine .inl ?_
        rw [h2]
        simp [setF]
      · refine .inr ⟨fun x hx => ?_, ?_⟩
        · rcases List.mem_cons.1 hx with h3 | h3
          · cases h3; exact he rfl
          · exact h1 x h3
        · rw [h2]; simp [setF, he]
theorem virt_none {α : Type} {b : Bool} {x : Option α} {z : α} (h : (bif b then none else x) = some z) : x = some z := by cases b <;> first | exact h | cases h
theorem updOf_virt {σ : List (Nat × Option Nat)} : ∀ {ims oms : List OM} {u r : List (Nat × Option O)} {j p : Nat}, updOf σ ims oms u j = some r → p < ims.length → Go.Proofs.YtbejhhoakeapgaaVM.virt σ (j + p) = true → oms[p]? = some .gone
  | [], oms, u, r, j, p, h, hp, hv => by simp at hp
  | im :: ims, [], u, r, j, p, h, hp, hv => by simp [updOf] at h
  | im :: ims, om :: oms, [], r, j, p, h, hp, hv => by simp [updOf] at h
  | im :: ims, om :: oms, (n, o) :: u, r, j, p, h, hp, hv => by
    simp only [updOf] at h
    cases hr : updOf σ ims oms u (j + 1) with
    | none => rw [hr] at h; cases h
    | some r1 =>
      rw [hr] at h
      cases p with
      | zero =>
        rw [Nat.add_zero] at hv
        simp only [hv, cond_true] at h
        split at h <;> first | rfl | cases h
      | succ p =>
        have := updOf_virt hr (p := p) (by simpa using hp) (by rw [show j + 1 + p = j + (p + 1) by omega]; exact hv)
        simpa using this
theorem updOf_mem {σ : List (Nat × Option Nat)} : ∀ {ims oms : List OM} {u r : List (Nat × Option O)} {j : Nat}, updOf σ ims oms u j = some r → okOuts ims oms = true →
    (∀ n x, (n, x) ∈ r → ∃ p, u[p]? = some (n, x) ∧ (ims.length ≤ p ∨ (Go.Proofs.YtbejhhoakeapgaaVM.virt σ (j + p) = false ∧ ∃ im om, ims[p]? = some im ∧ oms[p]? = some om ∧ ∀ τ c, im ≠ .var τ c true)) ∨ (x = none ∧ p < ims.length ∧ Go.Proofs.YtbejhhoakeapgaaVM.virt σ (j + p) = false ∧ ∃ y, u[p]? = some (n, y))) ∧
    (∀ p im, ims[p]? = some im → (∀ τ c, im ≠ .var τ c true) → Go.Proofs.YtbejhhoakeapgaaVM.virt σ (j + p) = false → ∃ n x y, u[p]? = some (n, y) ∧ (n, x) ∈ r) ∧
    (∀ p om, ims.length ≤ p → oms[p]? = some om → ∀ x, u[p]? = some x → x ∈ r)
  | [], oms, u, r, j, h, hk => by
    simp only [updOf, Option.some.injEq] at h
    subst h
    exact ⟨fun n x hm => by obtain ⟨p, hp⟩ := List.mem_iff_getElem?.1 hm; exact ⟨p, .inl ⟨hp, .inl (Nat.zero_le _)⟩⟩, fun p im hp => by simp at hp, fun p om _ _ x hx => List.mem_of_getElem? hx⟩
  | im :: ims, oms, u, r, j, h, hk => by
    cases oms with
    | nil => simp [updOf] at h
    | cons om oms =>
      cases u with
      | nil => simp [updOf] at h
      | cons x0 u =>
        obtain ⟨n0, o0⟩ := x0
        have hk' : okOuts ims oms = true := by
          cases im <;> cases om <;> simp only [okOuts, Bool.and_eq_true, Bool.false_eq_true] at hk <;> first | exact hk.2 | exact hk
        simp only [updOf] at h
        cases hr : updOf σ ims oms u (j + 1) with
        | none => rw [hr] at h; cases h
        | some r' =>
          rw [hr] at h
          obtain ⟨i1, i2, i3⟩ := updOf_mem hr hk'
          have tail1 : ∀ n x, (n, x) ∈ r' → ∃ p, ((n0, o0) :: u)[p]? = some (n, x) ∧ ((im :: ims).length ≤ p ∨ (Go.Proofs.YtbejhhoakeapgaaVM.virt σ (j + p) = false ∧ ∃ im' om', (im :: ims)[p]? = some im' ∧ (om :: oms)[p]? = some om' ∧ ∀ τ c, im' ≠ .var τ c true)) ∨ (x = none ∧ p < (im :: ims).length ∧ Go.Proofs.YtbejhhoakeapgaaVM.virt σ (j + p) = false ∧ ∃ y, ((n0, o0) :: u)[p]? = some (n, y)) := by
            intro n x hm
            obtain ⟨p, hp⟩ := i1 n x hm
            refine ⟨p + 1, ?_⟩
            rw [show j + (p + 1) = j + 1 + p by omega]
            rcases hp with ⟨h1, h2⟩ | ⟨h1, h2, h3, h4⟩
            · exact .inl ⟨by simpa using h1, h2.imp (fun h => by simp; omega) (fun ⟨a, im', om', b, c, d⟩ => ⟨a, im', om', by simpa using b, by simpa using c, d⟩)⟩
            · exact .inr ⟨h1, by simp; omega, h3, by simpa using h4⟩
          have hlast : ∀ p om', (im :: ims).length ≤ p → (om :: oms)[p]? = some om' → ∀ x, ((n0, o0) :: u)[p]? = some x → x ∈ r' := by
            intro p om' h1 h2 x h3
            cases p with
            | zero => simp at h1
            | succ p => exact i3 p om' (by simpa using h1) (by simpa using h2) x (by simpa using h3)
          have mid : ∀ p im', (im :: ims)[p + 1]? = some im' → (∀ τ c, im' ≠ .var τ c true) → Go.Proofs.YtbejhhoakeapgaaVM.virt σ (j + (p + 1)) = false → ∃ n x y, ((n0, o0) :: u)[p + 1]? = some (n, y) ∧ (n, x) ∈ r' := by
            intro p im' h1 h2 h3
            obtain ⟨n, x, y, h4, h5⟩ := i2 p im' (by simpa using h1) h2 (by rw [show j + 1 + p = j + (p + 1) by omega]; exact h3)
            exact ⟨n, x, y, by simpa using h4, h5⟩
          dsimp only at h
          split at h
          · -- lent: nothing is put back
            replace h := virt_none h
            cases h
            refine ⟨tail1, fun p im' h1 h2 h3 => ?_, hlast⟩
            cases p with
            | zero => simp at h1; subst h1; exact absurd rfl (h2 _ _)
            | succ p => exact mid p im' h1 h2 h3
          · -- used up
            cases hv : Go.Proofs.YtbejhhoakeapgaaVM.virt σ j with
            | true =>
              rw [hv] at h
              simp only [cond_true, Option.some.injEq] at h
              subst h
              refine ⟨tail1, fun p im' h1 h2 h3 => ?_, hlast⟩
              cases p with
              | zero => rw [Nat.add_zero, hv] at h3; cases h3
              | succ p => exact mid p im' h1 h2 h3
            | false =>
              rw [hv] at h
              simp only [cond_false, Option.some.injEq] at h
              subst h
              refine ⟨fun n x hm => ?_, fun p im' h1 h2 h3 => ?_, fun p om' h1 h2 x h3 => List.mem_cons_of_mem _ (hlast p om' h1 h2 x h3)⟩
              · rcases List.mem_cons.1 hm with h4 | h4
                · cases h4
                  exact ⟨0, .inr ⟨rfl, by simp, by simpa using hv, o0, by simp⟩⟩
                · exact tail1 n x h4
              · cases p with
                | zero => exact ⟨n0, none, o0, by simp, List.mem_cons_self ..⟩
                | succ p =>
                  obtain ⟨n, x, y, h4, h5⟩ := mid p im' h1 h2 h3
                  exact ⟨n, x, y, h4, List.mem_cons_of_mem _ h5⟩
          · -- kept
            rename_i hx1 hx2
            cases hv : Go.Proofs.YtbejhhoakeapgaaVM.virt σ j with
            | true => rw [hv] at h; cases h
            | false =>
              rw [hv] at h
              simp only [cond_false, Option.some.injEq] at h
              subst h
              have hne : ∀ τ c, im ≠ .var τ c true := by
                intro τ c he
                subst he
                cases om <;> simp only [okOuts, Bool.and_eq_true, Bool.false_eq_true] at hk
                rename_i τ' c' ro'
                have : ro' = true := by have := hk.1.2; simpa using this.symm
                subst this
                exact hx2 _ _ _ _ rfl rfl
              refine ⟨fun n x hm => ?_, fun p im' h1 h2 h3 => ?_, fun p om' h1 h2 x h3 => List.mem_cons_of_mem _ (hlast p om' h1 h2 x h3)⟩
              · rcases List.mem_cons.1 hm with h4 | h4
                · cases h4
                  exact ⟨0, .inl ⟨by simp, .inr ⟨by simpa using hv, im, om, by simp, by simp, hne⟩⟩⟩
                · exact tail1 n x h4
              · cases p with
                | zero => exact ⟨n0, o0, o0, by simp, List.mem_cons_self ..⟩
                | succ p =>
                  obtain ⟨n, x, y, h4, h5⟩ := mid p im' h1 h2 h3
                  exact ⟨n, x, y, h4, List.mem_cons_of_mem _ h5⟩
theorem updOf_some {σ : List (Nat × Option Nat)} : ∀ {ims oms : List OM} {u u' r : List (Nat × Option O)} {j : Nat}, updOf σ ims oms u j = some r → u.length = u'.length → ∃ r', updOf σ ims oms u' j = some r'
  | [], oms, u, u', r, j, h, hl => ⟨u', by simp [updOf]⟩
  | im :: ims, [], u, u', r, j, h, hl => by simp [updOf] at h
  | im :: ims, om :: oms, [], u', r, j, h, hl => by simp [updOf] at h
  | im :: ims, om :: oms, (n, o) :: u, [], r, j, h, hl => by simp at hl
  | im :: ims, om :: oms, (n, o) :: u, (n', o') :: u', r, j, h, hl => by
    simp only [updOf] at h
    cases hr : updOf σ ims oms u (j + 1) with
    | none => rw [hr] at h; cases h
    | some r1 =>
      obtain ⟨r2, hr2⟩ := updOf_some hr (u' := u') (by simpa using hl)
      rw [hr] at h
      simp only [updOf, hr2]
      split <;> first
        | exact ⟨_, rfl⟩
        | (cases hv : Go.Proofs.YtbejhhoakeapgaaVM.virt σ j <;> first | exact ⟨_, rfl⟩ | (rw [hv] at h; split at h <;> first | cases h | simp_all))
end Go.Proofs.YtbejhhoakeapgaaVM
namespace Go.Proofs.YtbejhhoakeapgaaVM
open Go Go.RowKit
set_option linter.unusedVariables false
set_option linter.unusedSimpArgs false

theorem okOuts_len : ∀ {ims oms : List OM}, okOuts ims oms = true → ims.length ≤ oms.length
  | [], oms, h => Nat.zero_le _
  | im :: ims, [], h => by cases im <;> simp [okOuts] at h
  | im :: ims, om :: oms, h => by
    have h' : okOuts ims oms = true := by cases im <;> cases om <;> simp only [okOuts, Bool.and_eq_true, Bool.false_eq_true] at h <;> first | exact h.2 | exact h
    have := okOuts_len h'
    simp; omega
theorem okOuts_at : ∀ {ims oms : List OM} {p : Nat} {im : OM}, okOuts ims oms = true → ims[p]? = some im → im ≠ .gone ∧ ((∀ τ c, im ≠ .var τ c true) → ∀ om, oms[p]? = some om → ∀ τ c, om ≠ .var τ c true)
  | [], oms, p, im, h, hp => by simp at hp
  | im :: ims, [], p, im', h, hp => by cases im <;> simp [okOuts] at h
  | im :: ims, om :: oms, 0, im', h, hp => by
    simp at hp; subst hp
    cases im <;> cases om <;> simp only [okOuts, Bool.and_eq_true, Bool.false_eq_true] at h <;> refine ⟨by simp, fun hne om' ho τ c he => ?_⟩ <;> simp at ho <;> subst ho <;> try (cases he; done)
    cases he
    have := h.1.2
    simp at this
    subst this
    exact hne _ _ rfl
  | im :: ims, om :: oms, p + 1, im', h, hp => by
    have h' : okOuts ims oms = true := by cases im <;> cases om <;> simp only [okOuts, Bool.and_eq_true, Bool.false_eq_true] at h <;> first | exact h.2 | exact h
    have := okOuts_at h' (p := p) (im := im') (by simpa using hp)
    simpa using this
theorem stays_spec : ∀ {ims oms : List OM} {j p : Nat} {om : OM}, p < ims.length → oms[p]? = some om → om ≠ .gone → sigma (stays j ims oms) (j + p) = some (some (j + p))
  | [], oms, j, p, om, h, ho, hg => by simp at h
  | im :: ims, [], j, p, om, h, ho, hg => by simp at ho
  | im :: ims, om' :: oms, j, 0, om, h, ho, hg => by
    simp at ho; subst ho
    cases om' <;> first | exact absurd rfl hg | simp [stays, sigma]
  | im :: ims, om' :: oms, j, p + 1, om, h, ho, hg => by
    have ih := stays_spec (ims := ims) (oms := oms) (j := j + 1) (p := p) (om := om) (by simpa using h) (by simpa using ho) hg
    rw [show j + 1 + p = j + (p + 1) by omega] at ih
    have hne : Nat.beq j (j + (p + 1)) = false := by
      cases hb : Nat.beq j (j + (p + 1)) with
      | false => rfl
      | true => have := beqN hb; omega
    cases om' <;> simp only [stays, sigma, hne, cond_false] <;> exact ih
theorem noFnO_at : ∀ {l : List OM} {p : Nat} {om : OM}, noFnO l = true → l[p]? = some om → (∀ τ c, om ≠ .var τ c true) → noFnO [om] = true
  | [], p, om, h, hp, hr => by simp at hp
  | om' :: l, 0, om, h, hp, hr => by
    simp at hp; subst hp
    cases om' with
    | var τ c ro =>
      cases ro
      · simp only [noFnO, Bool.and_eq_true] at h ⊢; exact ⟨h.1, trivial⟩
      · rfl
    | _ => rfl
  | om' :: l, p + 1, om, h, hp, hr => by
    have h' : noFnO l = true := by
      cases om' with
      | var τ c ro => cases ro <;> simp only [noFnO, Bool.and_eq_true] at h <;> first | exact h.2 | exact h
      | _ => exact h
    exact noFnO_at h' (p := p) (by simpa using hp) hr
theorem noRoB_at : ∀ {l : List OM} {p : Nat} {om : OM}, noRoB l = true → l[p]? = some om → ∀ τ c, om ≠ .var τ c true
  | [], p, om, h, hp => by simp at hp
  | om' :: l, 0, om, h, hp => by
    simp at hp; subst hp
    intro τ c he
    subst he
    simp [noRoB] at h
  | om' :: l, p + 1, om, h, hp => by
    have h' : noRoB l = true := by
      cases om' with
      | var τ c ro => cases ro <;> simp only [noRoB] at h <;> first | exact h | cases h
      | _ => exact h
    exact noRoB_at h' (p := p) (by simpa using hp)
theorem unO_ro {P : Program} {nm : Nat → Nat} {as : List A} {om : OM} {i : Nat} {o : O} (h : (unO P nm as om i).1 = some o) : (∀ τ c, om ≠ .var τ c true) ↔ isRo o = false := by
  cases om with
  | var τ c ro =>
    simp only [unO, Option.some.injEq] at h
    subst h
    cases ro <;> simp [isRo]
  | row e => simp only [unO, Option.some.injEq] at h; subst h; simp [isRo]
  | map k v => simp only [unO, Option.some.injEq] at h; subst h; simp [isRo]
  | gone => simp [unO] at h
theorem nameOf_ge {σ : List (Nat × Option Nat)} {m nm p : Nat} (h : m ≤ p) : nameOf σ m nm p = nm + (p - m) := by
  unfold nameOf
  have : Nat.blt p m = false := by
    cases hb : Nat.blt p m with
    | false => rfl
    | true => rw [Nat.blt_eq] at hb; omega
  rw [this]; rfl
theorem nameOf_lt {σ : List (Nat × Option Nat)} {m nm p n : Nat} (h : p < m) (hs : sigma σ p = some (some n)) : nameOf σ m nm p = n := by
  unfold nameOf
  have : Nat.blt p m = true := by rw [Nat.blt_eq]; exact h
  rw [this, hs]; rfl
theorem virt_iff {σ : List (Nat × Option Nat)} {j : Nat} : Go.Proofs.YtbejhhoakeapgaaVM.virt σ j = true ↔ sigma σ j = some none := by
  simp only [Go.Proofs.YtbejhhoakeapgaaVM.virt]
  cases sigma σ j with
  | none => simp
  | some x => cases x <;> simp

section
variable {P : Program} {G : Globs} {C : Ctx} {β : Places} {free : Nat → Prop} {N : Nat} {regs : Regs} {look : Look} {a : Act} {W : World} {E : Env} {nm : Nat}
theorem call_back (h : Rel P G C β free N regs look a W) {e : Entry} {ds : List D} {k0 k : Pk} (p : Packed P false E look [] e.ins ds k0 k)
    (hro : ∀ j o n on, lookOf P e.ins.objs k.as k0.as.length j = some o → sigma k.σ j = some (some n) → look n = some on → isRo o = false → isRo on = false)
    (hok : okOuts e.ins.objs e.outs.objs = true) (hnf : noFns (regRMs e.outs) = true) (hnfo : noFnO e.outs.objs = true) (hnr : noRoB (e.outs.objs.drop e.ins.objs.length) = true)
    (hfr : ∀ n, nm ≤ n → n < nm + (e.outs.objs.length - e.ins.objs.length) → free n)
    {out : List A} {r : List (Nat × Option O)} (hup : updOf k.σ e.ins.objs e.outs.objs (unOs P (nameOf k.σ e.ins.objs.length nm) out e.outs.objs 0 (unRs P (nameOf k.σ e.ins.objs.length nm) out (regRMs e.outs) 0).2) 0 = some r)
    {us : List Value} {β2 : Places} {W' : World} (hkept : Kept (stays 0 e.ins.objs e.outs.objs) (betaOf P β k.σ e.ins.objs) β2)
    (hat : At P G (callC C β look W k.σ k.frz (lookOf P e.ins.objs k.as k0.as.length)) β2 e.outs out us W') {dst : Option Tmp} {touch : List Nat} :
    Nxt P G C β free N regs look dst nm { d := tupD (unRs P (nameOf k.σ e.ins.objs.length nm) out (regRMs e.outs) 0).1, upd := r ++ goneAll k.frz, touch := touch, fresh := e.outs.objs.length - e.ins.objs.length } (a.put dst (retVal us)) W' := by
  obtain ⟨hus, hgone, hrel⟩ := hat
  have hinj := p.inj SInj.nil
  generalize hm : e.ins.objs.length = m at *
  generalize hF : e.outs.objs.length - m = F at *
  have hlen : m ≤ e.outs.objs.length := hm ▸ okOuts_len hok
  have hi2 : (unRs P (nameOf k.σ m nm) out (regRMs e.outs) 0).2 = (unRs P id out (regRMs e.outs) 0).2 := unRs_snd _ _
  rw [hi2] at hup
  generalize hi1 : (unRs P id out (regRMs e.outs) 0).2 = i1 at *
  obtain ⟨u1, u2, u3⟩ := updOf_mem hup hok
  let lin := lookOf P e.ins.objs k.as k0.as.length
  let lout := lookOf P e.outs.objs out i1
  let C2 := callC C β look W k.σ k.frz lin
  let β' : Places := fun n => if nm ≤ n ∧ n < nm + F then β2 (m + (n - nm)) else β n
  have hsub : Sub β β' := by
    intro n pl hn
    show (if nm ≤ n ∧ n < nm + F then _ else _) = _
    by_cases hc : nm ≤ n ∧ n < nm + F
    · have := h.free n (hfr n hc.1 hc.2); rw [this] at hn; cases hn
    · rw [if_neg hc]; exact hn
  -- what the callee's places are on this side
  have hβ : ∀ q pl, β2 q = some pl → q < e.outs.objs.length ∧ β' (nameOf k.σ m nm q) = some pl ∧ (q < m → ∃ n, sigma k.σ q = some (some n) ∧ nameOf k.σ m nm q = n ∧ look n ≠ none ∧ β n = some pl) := by
    intro q pl hq
    have hql : q < e.outs.objs.length := by
      rcases Nat.lt_or_ge q e.outs.objs.length with h1 | h1
      · exact h1
      · rw [hrel.free q h1] at hq; cases hq
    refine ⟨hql, ?_⟩
    rcases Nat.lt_or_ge q m with h1 | h1
    · have hom : e.outs.objs[q]? = some e.outs.objs[q] := List.getElem?_eq_getElem hql
      have hng : e.outs.objs[q] ≠ .gone := by
        intro hg
        rw [hg] at hom
        rw [hgone q hom] at hq; cases hq
      have him : e.ins.objs[q]? = some (e.ins.objs[q]'(by rw [hm]; exact h1)) := List.getElem?_eq_getElem _
      have hst := stays_spec (ims := e.ins.objs) (j := 0) (by rw [hm]; exact h1) hom hng
      rw [Nat.zero_add] at hst
      have hlive := packObjs_live _ p.objs q _ him
      rw [Nat.zero_add] at hlive
      rcases hlive with h2 | h2 | ⟨n, on, h2, h3⟩
      · exact absurd h2 (okOuts_at hok him).1
      · have := updOf_virt (p := q) hup (by rw [hm]; exact h1) (by rw [Nat.zero_add]; exact virt_iff.2 h2)
        rw [hom] at this; exact absurd (Option.some.inj this) hng
      · have hln : look n ≠ none := by rw [h3]; simp
        obtain ⟨pl0, h4, _⟩ := h.objs n on h3
        have h5 := hkept q pl0 hst (by simp only [betaOf, h2]; exact h4)
        rw [hq] at h5; cases h5
        rw [nameOf_lt h1 h2]
        exact ⟨hsub n pl h4, fun _ => ⟨n, h2, rfl, hln, h4⟩⟩
    · rw [nameOf_ge h1]
      refine ⟨?_, fun h2 => by omega⟩
      show (if nm ≤ nm + (q - m) ∧ nm + (q - m) < nm + F then β2 (m + (nm + (q - m) - nm)) else _) = _
      rw [if_pos (by omega), show m + (nm + (q - m) - nm) = q by omega]
      exact hq
  -- the blocks that the callee was free to turn
  have hSn : ∀ b, callS β k.σ lin b → ∃ n on pl, look n = some on ∧ isRo on = false ∧ β n = some pl ∧ pl.virt = false ∧ pl.b = b ∧ ∃ j o, lin j = some o ∧ isRo o = false ∧ sigma k.σ j = some (some n) := by
    rintro b ⟨j, o, n, pl, q1, q2, q3, q4, q5, q6⟩
    obtain ⟨on, hon⟩ := Option.ne_none_iff_exists'.1 (p.liveσ q3)
    exact ⟨n, on, pl, hon, hro j o n on q1 q3 hon q2, q4, q5, q6, j, o, q1, q2, q3⟩
  -- what stands under a name behind it
  have key : ∀ n o1, updF look (r ++ goneAll k.frz) n = some o1 →
      (look n = some o1 ∧ n ∉ k.frz ∧ ∀ j o, lin j = some o → isRo o = false → sigma k.σ j ≠ some (some n)) ∨
      (∃ q om i' o2, e.outs.objs[q]? = some om ∧ n = nameOf k.σ m nm q ∧ (unO P (nameOf k.σ m nm) out om i').1 = some o1 ∧ (unO P id out om i').1 = some o2 ∧ lout q = some o2 ∧ (∀ τ c, om ≠ .var τ c true)) := by
    intro n o1 hn
    rw [updF_append, updF_gone] at hn
    split at hn
    · cases hn
    rename_i hnf'
    rcases updF_mem r look n with h1 | ⟨h1, h2⟩
    · rw [hn] at h1
      obtain ⟨q, h2⟩ := u1 n _ h1
      rcases h2 with ⟨h2, h3⟩ | ⟨h2, _⟩
      · obtain ⟨om, i', h4, h5, h6, h7⟩ := unOs_get h2
        rw [Nat.zero_add] at h5 h7
        have hnro : ∀ τ c, om ≠ .var τ c true := by
          rcases h3 with h3 | ⟨_, im, om', h8, h9, h10⟩
          · exact noRoB_at (p := q - m) hnr (by rw [List.getElem?_drop, show m + (q - m) = q by omega]; exact h4)
          · exact (okOuts_at hok h8).2 h10 om h4
        have hex : ∃ o2, (unO P id out om i').1 = some o2 := by cases om <;> simp [unO] at h6 ⊢
        obtain ⟨o2, h8⟩ := hex
        rw [h8] at h7
        exact .inr ⟨q, om, i', o2, h4, h5, h6.symm, h8, lookOf_of_mem h7, hnro⟩
      · cases h2
    · rw [hn] at h2
      refine .inl ⟨h2.symm, hnf', fun j o hj hr hs => ?_⟩
      have hmem := lookOf_mem hj
      obtain ⟨q, om, i', h3, h4, h5, _⟩ := unOs_at hmem
      simp only [id_eq, Nat.zero_add] at h4
      subst h4
      have hjm : j < m := by rw [← hm]; exact (List.getElem?_eq_some_iff.1 h3).1
      obtain ⟨n', x, y, h6, h7⟩ := u2 j om h3 ((unO_ro h5.symm).2 hr) (by
        rw [Nat.zero_add]
        cases hv : Go.Proofs.YtbejhhoakeapgaaVM.virt k.σ j with
        | false => rfl
        | true => have := virt_iff.1 hv; rw [hs] at this; cases this)
      obtain ⟨om', i'', _, h8, _⟩ := unOs_get h6
      rw [Nat.zero_add, nameOf_lt hjm hs] at h8
      subst h8
      exact h1 x h7
  have live : ∀ n, updF look (r ++ goneAll k.frz) n ≠ none → ∀ pl, β' n = some pl → pl.virt = false →
      (look n ≠ none ∧ β n = some pl ∧ n ∉ k.frz ∧ ∀ j o, lin j = some o → isRo o = false → sigma k.σ j ≠ some (some n)) ∨
      (∃ q o2, n = nameOf k.σ m nm q ∧ lout q = some o2 ∧ isRo o2 = false ∧ β2 q = some pl) := by
    intro n hn pl hp hv
    obtain ⟨o1, ho1⟩ := Option.ne_none_iff_exists'.1 hn
    rcases key n o1 ho1 with ⟨h1, h2, h3⟩ | ⟨q, om, i', o2, h1, h2, h3, h4, h5, h6⟩
    · obtain ⟨pl', h4, _⟩ := h.objs n o1 h1
      have := hsub n pl' h4
      rw [hp] at this; cases this
      exact .inl ⟨by rw [h1]; simp, h4, h2, h3⟩
    · obtain ⟨pl', h7, _⟩ := hrel.objs q o2 h5
      obtain ⟨_, h8, _⟩ := hβ q pl' h7
      rw [← h2, hp] at h8; cases h8
      exact .inr ⟨q, o2, h2, h5, (unO_ro h4).1 h6, h7⟩
  have hWr : Wr (callS β k.σ lin) W W' := ⟨hrel.keeps.os, hrel.keeps.tape, hrel.keeps.output, hrel.keeps.size, hrel.keeps.block⟩
  have ne2 : ∀ {q : Nat} {o : O}, lout q = some o → lout q ≠ none := fun h => by rw [h]; simp
  -- what may be read there may be read here
  have hoks : ∀ b, okOf C2 β2 lout b → okOf C β' (updF look (r ++ goneAll k.frz)) b := by
    intro b hb
    refine ⟨fun hav => hb.1 (.inl hav), fun n pl hn hp hv hbe => ?_⟩
    rcases live n hn pl hp hv with ⟨h1, h2, h3, h4⟩ | ⟨q, o2, h1, h2, _, h3⟩
    · exact hb.1 (.inr ⟨n, pl, h1, h2, hv, hbe, h3, h4⟩)
    · exact hb.2 q pl (by rw [h2]; simp) h3 hv hbe
  have hst : Stay (okOf C2 β2 lout) (okOf C β' (updF look (r ++ goneAll k.frz))) W' W' := ⟨fun b hb => .inl (hoks b hb), fun _ _ _ h => h⟩
  have hvals := RVt.of_get (by rw [unRs_length]; simp [regRMs, hus]) hrel.vals
  have hres := unRs_renT (M := memOf P C2 β2 lout W') (M' := memOf P C β' (updF look (r ++ goneAll k.frz)) W') (β' := β') (nm := nameOf k.σ m nm) (as := out) rfl hst (fun q pl hq => (hβ q pl hq).2.1) (regRMs e.outs) hnf hvals
  refine ⟨β', hsub, h.step hWr (fun b hb => ?_) hsub (fun n o1 hn => ?_) (fun n n' pl pl' hn hn' hp hp' hv hv' hbb => ?_) (fun _ => tupD_rep hres) (fun n hn => ?_)⟩
  · obtain ⟨n, on, pl, q1, q2, q3, q4, q5, _⟩ := hSn b hb
    exact ⟨n, pl, on, q1, q2, q3, q4, q5⟩
  · rcases key n o1 hn with ⟨h1, h2, h3⟩ | ⟨q, om, i', o2, h1, h2, h3, h4, h5, h6⟩
    · refine .inl ⟨h1, fun pl hp hv hx => ?_⟩
      obtain ⟨n2, on2, pl2, q1, q2, q3, q4, q5, j, o, q6, q7, q8⟩ := hSn _ hx
      have := h.inj n2 n pl2 pl (by rw [q1]; simp) (by rw [h1]; simp) q3 hp q4 hv q5
      subst this
      exact h3 j o q6 q7 q8
    · obtain ⟨pl, h7, h8⟩ := hrel.objs q o2 h5
      obtain ⟨_, h9, _⟩ := hβ q pl h7
      obtain ⟨o3, h10, h11, h12⟩ := unO_ren (M := memOf P C2 β2 lout W') (M' := memOf P C β' (updF look (r ++ goneAll k.frz)) W') (β := β2) (β' := β') (nm := nameOf k.σ m nm) (as := out) (pl := pl) rfl rfl (fun b hb => .inl (hoks b hb)) (fun q pl hq => (hβ q pl hq).2.1)
        (noFnO_at hnfo h1 h6) (fun o ho => (unO_ro ho).1 h6) h3
      have : o3 = o2 := by
        have h10' : (unO P id out om i').1 = some o3 := h10
        rw [h4] at h10'; exact (Option.some.inj h10').symm
      subst this
      refine .inr ⟨pl, by rw [h2]; exact h9, h11 h8, fun hv => ?_⟩
      rcases hrel.foot q o3 pl h5 h7 hv ((unO_ro h4).1 h6) with h13 | h13
      · exact .inl ⟨h12, h13⟩
      · obtain ⟨n2, on2, pl2, q1, q2, q3, q4, q5, _⟩ := hSn _ h13
        exact .inr ⟨n2, on2, pl2, q1, q3, q4, q5, q2.trans h12.symm⟩
  · rcases live n hn pl hp hv with ⟨h1, h2, h3, h4⟩ | ⟨q, o2, h1, h2, hr2, h3⟩ <;> rcases live n' hn' pl' hp' hv' with ⟨g1, g2, g3, g4⟩ | ⟨q', o2', g1, g2, gr2, g3⟩
    · exact h.inj n n' pl pl' h1 g1 h2 g2 hv hv' hbb
    · exfalso
      rcases hrel.foot q' o2' pl' g2 g3 hv' gr2 with h13 | h13
      · have h14 : pl.b < W.heap.size := h.live_lt h1 h2 hv
        change W.heap.size ≤ pl'.b at h13
        omega
      · obtain ⟨n2, on2, pl2, q1, q2, q3, q4, q5, j, o, q6, q7, q8⟩ := hSn _ h13
        have := h.inj n2 n pl2 pl (by rw [q1]; simp) h1 q3 h2 q4 hv (q5.trans hbb.symm)
        subst this
        exact h4 j o q6 q7 q8
    · exfalso
      rcases hrel.foot q o2 pl h2 h3 hv hr2 with h13 | h13
      · have h14 : pl'.b < W.heap.size := h.live_lt g1 g2 hv'
        change W.heap.size ≤ pl.b at h13
        omega
      · obtain ⟨n2, on2, pl2, q1, q2, q3, q4, q5, j, o, q6, q7, q8⟩ := hSn _ h13
        have := h.inj n2 n' pl2 pl' (by rw [q1]; simp) g1 q3 g2 q4 hv' (q5.trans hbb)
        subst this
        exact g4 j o q6 q7 q8
    · have := hrel.inj q q' pl pl' (ne2 h2) (ne2 g2) h3 g3 hv hv' hbb
      subst this
      rw [h1, g1]
  · show (if nm ≤ n ∧ n < nm + F then _ else _) = _
    rw [if_neg hn.2]
    exact h.free n hn.1
theorem wp_enterF {o : Oper} {c : Call} {f : Operand} {g : FuncId} {fst caps : Array Value} {next : Act → World → Prop} {Q : Exit → Act → World → Prop} (ho : o.op = .call c) (hc : c.callee = .value f) (hf : a.eval f = .func (.func g) fst caps) (he : Enters P g)
    (h : Calls P g (fst ++ c.args.map a.eval ++ caps) W fun x W' => ∃ v, x = .returned v ∧ next (a.put o.dst v) W') : o.wp P a W next Q := by
  obtain ⟨fn, h1, h2, h3⟩ := he
  have hrun : (execOp a.eval o).run P W = .ok (.enter g (fst ++ c.args.map a.eval ++ caps)) W := by
    simp only [execOp, ho, resolve, hc, hf, Deferred.ofValue, invoke, Sem.run_bind, Sem.run_pure, Result.andThen_ok]
    have h2' : ¬ fn.name = "runtime.NumGoroutine" := by simpa using h2
    have h3' : ¬ fn.body = none := by intro h; simp [h] at h3
    simp [callFunc, program, Sem.run, h1, h2', h3']
  unfold Oper.wp
  rw [hrun, Oper.upon_enter]
  refine h.mono ?_
  rintro x W' ⟨v, rfl, hn⟩
  exact hn
theorem wp_enter {o : Oper} {c : Call} {f : Operand} {g : FuncId} {caps : Array Value} {next : Act → World → Prop} {Q : Exit → Act → World → Prop} (ho : o.op = .call c) (hc : c.callee = .value f) (hf : a.eval f = .func (.func g) #[] caps) (he : Enters P g)
    (h : Calls P g (c.args.map a.eval ++ caps) W fun x W' => ∃ v, x = .returned v ∧ next (a.put o.dst v) W') : o.wp P a W next Q :=
  wp_enterF ho hc hf he (by rw [Array.empty_append]; exact h)
theorem evals_rvt (h : Rel P G C β free N regs look a W) : ∀ (l : List Operand), RVt (memOf P C β look W) β (l.map (evalD G regs)) (l.map a.eval)
  | [] => trivial
  | x :: l => ⟨rv_eval h x, evals_rvt h l⟩
theorem RVt.append {M : Mem} {β : Places} : ∀ {ds : List D} {vs : List Value} {ds' : List D} {vs' : List Value}, RVt M β ds vs → RVt M β ds' vs' → RVt M β (ds ++ ds') (vs ++ vs')
  | [], [], _, _, _, h => h
  | [], _ :: _, _, _, h, _ => h.elim
  | _ :: _, [], _, _, h, _ => h.elim
  | d :: ds, v :: vs, _, _, h, h' => ⟨h.1, h.2.append h'⟩
theorem opv_callTry (h : Rel P G C β free N regs look a W) (hE : EnvOk P G E) {o : Oper} {c : Call} {fx : Operand} {caps : List D} (ho : o.op = .call c) (hc : c.callee = .value fx) {e : Entry} {eid : Nat} (hee : FnOk P G e (E.call eid)) (hfx : evalD G regs fx = .clo e.fid caps)
    (hbd : (c.args.toList.isEmpty || !boundB P e.fid caps.length) = true) {r : OR} {u : OpOut} (hr : callTry P E look nm (c.args.toList.map (evalD G regs) ++ caps) eid e = some r) (hu : r.get = some u) (hfr : ∀ n, nm ≤ n → n < nm + u.fresh → free n) {Q : Exit → Act → World → Prop} :
    o.wp P a W (Nxt P G C β free N regs look o.dst nm u) Q := by
  unfold callTry at hr
  split at hr
  case h_2 => cases hr
  case h_1 k hk =>
  obtain ⟨k0, pk⟩ := packShape_spec hk
  dsimp only at hr
  split at hr
  case h_2 => cases hr
  case h_1 r0 hup0 =>
  have hb := (bif_some hr).1
  replace hr := (bif_some hr).2
  simp only [Bool.and_eq_true] at hb
  obtain ⟨⟨⟨b1, b2⟩, b3⟩, b4⟩ := hb
  simp only [Option.some.injEq] at hr
  subst hr
  simp only [OR.get, OR.run] at hu
  cases hcall : E.call eid k.as with
  | none => rw [hcall] at hu; cases hu
  | some out =>
  rw [hcall] at hu
  simp only [Option.bind_some, Option.some.injEq] at hu
  obtain ⟨vs, fst, ws, hcaps, hvs, hca⟩ := ev_scalar h hfx rfl
  have hev : a.eval fx = .func (.func e.fid) fst ws := by simpa using hvs
  have hv := (evals_rvt h c.args.toList).append hcaps.toRVt
  obtain ⟨hin, _, hro⟩ := call_in h hE pk hv
  obtain ⟨r, hup⟩ := updOf_some (u' := unOs P (nameOf k.σ e.ins.objs.length nm) out e.outs.objs 0 (unRs P (nameOf k.σ e.ins.objs.length nm) out (regRMs e.outs) 0).2) hup0 (by rw [unOs_len, unOs_len])
  rw [hup] at hu
  simp only [Option.getD_some] at hu
  subst hu
  have hcalls := hee.2 _ _ _ _ _ W rfl hcall hin
  have hargs : (c.args.toList.map a.eval ++ vs.toList).toArray = fst ++ c.args.map a.eval ++ ws := by
    apply Array.toList_inj.1
    rcases hca with ⟨rfl, rfl⟩ | ⟨rfl, rfl, hb2⟩
    · simp
    · change boundB P e.fid fst.toList.length = true at hb2
      rw [← RVs.length hcaps, Bool.or_eq_true] at hbd
      rcases hbd with hbd | hbd
      · have : c.args.toList = [] := by simpa using hbd
        simp [this]
      · rw [hb2] at hbd; cases hbd
  rw [hargs] at hcalls
  refine wp_enterF ho hc hev hee.1 (hcalls.mono ?_)
  rintro x W' ⟨us, β2, rfl, hkept, hat⟩
  exact ⟨retVal us, rfl, call_back h pk hro b1 b2 b3 b4 hfr hup hkept hat⟩
theorem opv_callD (h : Rel P G C β free N regs look a W) (hE : EnvOk P G E) {o : Oper} {c : Call} {fx : Operand} {caps : List D} {f : FuncId} (ho : o.op = .call c) (hc : c.callee = .value fx) (hfx : evalD G regs fx = .clo f caps) (hbd : (c.args.toList.isEmpty || !boundB P f caps.length) = true) {Q : Exit → Act → World → Prop} :
    ∀ (es : List Entry) (i : Nat), (∀ p e, es[p]? = some e → E.ents[i + p]? = some e) → ∀ {r : OR} {u : OpOut}, callD P E look nm f (c.args.toList.map (evalD G regs) ++ caps) es i = some r → r.get = some u → (∀ n, nm ≤ n → n < nm + u.fresh → free n) →
    o.wp P a W (Nxt P G C β free N regs look o.dst nm u) Q
  | [], i, _, r, u, hr, hu, hfr => by simp [callD] at hr
  | e :: es, i, hes, r, u, hr, hu, hfr => by
    have hnext : ∀ p e', es[p]? = some e' → E.ents[i + 1 + p]? = some e' := fun p e' hp => by rw [show i + 1 + p = i + (p + 1) by omega]; exact hes (p + 1) e' (by simpa using hp)
    simp only [callD] at hr
    cases hb : (Nat.beq e.fid f && matchRs (regRMs e.ins) (c.args.toList.map (evalD G regs) ++ caps) && matchOs look e.ins.objs (regRMs e.ins) (c.args.toList.map (evalD G regs) ++ caps)) with
    | false => rw [hb] at hr; exact opv_callD h hE ho hc hfx hbd es (i + 1) hnext (by simpa using hr) hu hfr
    | true =>
      rw [hb] at hr
      simp only [Bool.and_eq_true] at hb
      have := beqN hb.1.1
      subst this
      simp only [cond_true] at hr
      exact opv_callTry h hE ho hc (hE.ents i e (by have := hes 0 e (by simp); simpa using this)) hfx hbd hr hu hfr
end
end Go.Proofs.YtbejhhoakeapgaaVM
namespace Go.Proofs.YtbejhhoakeapgaaVM
open Go Go.RowKit
set_option linter.unusedVariables false
set_option linter.unusedSimpArgs false

theorem RVt.toRVs {M : Mem} {β : Places} : ∀ {ds : List D} {vs : List Value}, RVt M β ds vs → (∀ d, d ∈ ds → ∀ l, d ≠ .tup l) → RVs M β ds vs
  | [], [], _, _ => trivial
  | [], _ :: _, h, _ => h.elim
  | _ :: _, [], h, _ => h.elim
  | d :: ds, v :: vs, h, hn => by
    refine ⟨?_, h.2.toRVs (fun d hd => hn d (List.mem_cons_of_mem _ hd))⟩
    have h1 := h.1
    have h2 := hn d (List.mem_cons_self ..)
    cases d <;> first
      | exact .inl rfl
      | exact absurd rfl (h2 _)
      | exact .inr h1
theorem noTups_spec : ∀ {l : List D}, noTups l = true → ∀ d, d ∈ l → ∀ x, d ≠ .tup x
  | [], h, d, hd, x => by simp at hd
  | d0 :: l, h, d, hd, x => by
    have h' : noTups l = true := by cases d0 <;> simp only [noTups] at h <;> first | exact h | cases h
    rcases List.mem_cons.1 hd with rfl | hd
    · intro he; subst he; simp [noTups] at h
    · exact noTups_spec h' d hd x
theorem packArgs_tup {P : Program} {look : Look} : ∀ {τs : List TypeId} {ds : List D} {ts : List T} {f : List Nat}, packArgs P look τs ds = some (ts, f) → ∀ d, d ∈ ds → ∀ l, d ≠ .tup l
  | [], [], ts, f, h, d, hd, l => by simp at hd
  | [], _ :: _, ts, f, h, d, hd, l => by simp [packArgs] at h
  | _ :: _, [], ts, f, h, d, hd, l => by simp [packArgs] at h
  | τ :: τs, d0 :: ds, ts, f, h, d, hd, l => by
    simp only [packArgs] at h
    split at h
    case h_1 h1 h2 =>
      rcases List.mem_cons.1 hd with rfl | hd
      · intro he; subst he; simp [packT] at h1
      · exact packArgs_tup h2 d hd l
    case h_2 => cases h
theorem pvs_un {M : Mem} {β : Places} {o : List T} : ∀ {rs : List TypeId} {i : Nat} {us : List Value}, PVs M.P M.W M.ok rs ((List.range' i rs.length).map (tAtD o)) us → RVs M β ((rs.zipIdx i).map fun (τ, i) => ofT M.P τ (tAtD o i)) us
  | [], i, us, h => by cases us <;> first | exact h.elim | exact trivial
  | τ :: rs, i, us, h => by
    simp only [List.length_cons, List.range'_succ, List.map_cons] at h
    cases us with
    | nil => exact h.elim
    | cons u us =>
      obtain ⟨⟨cs, h1, h2⟩, h3⟩ := h
      simp only [List.zipIdx_cons, List.map_cons]
      obtain ⟨h4, h5⟩ := PRep.ofT (β := β) h1
      refine ⟨.inr ⟨cs, h4, ?_⟩, pvs_un h3⟩
      unfold VF
      rw [h5]
      cases hb : isAggB M.P τ <;> rw [hb] at h2 <;> simpa using h2
section
variable {P : Program} {G : Globs} {C : Ctx} {β : Places} {free : Nat → Prop} {N : Nat} {regs : Regs} {look : Look} {a : Act} {W : World} {E : Env} {nm : Nat} {Q : Exit → Act → World → Prop}
theorem opv_fnv (h : Rel P G C β free N regs look a W) {o : Oper} {c : Call} {fx : Operand} (ho : o.op = .call c) (hc : c.callee = .value fx) {g : List T → Option (List T)} {ps rs : List TypeId} (hfx : evalD G regs fx = .fnv g ps rs) {ts : List T} {frz : List Nat}
    (hp : packArgs P look ps (c.args.toList.map (evalD G regs)) = some (ts, frz)) {out : List T} (hg : g ts = some out) :
    o.wp P a W (Nxt P G C β free N regs look o.dst nm { d := tupD (rs.zipIdx.map fun (τ, i) => ofT P τ (tAtD out i)), upd := goneAll frz, touch := frz }) Q := by
  obtain ⟨v, hv, f, caps, hfv, hen, hrep⟩ := ev_scalar h hfx rfl
  simp only [List.cons.injEq, and_true] at hv
  subst hfv
  let X : Nat → Prop := fun b => C.Av b ∨ ∃ n pl, look n ≠ none ∧ β n = some pl ∧ pl.virt = false ∧ pl.b = b ∧ n ∉ frz
  have hargs := packArgs_vals (M := memOf P C β look W) (ok' := fun b => ¬ X b) h.objs (fun b hb hx => by
    rcases hx with hx | ⟨n, pl, h1, h2, h3, h4, _⟩
    · exact hb.1 hx
    · exact hb.2 n pl h1 h2 h3 h4) hp ((evals_rvt h c.args.toList).toRVs (packArgs_tup hp)) (fun n hn pl hpl hvv hx => by
    obtain ⟨e, xs, hl⟩ := packArgs_names _ hp n hn
    rcases hx with hx | ⟨m, plm, h1, h2, h3, h4, h5⟩
    · exact h.own n _ pl hl hpl hvv rfl hx
    · have := h.inj m n plm pl h1 (by rw [hl]; simp) h2 hpl h3 hvv h4
      subst this
      exact h5 hn)
  have hcalls := hrep W h.keeps X (fun b hb => .inl hb) (fun b hb => by
    rcases hb with hb | ⟨n, pl, h1, h2, h3, h4, _⟩
    · exact .inl hb
    · rw [← h4]; exact h.live_foot h1 h2 h3) (fun b hb => by
    rcases hb with hb | ⟨n, pl, h1, h2, h3, h4, _⟩
    · exact Nat.lt_of_lt_of_le (h.avold b hb) h.keeps.size
    · rw [← h4]; exact h.live_lt h1 h2 h3) ts out (c.args.toList.map a.eval) hargs hg
  have hargs' : (c.args.toList.map a.eval).toArray ++ caps = c.args.map a.eval ++ caps := by
    congr 1
    apply Array.toList_inj.1
    simp
  rw [hargs'] at hcalls
  refine wp_enter ho hc hv hen (hcalls.mono ?_)
  rintro x W' ⟨us, rfl, hb, hpv⟩
  refine ⟨retVal us, rfl, nxt_gone h (Wr.of_below hb) (fun hle => ?_)⟩
  have hweak : PVs P W' (okOf C β (updF look (goneAll frz))) rs ((List.range' 0 rs.length).map (tAtD out)) us := by
    have : ∀ {ps : List TypeId} {ts : List T} {vs : List Value}, PVs P W' (fun b => ¬ X b) ps ts vs → PVs P W' (okOf C β (updF look (goneAll frz))) ps ts vs := by
      intro ps
      induction ps with
      | nil => intro ts vs h; cases ts <;> cases vs <;> first | exact h.elim | exact trivial
      | cons τ ps ih =>
        intro ts vs h
        cases ts with
        | nil => exact h.elim
        | cons t ts =>
          cases vs with
          | nil => exact h.elim
          | cons v vs =>
            refine ⟨h.1.stay ⟨fun b hb => .inl ⟨fun hav => hb (.inl hav), fun n pl hn hpl hvv hbe => ?_⟩, fun _ _ _ h => h⟩, ih h.2⟩
            rw [updF_gone] at hn
            by_cases hm : n ∈ frz
            · simp [hm] at hn
            · rw [if_neg hm] at hn
              exact hb (.inr ⟨n, pl, hn, hpl, hvv, hbe, hm⟩)
    rw [← List.range_eq_range']
    exact this hpv
  exact tupD_rep (pvs_un (M := memOf P C β (updF look (goneAll frz)) W') hweak)
theorem opv_sound (h : Rel P G C β free N regs look a W) (hE : EnvOk P G E) {o : Oper} {r : OR} {u : OpOut} (hr : opv P E (evalD G regs) look nm o = some r) (hu : r.get = some u) (hfr : ∀ n, nm ≤ n → n ≤ nm + u.fresh → free n) :
    o.wp P a W (Nxt P G C β free N regs look o.dst nm u) Q := by
  have hnm : free nm := hfr nm (Nat.le_refl _) (Nat.le_add_right _ _)
  have outd : ∀ {d : D}, out d = some r → u = { d } := by
    intro d h1
    simp only [out, Option.some.injEq] at h1
    subst h1
    simp only [OR.get, OR.run, Option.some.injEq] at hu
    exact hu.symm
  unfold opv at hr
  split at hr
  case h_1 x hop =>
    have := outd hr; subst this
    exact wp_pure h (by simp only [execOp, hop]; rfl) (rv_eval h x)
  case h_2 x hop =>
    have := outd hr; subst this
    exact wp_pure h (by simp only [execOp, hop]; rfl) (rv_eval h x)
  case h_3 c x y hop =>
    split at hr
    case h_1 t ht =>
      cases hr
      have hb := ev_bool h ht
      have hrun : (execOp a.eval o).run P W = .ok (.value (if t then a.eval x else a.eval y)) W := by
        simp only [execOp, hop, hb, asBool, Sem.run_bind]; rfl
      simp only [OR.get, OR.run] at hu
      cases t with
      | true => simp only [cond_true, Option.some.injEq] at hu; subst hu; exact wp_pure h hrun (rv_eval h x)
      | false => simp only [cond_false, Option.some.injEq] at hu; subst hu; exact wp_pure h hrun (rv_eval h y)
    case h_2 => cases hr
  case h_4 τ hop =>
    split at hr
    case h_1 d hd =>
      have hf := (bif_some hr).1
      replace hr := (bif_some hr).2
      cases hr
      simp only [OR.get, OR.run, Option.some.injEq] at hu
      subst hu
      exact opv_alloc h hnm hop hd hf
    case h_2 => cases hr
  case h_5 τ x hop =>
    have hf := (bif_some hr).1
    replace hr := (bif_some hr).2
    cases hr
    simp only [OR.get, OR.run, Option.some.injEq] at hu
    subst hu
    exact opv_box h hnm hop hf
  case h_6 t parts hop => exact opv_build h hop hr hu
  case h_7 t len parts hop => exact opv_buildSlice h (fun _ _ => hnm) hop hr hu
  case h_8 t x hop => exact opv_load h hop hr hu
  case h_9 t x y hop => exact opv_store h hop hr hu
  case h_10 x hop =>
    split at hr
    case h_1 n τ p hx =>
      have := outd hr; subst this
      have hv := rv_eval h x
      rw [hx] at hv
      obtain ⟨pl, q, h1, _⟩ := RV_out hv rfl
      simp only [List.cons.injEq, and_true] at h1
      exact wp_pure h (v := a.eval x) (by simp only [execOp, hop, h1]; rfl) hv
    case h_2 τ t hx =>
      have := outd hr; subst this
      have hv := rv_eval h x
      rw [hx] at hv
      obtain ⟨b, q, c, el, fr, s, h1, _⟩ := RV_out hv rfl
      simp only [List.cons.injEq, and_true] at h1
      exact wp_pure h (v := a.eval x) (by simp only [execOp, hop, h1]; rfl) hv
    case h_3 n e i p hx =>
      have := outd hr; subst this
      have hv := rv_eval h x
      rw [hx] at hv
      obtain ⟨pl, q, h1, _⟩ := RV_out hv rfl
      simp only [List.cons.injEq, and_true] at h1
      exact wp_pure h (v := a.eval x) (by simp only [execOp, hop, h1]; rfl) hv
    case h_4 => cases hr
  case h_11 op t x y yt hop => exact opv_bin h hop hr hu
  case h_12 op t x hop => exact opv_un h hop hr hu
  case h_13 src dst x hop => exact opv_conv h (fun _ _ => hnm) hop hr hu
  case h_14 f first captured hop =>
    cases hfc : (first.toList.isEmpty && noTups (captured.toList.map (evalD G regs))) with
    | true =>
      rw [hfc] at hr
      simp only [cond_true] at hr
      have := outd hr; subst this
      simp only [Bool.and_eq_true] at hfc
      have hfirst : first = #[] := by
        have := hfc.1
        simp at this
        exact this
      refine wp_pure h (v := .func (.func f) #[] (captured.map a.eval)) (by simp [execOp, hop, hfirst, Instr.makeFunc]) (RV_scalar ⟨captured.map a.eval, #[], captured.map a.eval, ?_, rfl, .inl ⟨rfl, rfl⟩⟩ rfl)
      rw [Array.toList_map]
      exact (evals_rvt h captured.toList).toRVs (noTups_spec hfc.2)
    | false =>
      rw [hfc] at hr
      simp only [cond_false] at hr
      have hf := (bif_some hr).1
      replace hr := (bif_some hr).2
      have := outd hr; subst this
      simp only [Bool.and_eq_true] at hf
      have hcap : captured = #[] := by
        have := hf.1.1
        simp at this
        exact this
      refine wp_pure h (v := .func (.func f) (first.map a.eval) #[]) (by simp [execOp, hop, hcap, Instr.makeFunc]) (RV_scalar ⟨first.map a.eval, first.map a.eval, #[], ?_, rfl, .inr ⟨rfl, rfl, ?_⟩⟩ rfl)
      · rw [Array.toList_map]
        exact (evals_rvt h first.toList).toRVs (noTups_spec hf.1.2)
      · have := hf.2
        rw [Array.toList_map, List.length_map]
        exact this
  case h_15 t hop =>
    split at hr
    case h_1 k v hk =>
      cases hr
      simp only [OR.get, OR.run, Option.some.injEq] at hu
      subst hu
      exact opv_makeMap h hnm hop
    case h_2 => cases hr
  case h_16 t x lo hi mx hop =>
    cases hmv : (E.mv && mvB P t (evalD G regs x) lo hi mx) with
    | true =>
      rw [hmv] at hr
      rw [Bool.and_eq_true] at hmv
      exact opv_sliceMv h hnm hop hmv.2 hr hu
    | false =>
      rw [hmv] at hr
      exact opv_slice h hop hr hu
  case h_17 s x f hop => exact opv_fieldAddr h hop hr hu
  case h_18 s x f hop => exact opv_field h hop hr hu
  case h_19 t x ix hop => exact opv_indexAddr h hop hr hu
  case h_20 t x ix hop => exact opv_index h hop hr hu
  case h_21 t i hop =>
    split at hr
    case h_1 ds hx =>
      split at hr
      case h_1 d hd =>
        have := outd hr; subst this
        have hv := rv_eval h t
        rw [hx] at hv
        obtain ⟨vs, h1, h2⟩ := hv
        have hi : ∀ {ds : List D} {vs : List Value} {i : Nat} {d : D}, RVs (memOf P C β look W) β ds vs → ds[i]? = some d → ∃ v, vs[i]? = some v ∧ RV (memOf P C β look W) β d v := by
          intro ds
          induction ds with
          | nil => intro vs i d h hd; simp at hd
          | cons d0 ds ih =>
            intro vs i d h hd
            cases vs with
            | nil => exact h.elim
            | cons v vs =>
              cases i with
              | zero =>
                simp at hd; subst hd
                refine ⟨v, by simp, ?_⟩
                rcases h.1 with rfl | ⟨cs, h3, h4⟩
                · trivial
                · exact RV_of h3 h4
              | succ i => obtain ⟨w, h3, h4⟩ := ih h.2 (by simpa using hd); exact ⟨w, by simpa using h3, h4⟩
        obtain ⟨w, h3, h4⟩ := hi h2 hd
        have h5 : vs[i]? = some w := by rw [← Array.getElem?_toList]; exact h3
        exact wp_pure h (v := w) (by simp only [execOp, hop, h1, Instr.extract, h5]; rfl) h4
      case h_2 => cases hr
    case h_2 => cases hr
  case h_22 t x ix ok hop => exact opv_lookup h hop hr hu
  case h_23 t m k x hop => exact opv_mapUpdate h (.inl hop) hr hu
  case h_24 t m k x hop => exact opv_mapUpdate h (.inr hop) hr hu
  case h_25 t m k hop => exact opv_mapEntry h hnm hop hr hu
  case h_26 t m k x hop => exact opv_entryStore h hop hr hu
  case h_27 c hop =>
    split at hr
    case h_1 b hc => exact opv_builtin h (fun _ _ => hnm) hop hc hr hu
    case h_2 f hc =>
      split at hr
      case h_1 g caps hf => exact opv_callD h hE hop hc hf (bif_some hr).1 E.ents 0 (fun p e hp => by rw [Nat.zero_add]; exact hp) (bif_some hr).2 hu (fun n h1 h2 => hfr n h1 (by omega))
      case h_2 g ps rs hf =>
        split at hr
        case h_1 ts frz hp =>
          cases hr
          simp only [OR.get, OR.run] at hu
          cases hg : g ts with
          | none => rw [hg] at hu; cases hu
          | some o' =>
            rw [hg] at hu
            simp only [Option.bind_some, Option.some.injEq] at hu
            subst hu
            exact opv_fnv h hop hc hf hp hg
        case h_2 => cases hr
      case h_3 => cases hr
    case h_3 => cases hr
  case h_28 => cases hr
end
end Go.Proofs.YtbejhhoakeapgaaVM
namespace Go.Proofs.YtbejhhoakeapgaaVM
open Go Go.RowKit
set_option linter.unusedVariables false
set_option linter.unusedSimpArgs false

theorem regsOf_putL : ∀ (l : List D) (t i : Nat) (d : D), regsOf (putL l t d) i = if t = i ∧ i < l.length then d else regsOf l i
  | [], t, i, d => by simp [putL, regsOf]
  | x :: l, 0, 0, d => by simp [putL, regsOf]
  | x :: l, 0, i + 1, d => by simp [putL, regsOf]
  | x :: l, t + 1, 0, d => by simp [putL, regsOf]
  | x :: l, t + 1, i + 1, d => by
    have := regsOf_putL l t i d
    simpa [putL, regsOf] using this
theorem putL_len : ∀ (l : List D) (t : Nat) (d : D), (putL l t d).length = l.length
  | [], _, _ => rfl
  | _ :: _, 0, _ => rfl
  | _ :: l, t + 1, d => by simp [putL, putL_len l]
theorem lookL_drop : ∀ (l : List (Nat × O)) (n m : Nat), lookL (dropL l n) m = if m = n then none else lookL l m
  | [], n, m => by simp [dropL, lookL]
  | (i, o) :: l, n, m => by
    simp only [dropL]
    cases hb : Nat.beq i n with
    | true =>
      have := beqN hb; subst this
      simp only [cond_true, lookL_drop l, lookL]
      by_cases h : m = i
      · simp [h]
      · have h2 : Nat.beq i m = false := by
          cases hx : Nat.beq i m with
          | false => rfl
          | true => exact absurd (beqN hx).symm h
        simp [h, h2]
    | false =>
      simp only [cond_false, lookL, lookL_drop l]
      by_cases h : m = n
      · subst h; simp [hb]
      · simp [h]
theorem lookL_set : ∀ (l : List (Nat × O)) (n : Nat) (o : Option O) (m : Nat), lookL (setL l n o) m = setF (lookL l) n o m
  | l, n, none, m => by simp only [setL, lookL_drop, setF]
  | [], n, some o, m => by
    simp only [setL, lookL, setF]
    by_cases h : m = n
    · subst h; simp
    · have h2 : Nat.beq n m = false := by
        cases hx : Nat.beq n m with
        | false => rfl
        | true => exact absurd (beqN hx).symm h
      simp [h, h2]
  | (i, o') :: l, n, some o, m => by
    simp only [setL]
    cases hb : Nat.beq i n with
    | true =>
      have := beqN hb; subst this
      simp only [cond_true, lookL, setF]
      by_cases h : m = i
      · subst h; simp
      · have h2 : Nat.beq i m = false := by
          cases hx : Nat.beq i m with
          | false => rfl
          | true => exact absurd (beqN hx).symm h
        simp [h, h2]
    | false =>
      simp only [cond_false, lookL, lookL_set l, setF]
      by_cases h : m = n
      · subst h; simp [hb]
      · simp [h]
theorem lookL_upd : ∀ (u : List (Nat × Option O)) (l : List (Nat × O)), lookL (updAll l u) = updF (lookL l) u
  | [], l => rfl
  | (n, o) :: u, l => by
    simp only [updAll, updF, lookL_upd u]
    congr 1
    funext m
    exact lookL_set l n o m
theorem OR.run_get {R : Type} {r : OR} {k : OpOut → Option R} {x : R} (h : r.run k = some x) : ∃ u, r.get = some u ∧ k u = some x := by
  cases r with
  | done o => exact ⟨o, rfl, h⟩
  | need c o => cases c <;> simp only [OR.run, OR.get, cond_true, cond_false] at h ⊢ <;> first | exact ⟨o, rfl, h⟩ | cases h
  | ask y f => cases y <;> simp only [OR.run, OR.get, Option.bind_some, Option.bind_none] at h ⊢ <;> first | exact ⟨_, rfl, h⟩ | cases h
  | fun_ y f => cases y <;> simp only [OR.run, OR.get, Option.bind_some, Option.bind_none] at h ⊢ <;> first | exact ⟨_, rfl, h⟩ | cases h
  | pick c a b => cases c <;> simp only [OR.run, OR.get, cond_true, cond_false] at h ⊢ <;> exact ⟨_, rfl, h⟩

section
variable (P : Program) (G : Globs) (C : Ctx) (σ0 : List (Nat × Option Nat)) (β0 : Places) (N : Nat)
def St (st : Store) (a : Act) (W : World) : Prop :=
  st.regs.length = N ∧ ∃ β, Kept σ0 β0 β ∧ Rel P G C β (fun n => st.next ≤ n) N (regsOf st.regs) (lookL st.objs) a W
end
section
variable {P : Program} {G : Globs} {C : Ctx} {σ0 : List (Nat × Option Nat)} {β0 : Places} {N : Nat} {E : Env} {Q : Exit → Act → World → Prop}
theorem Kept.sub {β β' : Places} (h : Kept σ0 β0 β) (hs : Sub β β') : Kept σ0 β0 β' := fun j pl h1 h2 => hs j pl (h j pl h1 h2)
theorem regsOf_put {st : Store} {dst : Option Tmp} {d : D} (hl : st.regs.length = N) : regsOf (st.put dst d).regs = upd1 N (regsOf st.regs) dst d := by
  funext t
  cases dst with
  | none => simp [Store.put, upd1]
  | some x => simp only [Store.put, regsOf_putL, upd1, hl, Option.some.injEq]
theorem put_regs_len {st : Store} {dst : Option Tmp} {d : D} : (st.put dst d).regs.length = st.regs.length := by cases dst <;> simp [Store.put, putL_len]
theorem St.lit {st : Store} {a : Act} {W : World} (h : St P G C σ0 β0 N st a W) {t : Nat} {b : Bool} (hb : regsOf st.regs t = .bool b) : St P G C σ0 β0 N (st.lit (.tmp t) b) a W := by
  obtain ⟨hl, β, hk, hr⟩ := h
  refine ⟨by simp only [Store.lit, putL_len]; exact hl, β, hk, ?_⟩
  have : regsOf (st.lit (.tmp t) b).regs = regsOf st.regs := by
    funext i
    simp only [Store.lit, regsOf_putL]
    split
    · rename_i he; rw [← he.1, hb]
    · rfl
  rw [this]
  exact hr
theorem St.skip {st : Store} {a : Act} {W : World} (h : St P G C σ0 β0 N st a W) (dst : Option Tmp) : St P G C σ0 β0 N (st.put dst (.tup [])) (a.put dst Go.undef) W := by
  obtain ⟨hl, β, hk, hr⟩ := h
  refine ⟨by rw [put_regs_len]; exact hl, β, hk, ?_⟩
  rw [regsOf_put hl]
  have := hr.pure (dst := dst) (d := .tup []) (v := Go.undef) ⟨#[], rfl, trivial⟩
  cases dst <;> exact this
theorem St.step {st : Store} {a a' : Act} {W W' : World} (hl : st.regs.length = N) {β : Places} (hk : Kept σ0 β0 β) {dst : Option Tmp} {u : OpOut} (h : Nxt P G C β (fun n => st.next ≤ n) N (regsOf st.regs) (lookL st.objs) dst st.next u a' W') :
    St P G C σ0 β0 N (st.step dst u) a' W' := by
  obtain ⟨β', hs, hr⟩ := h
  refine ⟨by simp only [Store.step, put_regs_len]; exact hl, β', hk.sub hs, ?_⟩
  simp only [Store.step, regsOf_put hl, lookL_upd]
  exact hr.frees (fun n hn => ⟨by omega, by omega⟩)
theorem runOp_ok (hE : EnvOk P G E) {o : Oper} {st : Store} {a : Act} {W : World} {R : Type} {k : OpOut → Store → Option R} {x : R} (h : St P G C σ0 β0 N st a W) (hr : runOp P E o st k = some x) :
    ∃ u, k u (st.step o.dst u) = some x ∧ o.wp P a W (fun a' W' => St P G C σ0 β0 N (st.step o.dst u) a' W') Q := by
  unfold runOp at hr
  split at hr
  case h_2 => cases hr
  case h_1 r hr' =>
    obtain ⟨u, h1, h2⟩ := OR.run_get hr
    obtain ⟨hl, β, hk, hrel⟩ := h
    rw [hE.glob] at hr'
    refine ⟨u, h2, Oper.wp_mono (fun a' W' hn => St.step (a := a) (W := W) hl hk hn) (opv_sound hrel hE hr' h1 (fun n h1 _ => h1))⟩
theorem yielded_of {all : List Oper} {j t : Nat} {b : Bool} {st : Store} {a : Act} {W : World} (h : St P G C σ0 β0 N st a W) (hj : dstAt all j = some t) (hb : regsOf st.regs t = .bool b) : yielded all.toArray a.tmps j = some b := by
  obtain ⟨hl, β, hk, hr⟩ := h
  have hv := hr.vals t
  rw [hb] at hv
  have h1 := RV_out hv rfl
  simp only [RC, List.cons.injEq, and_true] at h1
  have hlt : t < N := by
    rcases Nat.lt_or_ge t N with h2 | h2
    · exact h2
    · have := hr.bound t h2; rw [hb] at this; cases this
  rw [Array.getD_eq_getD_getElem?] at h1
  unfold yielded
  unfold dstAt at hj
  rw [show all.toArray[j]? = all[j]? by simp, hj]
  have hs := hr.size
  rw [Array.getElem?_eq_getElem (by omega)] at h1
  simp only [Option.getD_some] at h1
  simp only [Option.bind_some]
  rw [Array.getElem?_eq_getElem (by omega), h1]
theorem yielded_none {all : List Oper} {j t : Nat} {st : Store} {a : Act} {W : World} (h : St P G C σ0 β0 N st a W) (hj : dstAt all j = some t) (hb : regsOf st.regs t = .tup []) : yielded all.toArray a.tmps j = none := by
  obtain ⟨hl, β, hk, hr⟩ := h
  have hv := hr.vals t
  rw [hb] at hv
  obtain ⟨vs, h1, h2⟩ := hv
  rw [Array.getD_eq_getD_getElem?] at h1
  unfold yielded
  unfold dstAt at hj
  rw [show all.toArray[j]? = all[j]? by simp, hj]
  simp only [Option.bind_some]
  cases hx : a.tmps[t]? with
  | none => rfl
  | some v =>
    rw [hx] at h1
    simp only [Option.getD_some] at h1
    rw [h1]
theorem guarded_ok {all : List Oper} {o : Oper} {st : Store} {a : Act} {W : World} {R : Type} {yes no : Store → Option R} {x : R} (h : St P G C σ0 β0 N st a W) (hg : guarded all o st yes no = some x) :
    ∃ st', St P G C σ0 β0 N st' a W ∧ ((Region.wanted o (yielded all.toArray a.tmps) = true ∧ yes st' = some x) ∨ (Region.wanted o (yielded all.toArray a.tmps) = false ∧ no (st'.put o.dst (.tup [])) = some x)) := by
  unfold guarded at hg
  unfold Region.wanted
  split at hg
  case h_1 hn => rw [hn]; exact ⟨st, h, .inl ⟨rfl, hg⟩⟩
  case h_2 j want hgd =>
    rw [hgd]
    split at hg
    case h_2 => cases hg
    case h_1 t ht =>
      split at hg
      case h_3 => cases hg
      case h_2 hb =>
        have hy := yielded_none h ht hb
        exact ⟨_, h, .inr ⟨by simp [hy], hg⟩⟩
      case h_1 b hb =>
        have hy := yielded_of h ht hb
        cases hbw : b == want with
        | true =>
          rw [hbw] at hg
          have : b = want := by simpa using hbw
          subst this
          exact ⟨_, h.lit hb, .inl ⟨by simp [hy], hg⟩⟩
        | false =>
          rw [hbw] at hg
          have : b = !want := by cases b <;> cases want <;> simp_all
          subst this
          exact ⟨_, h.lit hb, .inr ⟨by simp [hy], hg⟩⟩
theorem seqRun_ok (hE : EnvOk P G E) {all : List Oper} {R : Type} {k : Store → Option R} {x : R} : ∀ (l : List Oper) {st : Store} {a : Act} {W : World}, St P G C σ0 β0 N st a W → seqRun P E all l st k = some x →
    (∀ st' a' W', St P G C σ0 β0 N st' a' W' → k st' = some x → Q .normal a' W') → wpList P all.toArray Q l a W
  | [], st, a, W, h, hr, hq => hq st a W h hr
  | o :: l, st, a, W, h, hr, hq => by
    simp only [seqRun, forceSt_eq] at hr
    obtain ⟨st', h', hc⟩ := guarded_ok h hr
    unfold wpList
    rcases hc with ⟨hw, hc⟩ | ⟨hw, hc⟩
    · rw [if_pos hw]
      obtain ⟨u, h1, h2⟩ := runOp_ok (Q := Q) hE h' hc
      exact .inl (Oper.wp_mono (fun a' W' hst => seqRun_ok hE l hst h1 hq) h2)
    · rw [if_neg (by rw [hw]; simp)]
      exact seqRun_ok hE l (h'.skip o.dst) hc hq

theorem stays_id : ∀ {ims oms : List OM} {j i : Nat} {x : Option Nat}, sigma (stays j ims oms) i = some x → x = some i
  | [], oms, j, i, x, h => by simp [stays, sigma] at h
  | im :: ims, [], j, i, x, h => by simp [stays, sigma] at h
  | im :: ims, om :: oms, j, i, x, h => by
    have key : sigma ((j, some j) :: stays (j + 1) ims oms) i = some x → x = some i := by
      intro h
      simp only [sigma] at h
      cases hb : Nat.beq j i with
      | true => rw [hb] at h; have := beqN hb; subst this; simpa using h.symm
      | false => rw [hb] at h; exact stays_id (by simpa using h)
    cases om <;> simp only [stays] at h <;> first | exact key h | exact stays_id h
theorem stays_inj (ims oms : List OM) (j : Nat) : SInj (stays j ims oms) := by
  intro a b n h1 h2
  have e1 := stays_id h1
  have e2 := stays_id h2
  simp at e1 e2
  rw [← e1, ← e2]
theorem putRegs_len : ∀ (rs : List (Nat × RM)) (l ds : List D), (putRegs l rs ds).length = l.length
  | [], l, ds => by cases ds <;> rfl
  | (r, c) :: rs, l, [] => rfl
  | (r, c) :: rs, l, d :: ds => by simp [putRegs, putRegs_len rs, putL_len]
theorem putRegs_rv {M : Mem} {β : Places} {f : Nat → Value} : ∀ (rs : List (Nat × RM)) (l ds : List D), (∀ t, RV M β (regsOf l t) (f t)) → RVt M β ds (rs.map fun r => f r.1) → ∀ t, RV M β (regsOf (putRegs l rs ds) t) (f t)
  | [], l, ds, h, hd, t => by cases ds <;> exact h t
  | (r, c) :: rs, l, [], h, hd, t => h t
  | (r, c) :: rs, l, d :: ds, h, hd, t => by
    refine putRegs_rv rs (putL l r d) ds (fun i => ?_) hd.2 t
    rw [regsOf_putL]
    split
    · rename_i he; rw [← he.1]; exact hd.1
    · exact h i
theorem regVals_rvt {M : Mem} {β : Places} {regs : Nat → D} {f : Nat → Value} (h : ∀ t, RV M β (regs t) (f t)) : ∀ (rs : List (Nat × RM)), RVt M β (regVals regs rs) (rs.map fun r => f r.1)
  | [] => trivial
  | (r, c) :: rs => ⟨h r, regVals_rvt h rs⟩
theorem pack_same {look : Look} {β : Places} {free : Nat → Prop} {regs : Regs} {a : Act} {W : World} (h : Rel P G C β free N regs look a W) {sh : Shape} {ds : List D} {vs : List Value} {pk : Pk} (hinj : SInj σ0) (hp : packShape P true E look σ0 sh ds = some pk) (hv : RVt (memOf P C β look W) β ds vs) :
    ∃ β', (∀ j n, sigma σ0 j = some (some n) → β' j = β n) ∧ (∀ p, sh.objs[p]? = some .gone → β' p = none) ∧
      RVt (memOf P C β' (lookOf P sh.objs pk.as (unRs P id pk.as (regRMs sh) 0).2) W) β' (unRs P id pk.as (regRMs sh) 0).1 vs ∧
      ∀ {N' : Nat} {regs' : Regs} {a' : Act}, a'.defers = [] → a'.tmps.size = N' → (∀ t, RV (memOf P C β' (lookOf P sh.objs pk.as (unRs P id pk.as (regRMs sh) 0).2) W) β' (regs' t) (a'.tmps.getD t Go.undef)) → (∀ t, N' ≤ t → regs' t = .undef) →
        Rel P G C β' (fun j => sh.objs.length ≤ j) N' regs' (lookOf P sh.objs pk.as (unRs P id pk.as (regRMs sh) 0).2) a' W := by
  obtain ⟨k0, p⟩ := packShape_spec hp
  have hi := p.inj hinj
  have bd := betaOf_bind (P := P) (β := β) p.bound
  have ov : Over P C C β look (lookOf P sh.objs pk.as k0.as.length) W true pk.σ pk.frz := Over.same h
  have tr := over_tr h p.bound p.gones p.apart p.objs p.frz ov
  obtain ⟨l, hl⟩ := (packObjs_le _ p.objs).1.as
  have hvs := packTops_vs (as := pk.as) (off := 0) (nm := id) (F := pk.frz) (σf := pk.σ) h.objs tr bd (H := pk.held) (st := true) (E := E) (fun f caps ps rs g l' v ht => by cases ht) (regRMs sh) p.tops hv (fun j x hx => (packObjs_le _ p.objs).1.σ j x hx) (fun n hn => (packObjs_le _ p.objs).1.frz n hn) (fun n hn => (packObjs_le _ p.objs).1.held n hn) (fun i hi => by
        rw [Nat.zero_add, hl]
        simp only [aAt, List.getD, List.getElem?_append_left hi])
  simp only [List.length_nil, Nat.add_zero, Nat.zero_add] at hvs
  obtain ⟨v1, v2⟩ := hvs
  have v2' : (unRs P id pk.as (regRMs sh) 0).2 = k0.as.length := v2
  rw [v2']
  exact ⟨betaOf P β pk.σ sh.objs, fun j n hs => by simp only [betaOf, p.sub j _ hs], betaOf_gone p.gones, v1, fun h1 h2 h3 h4 => Rel.over h hi p.bound p.gones p.apart p.objs p.frz ov h1 h2 h3 h4⟩
theorem St.pack {st : Store} {a : Act} {W : World} (h : St P G C σ0 β0 N st a W) (hσ : ∀ j x, sigma σ0 j = some x → x = some j) {sh : Shape} {pk : Pk} (hp : packShape P true E (lookL st.objs) σ0 sh (regVals (regsOf st.regs) sh.regs) = some pk) :
    St P G C σ0 β0 N (initSt P N sh pk.as) a W := by
  obtain ⟨hl, β, hk, hr⟩ := h
  have hinj : SInj σ0 := fun i j n h1 h2 => by
    have e1 := hσ _ _ h1
    have e2 := hσ _ _ h2
    simp at e1 e2
    rw [← e1, ← e2]
  obtain ⟨β', h1, _, h2, h3⟩ := pack_same hr hinj hp (regVals_rvt (f := fun t => a.tmps.getD t Go.undef) hr.vals sh.regs)
  refine ⟨by simp [initSt, putRegs_len], β', fun j pl hs hb => ?_, ?_⟩
  · rw [h1 j j hs]; exact hk j pl hs hb
  · refine h3 hr.defers hr.size ?_ (fun t ht => ?_)
    · refine putRegs_rv sh.regs _ _ (fun t => ?_) h2
      have : regsOf (List.replicate N .undef) t = .undef := by
        unfold regsOf
        rw [List.getD, List.getElem?_replicate]
        split <;> rfl
      rw [this]; trivial
    · unfold regsOf
      rw [List.getD, List.getElem?_eq_none (by simp [initSt, putRegs_len]; exact ht)]
      rfl
end
end Go.Proofs.YtbejhhoakeapgaaVM
namespace Go.Proofs.YtbejhhoakeapgaaVM
open Go Go.RowKit
set_option linter.unusedVariables false
set_option linter.unusedSimpArgs false

def ecode : Exit → Option Nat
  | .normal => some 0
  | .ret => some 1
  | .exit id => some (id + 2)
  | _ => none
def DrawOk (P : Program) : Prop := ∀ {G : Globs} {C : Ctx} {σ0 : List (Nat × Option Nat)} {β0 : Places} {N : Nat} {E : Env} {Q : Exit → Act → World → Prop} {id : Nat} {ops : Array Oper} {st : Store} {a : Act} {W : World} {R : Type} {k : Store → Option R} {x : R},
  EnvOk P G E → St P G C σ0 β0 N st a W → drawRun P E ops.toList ops.toList st [] (fun tr st' => bif regionOk ops.toList tr && noSelectB ops.toList then k st' else none) = some x →
  (∀ st' a' W', St P G C σ0 β0 N st' a' W' → k st' = some x → Q .normal a' W') → (Code.region id ops true).wp P Q a W
def CutOk (P : Program) (G : Globs) (σ0 : List (Nat × Option Nat)) (N : Nat) (c : Code) (ct : Cut) (F : List A → Option (Nat × List A)) : Prop :=
  ∀ C β0 as n o a W, F as = some (n, o) → St P G C σ0 β0 N (initSt P N ct.head as) a W →
    c.wp P (fun e a' W' => ecode e = some n ∧ ∃ sh, exitShape ct.exits n = some sh ∧ St P G C σ0 β0 N (initSt P N sh o) a' W') a W
theorem subCode_snoc : ∀ (p : List Bool) (c d : Code) (b : Bool), subCode c p = some d → subCode c (p ++ [b]) = subCode d [b]
  | [], c, d, b, h => by simp [subCode] at h; subst h; rfl
  | x :: p, c, d, b, h => by
    cases c <;> cases x <;> simp only [subCode, List.cons_append] at h ⊢ <;> first
      | exact subCode_snoc p _ d b h
      | cases h
theorem exitsTo_spec {P : Program} {R : Type} {nt : Nat} {o : List A} {e : Nat} {k : Nat → Store → Option R} {x : R} : ∀ {l : List (Nat × Shape)} {sh : Shape}, exitsTo P nt o e k l = some x → exitShape l e = some sh → k e (initSt P nt sh o) = some x
  | [], sh, h, hs => by simp [exitsTo] at h
  | (c, s) :: l, sh, h, hs => by
    simp only [exitsTo, exitShape] at h hs
    cases hb : Nat.beq e c with
    | true =>
      rw [hb] at h hs
      have := beqN hb; subst this
      simp only [cond_true, Option.some.injEq] at h hs
      subst hs
      exact h
    | false => rw [hb] at h hs; exact exitsTo_spec (by simpa using h) (by simpa using hs)

section
variable {P : Program} {G : Globs} {C : Ctx} {σ0 : List (Nat × Option Nat)} {β0 : Places} {N : Nat} {E : Env}
theorem cutRun_ok {c : Code} {ct : Cut} {p : List Bool} {st : Store} {a : Act} {W : World} {R : Type} {k : Nat → Store → Option R} {x : R} {Q : Exit → Act → World → Prop} (hσ : ∀ j x, sigma σ0 j = some x → x = some j) (hE0 : E.σ0 = σ0) (hc : CutOk P G σ0 N c ct (E.loop p)) (h : St P G C σ0 β0 N st a W) (hr : cutRun P E p ct st k = some x)
    (hq : ∀ e n st' a' W', ecode e = some n → St P G C σ0 β0 N st' a' W' → k n st' = some x → Q e a' W') : c.wp P Q a W := by
  unfold cutRun at hr
  split at hr
  case h_2 => cases hr
  case h_1 pk hp =>
    cases hl : E.loop p pk.as with
    | none => rw [hl] at hr; cases hr
    | some r =>
      rw [hl] at hr
      simp only [Option.bind_some] at hr
      rw [hE0] at hp
      have h1 := h.pack hσ hp
      obtain ⟨n, o⟩ := r
      refine wp_mono (hc C β0 pk.as n o a W hl h1) ?_
      rintro e a' W' ⟨h2, sh, h3, h4⟩
      rw [h.1] at hr
      exact hq e n _ a' W' h2 h4 (exitsTo_spec hr h3)
theorem arun_ok (hE : EnvOk P G E) (hd : DrawOk P) (hσ : ∀ j x, sigma σ0 j = some x → x = some j) (hE0 : E.σ0 = σ0) {body : Code} (hcut : ∀ p ct c, cutAt E.cuts p = some ct → subCode body p.reverse = some c → CutOk P G σ0 N c ct (E.loop p)) {R : Type} {x : R} :
    ∀ (c : Code) {p : List Bool} {st : Store} {a : Act} {W : World} {k : Nat → Store → Option R} {Q : Exit → Act → World → Prop}, subCode body p.reverse = some c → St P G C σ0 β0 N st a W → arun P E c p st k = some x →
    (∀ e n st' a' W', ecode e = some n → St P G C σ0 β0 N st' a' W' → k n st' = some x → Q e a' W') → c.wp P Q a W
  | .skip, p, st, a, W, k, Q, hs, h, hr, hq => by simp only [arun] at hr; exact wp_skip (hq _ 0 st a W rfl h hr)
  | .label _, p, st, a, W, k, Q, hs, h, hr, hq => by simp only [arun] at hr; exact wp_label (hq _ 0 st a W rfl h hr)
  | .region id ops draw, p, st, a, W, k, Q, hs, h, hr, hq => by
    simp only [arun] at hr
    cases draw with
    | true =>
      simp only [cond_true] at hr
      obtain ⟨hp, hr⟩ := bif_some hr
      rw [Bool.and_eq_true] at hp
      have e : (fun tr st' => bif regionTr ops.toList tr then k 0 st' else none) = fun tr st' => bif regionOk ops.toList tr && noSelectB ops.toList then k 0 st' else none := by
        funext tr st'
        rw [regionOk, hp.1, hp.2, Bool.and_true, Bool.true_and, regionTr]
      rw [e] at hr
      exact hd hE h hr (fun st' a' W' h1 h2 => hq _ 0 st' a' W' rfl h1 h2)
    | false =>
      simp only [cond_false] at hr
      refine wp_region_list ?_
      have := seqRun_ok (Q := Q) hE ops.toList h hr (fun st' a' W' h1 h2 => hq _ 0 st' a' W' rfl h1 h2)
      simpa using this
  | .seq c1 c2, p, st, a, W, k, Q, hs, h, hr, hq => by
    simp only [arun] at hr
    have s1 : subCode body (false :: p).reverse = some c1 := by rw [List.reverse_cons, subCode_snoc _ _ _ _ hs]; simp [subCode]
    have s2 : subCode body (true :: p).reverse = some c2 := by rw [List.reverse_cons, subCode_snoc _ _ _ _ hs]; simp [subCode]
    refine wp_seq (arun_ok hE hd hσ hE0 hcut c1 s1 h hr (fun e n st' a' W' h1 h2 h3 => ?_))
    cases e <;> simp only [ecode, Option.some.injEq, reduceCtorEq] at h1 <;> subst h1
    case normal => exact arun_ok hE hd hσ hE0 hcut c2 s2 h2 (by simpa using h3) hq
    case exit id => exact hq _ (id + 2) st' a' W' rfl h2 h3
    case ret => exact hq _ 1 st' a' W' rfl h2 h3
  | .cond o c1 c2, p, st, a, W, k, Q, hs, h, hr, hq => by
    simp only [arun] at hr
    split at hr
    case h_2 => cases hr
    case h_1 t ht =>
      have s1 : subCode body (false :: p).reverse = some c1 := by rw [List.reverse_cons, subCode_snoc _ _ _ _ hs]; simp [subCode]
      have s2 : subCode body (true :: p).reverse = some c2 := by rw [List.reverse_cons, subCode_snoc _ _ _ _ hs]; simp [subCode]
      have hev : a.eval o = .bool t := by
        obtain ⟨_, β, _, hrel⟩ := h
        rw [hE.glob] at ht
        exact ev_bool hrel ht
      have hlit : St P G C σ0 β0 N (st.lit o t) a W := by
        cases o <;> first
          | exact h
          | exact h.lit (by simpa [evalD] using ht)
      cases t with
      | true =>
        simp only [cond_true] at hr
        exact wp_cond hev (arun_ok hE hd hσ hE0 hcut c1 s1 hlit hr hq)
      | false =>
        simp only [cond_false] at hr
        exact wp_cond hev (arun_ok hE hd hσ hE0 hcut c2 s2 hlit hr hq)
  | .block id c1, p, st, a, W, k, Q, hs, h, hr, hq => by
    simp only [arun] at hr
    split at hr
    case h_1 ct hct => exact cutRun_ok hσ hE0 (hcut p ct _ hct hs) h hr hq
    case h_2 =>
      have s1 : subCode body (false :: p).reverse = some c1 := by rw [List.reverse_cons, subCode_snoc _ _ _ _ hs]; simp [subCode]
      refine wp_block (arun_ok hE hd hσ hE0 hcut c1 s1 h hr (fun e n st' a' W' h1 h2 h3 => ?_))
      cases e <;> simp only [ecode, Option.some.injEq, reduceCtorEq] at h1 <;> subst h1
      case normal => exact hq _ 0 st' a' W' rfl h2 (by simpa using h3)
      case exit id' =>
        simp only [Exit.inBlock]
        by_cases he : id' = id
        · subst he
          rw [if_pos rfl]
          exact hq _ 0 st' a' W' rfl h2 (by simpa using h3)
        · rw [if_neg he]
          have hb : Nat.beq (id' + 2) (id + 2) = false := by
            cases hx : Nat.beq (id' + 2) (id + 2) with
            | false => rfl
            | true => have := beqN hx; omega
          rw [hb] at h3
          exact hq _ (id' + 2) st' a' W' rfl h2 h3
      case ret =>
        have hb : Nat.beq 1 (id + 2) = false := by
          cases hx : Nat.beq 1 (id + 2) with
          | false => rfl
          | true => have := beqN hx; omega
        rw [hb] at h3
        exact hq _ 1 st' a' W' rfl h2 h3
  | .loop c1, p, st, a, W, k, Q, hs, h, hr, hq => by
    simp only [arun] at hr
    split at hr
    case h_1 ct hct => exact cutRun_ok hσ hE0 (hcut p ct _ hct hs) h hr hq
    case h_2 => cases hr
  | .scope c1, p, st, a, W, k, Q, hs, h, hr, hq => by
    simp only [arun] at hr
    have s1 : subCode body (false :: p).reverse = some c1 := by rw [List.reverse_cons, subCode_snoc _ _ _ _ hs]; simp [subCode]
    refine wp_scope_straight (arun_ok hE hd hσ hE0 hcut c1 s1 h hr (fun e n st' a' W' h1 h2 h3 => ?_))
    cases e <;> simp only [ecode, Option.some.injEq, reduceCtorEq] at h1 <;> subst h1
    case normal => exact hq _ 0 st' a' W' rfl h2 h3
    case exit id => exact hq _ (id + 2) st' a' W' rfl h2 h3
    case ret => exact hq _ 1 st' a' W' rfl h2 h3
  | .exit id, p, st, a, W, k, Q, hs, h, hr, hq => by simp only [arun] at hr; exact wp_exit (hq _ (id + 2) st a W rfl h hr)
  | .ret, p, st, a, W, k, Q, hs, h, hr, hq => by simp only [arun] at hr; exact wp_ret (hq _ 1 st a W rfl h hr)
  | .goto _, p, st, a, W, k, Q, hs, h, hr, hq => by simp [arun] at hr
  | .rangeFunc _ _ _ _, p, st, a, W, k, Q, hs, h, hr, hq => by simp [arun] at hr
  | .refuse _, p, st, a, W, k, Q, hs, h, hr, hq => by simp [arun] at hr

def oneRes (a : Act) : ResultVar → Sem Value
  | .tmp t => pure (a.tmps.getD t Go.undef)
  | .cell x t => do loadVar t (← asAddr (a.tmps.getD x Go.undef))
theorem resVal_run {β : Places} {free : Nat → Prop} {regs : Regs} {look : Look} {a : Act} {W : World} (h : Rel P G C β free N regs look a W) {r : ResultVar} {d : D} (hr : resVal regs look r = some d) :
    ∃ v, (oneRes a r).run P W = .ok v W ∧ RV (memOf P C β look W) β d v := by
  cases r with
  | tmp t =>
    simp only [resVal, Option.some.injEq] at hr
    subst hr
    exact ⟨_, rfl, h.vals t⟩
  | cell x τ =>
    simp only [resVal] at hr
    split at hr
    case h_2 => cases hr
    case h_1 n τ' hx =>
      split at hr
      case h_2 => cases hr
      case h_1 τ'' d' ro hl =>
        have hb := (bif_some hr).1
        replace hr := (bif_some hr).2
        cases hr
        simp only [Bool.and_eq_true] at hb
        have := beqN hb.1; subst this
        have := beqN hb.2; subst this
        have hv := h.vals x
        rw [hx] at hv
        obtain ⟨pl, off, h1, h2, h3, h4⟩ := RV_out hv rfl
        injection h1 with h1 _
        simp only [poff, Option.some.injEq] at h4
        subst h4
        obtain ⟨pl', h5, h6, c, el, fr, h7, _, h8, h9, h10⟩ := h.objs n _ hl
        rw [h2] at h5; cases h5
        obtain ⟨v, h11, h12⟩ := run_loadVar_at (P := P) (o := 0) h7 h8 (by omega)
        refine ⟨v, ?_, ?_⟩
        · simp only [oneRes, h1, asAddr, Sem.run_bind]
          exact h11
        · refine RV_of (cs := c.toList) h9 (VF_of (fits_scalar h10) ?_)
          have : (c.toList.drop 0).take c.size = c.toList := by rw [List.drop_zero]; exact List.take_of_length_le (by simp)
          rw [this] at h12
          exact h12
theorem resVals_run {β : Places} {free : Nat → Prop} {regs : Regs} {look : Look} {a : Act} {W : World} (h : Rel P G C β free N regs look a W) : ∀ {l : List ResultVar} {ds : List D}, resVals regs look l = some ds →
    ∃ us, (l.mapM (oneRes a)).run P W = .ok us W ∧ RVt (memOf P C β look W) β ds us
  | [], ds, hr => by simp only [resVals, Option.some.injEq] at hr; subst hr; exact ⟨[], rfl, trivial⟩
  | r :: l, ds, hr => by
    simp only [resVals] at hr
    split at hr
    case h_2 => cases hr
    case h_1 d ds' h1 h2 =>
      cases hr
      obtain ⟨v, h3, h4⟩ := resVal_run h h1
      obtain ⟨us, h5, h6⟩ := resVals_run h h2
      refine ⟨v :: us, ?_, h4, h6⟩
      rw [List.mapM_cons]
      simp only [Sem.run_bind, h3, Result.andThen_ok, h5]
      rfl
theorem results_run {β : Places} {free : Nat → Prop} {regs : Regs} {look : Look} {a : Act} {W : World} (h : Rel P G C β free N regs look a W) {fn : Func} {ds : List D} (hr : resVals regs look fn.results.toList = some ds) :
    ∃ us, (results fn a.tmps).run P W = .ok (retVal us) W ∧ RVt (memOf P C β look W) β ds us := by
  obtain ⟨us, h1, h2⟩ := resVals_run h hr
  refine ⟨us, ?_, h2⟩
  have h3 : (fn.results.mapM (oneRes a)).run P W = .ok us.toArray W := by
    rw [Array.mapM_eq_mapM_toList, Sem.run_map, h1]
    rfl
  unfold results
  simp only [Sem.run_bind]
  have h4 : ∀ {f g : ResultVar → Sem Value}, f = g → (fn.results.mapM f).run P W = (fn.results.mapM g).run P W := fun e => by rw [e]
  rw [h4 (g := oneRes a) (by funext r; cases r <;> rfl), h3]
  match us with
  | [] => rfl
  | [v] => rfl
  | v :: v' :: us => simp [retVal, Result.andThen_ok]
end
end Go.Proofs.YtbejhhoakeapgaaVM
