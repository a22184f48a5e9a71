/- An abstract machine for Go's code, proved right: part 2 of 7. -/
import Derived.Test.YtpfglhjgjfhkjaaDoorVmA
import Derived.Laws.BytesString
import Derived.Laws.IdiomStrings
/- Operations: what makes new things, and what is reckoned. -/
namespace Go.Proofs.YtpfglhjgjfhkjaaDoorVM
open Go Go.RowKit
set_option linter.unusedVariables false
set_option linter.unusedSimpArgs false

section
variable {M : Mem} {β : Places}
theorem bytes_empty {s : ByteArray} (h : s.size = 0) : s = ByteArray.empty := by
  cases s with
  | mk d =>
    have : d = #[] := Array.eq_empty_of_size_eq_zero h
    subst this; rfl
theorem cellOk_rep {d : D} {c : Value} (h : cellOk d c = true) : RC M β d [c] ∧ scalar d = true := by
  unfold cellOk at h
  split at h
  case h_1 k n k' m => simp at h; obtain ⟨rfl, rfl⟩ := h; exact ⟨by simp [RC], rfl⟩
  case h_2 b c' => simp at h; subst h; exact ⟨by simp [RC], rfl⟩
  case h_3 s s' =>
    simp only [Bool.and_eq_true] at h
    have h1 := bytes_empty (beqN h.1)
    have h2 := bytes_empty (beqN h.2)
    subst h1; subst h2
    exact ⟨by simp [RC], rfl⟩
  case h_4 => exact ⟨by simp [RC], rfl⟩
  case h_5 => exact ⟨by simp [RC], rfl⟩
  case h_6 => exact ⟨by simp [RC], rfl⟩
  case h_7 => exact ⟨by simp [RC], rfl⟩
  case h_8 => cases h
theorem zero_rep : ∀ (n : Nat), (∀ (τ : TypeId) (cs : List Value) (d : D), zeroOk M.P n τ cs = true → zeroD M.P n τ = some d → ∀ s, csz M.P τ = some s → RC M β d cs ∧ fits M.P τ d = true) ∧
    (∀ (fs : List (TypeId × Nat)) (cs : List Value) (ds : List D), zeroOks M.P n fs cs = true → zeroDs M.P n fs = some ds → (∀ f, f ∈ fs → csz M.P f.1 = some f.2) → RCs M β fs ds cs)
  | 0 => ⟨fun τ cs d h => by simp [zeroOk] at h, fun fs cs ds h h2 _ => by
      cases fs with
      | nil => simp [zeroOks] at h; simp [zeroDs] at h2; subst h; subst h2; rfl
      | cons => simp [zeroOks] at h⟩
  | n + 1 => by
    obtain ⟨ih1, ih2⟩ := zero_rep n
    refine ⟨fun τ cs d h hd s hs => ?_, fun fs cs ds h hd hfs => ?_⟩
    · have scal : ∀ (d' : D), oneOk cs (zeroD M.P 1 τ) = true → zeroD M.P 1 τ = some d' → d = d' → isAggB M.P τ = false → RC M β d cs ∧ fits M.P τ d = true := by
        intro d' h1 h2 h3 h4
        subst h3
        rw [h2] at h1
        unfold oneOk at h1
        split at h1
        case h_1 c d'' he =>
          cases he
          obtain ⟨h5, h6⟩ := cellOk_rep (M := M) (β := β) h1
          refine ⟨h5, ?_⟩
          cases d <;> simp [scalar] at h6 <;> simp [fits, h4, hs]
        case h_2 => cases h1
      cases hu : M.P.underlying τ with
      | none => simp [zeroD, hu] at hd
      | some td =>
        cases td <;> simp only [zeroD, hu] at hd <;> simp only [zeroOk, hu] at h
        case int k => exact scal _ h (by simp [zeroD, hu]) (Option.some.inj hd).symm (by simp [isAggB, hu])
        case bool => exact scal _ h (by simp [zeroD, hu]) (Option.some.inj hd).symm (by simp [isAggB, hu])
        case string => exact scal _ h (by simp [zeroD, hu]) (Option.some.inj hd).symm (by simp [isAggB, hu])
        case slice e => exact scal _ h (by simp [zeroD, hu]) (Option.some.inj hd).symm (by simp [isAggB, hu])
        case pointer e => exact scal _ h (by simp [zeroD, hu]) (Option.some.inj hd).symm (by simp [isAggB, hu])
        case map k e => exact scal _ h (by simp [zeroD, hu]) (Option.some.inj hd).symm (by simp [isAggB, hu])
        case func ps rs va => exact scal _ h (by simp [zeroD, hu]) (Option.some.inj hd).symm (by simp [isAggB, hu])
        case struct F =>
          split at hd
          case h_1 fs hfs =>
            split at hd
            case h_1 ds hds =>
              cases hd
              simp only [hfs] at h
              obtain ⟨g1, g2, F', hF', hff⟩ := fieldsOf_agg hfs
              have hcs : ∀ f, f ∈ fs → csz M.P f.1 = some f.2 := fun f hf => by
                obtain ⟨i, hi⟩ := List.mem_iff_getElem?.1 hf
                obtain ⟨_, _, _, _, h5, _⟩ := fieldsFrom_spec _ _ _ hff i f hi
                exact h5
              have h3 := ih2 fs cs ds h hds hcs
              exact ⟨⟨g1, by rw [(RCs.length h3).1]; exact g2, fs, hfs, h3⟩, by simp [fits, g1]⟩
            case h_2 => cases hd
          case h_2 => cases hd
        case array m e =>
          split at hd
          case h_1 q d1 harr hd1 =>
            split at hd
            case h_1 t f hpk =>
              cases hd
              obtain ⟨N', e', z⟩ := q
              obtain ⟨g1, g2, g3, g4, hF⟩ := arrOf_agg harr
              rw [hu] at hF
              cases hF
              simp only [harr, Bool.and_eq_true, List.all_eq_true, List.mem_range] at h
              have hl := beqN h.1
              refine ⟨⟨.arr harr hl (fun i hi => ?_), g1, by rw [hl]; exact g2⟩, by simp [fits, g1]⟩
              have hget : (T.node (List.replicate m t)).get i = t := by simp [T.get, T.kids, List.getD, hi]
              rw [hget]
              have h5 := (ih1 e _ d1 (h.2 i hi) hd1 z g3).1
              have hf := packT_none hpk
              subst hf
              exact packT_rep (look := fun _ => none) (fun n o hn => by cases hn) (fun b hb => hb) hpk h5 (fun n hn => by simp at hn)
            case h_2 => cases hd
          case h_2 => cases hd
        all_goals cases hd
    · cases fs with
      | nil => simp [zeroOks] at h; simp [zeroDs] at hd; subst h; subst hd; rfl
      | cons f fs =>
        obtain ⟨τ, s⟩ := f
        simp only [zeroDs] at hd
        simp only [zeroOks, Bool.and_eq_true] at h
        split at hd
        case h_1 d1 ds1 e1 e2 =>
          cases hd
          have hs := hfs (τ, s) (by simp)
          obtain ⟨h3, h4⟩ := ih1 τ _ d1 h.1.2 e1 s hs
          have hlen : (cs.take s).length = s := by have := Nat.le_of_ble_eq_true h.1.1; rw [List.length_take]; omega
          exact ⟨cs.take s, cs.drop s, (List.take_append_drop s cs).symm, hlen, h3, h4, ih2 fs _ ds1 h.2 e2 (fun f hf => hfs f (List.mem_cons_of_mem _ hf))⟩
        case h_2 => cases hd
theorem zeroVal_rep {τ : TypeId} {d : D} (h : zeroVal M.P τ = some d) : ∃ i z, M.P.info? τ = some i ∧ i.zero = some z ∧ (∀ s, csz M.P τ = some s → RC M β d z.cells.toList ∧ fits M.P τ d = true) := by
  unfold zeroVal at h
  split at h
  case h_1 i hi =>
    split at h
    case h_1 z hz =>
      have hb := (bif_some h).1
      replace h := (bif_some h).2
      exact ⟨i, z, hi, hz, fun s hs => (zero_rep 40).1 τ _ d hb h s hs⟩
    case h_2 => cases h
  case h_2 => cases h
theorem fits_csz {P : Program} {τ : TypeId} {d : D} (h : fits P τ d = true) (hr : ∃ (M : Mem) (β : Places) (cs : List Value), M.P = P ∧ RC M β d cs) : ∃ s, csz P τ = some s := by
  obtain ⟨M, β, cs, rfl, hc⟩ := hr
  exact ⟨_, fits_length hc h⟩
end

section
variable {P : Program} {G : Globs} {C : Ctx} {β : Places} {free : Nat → Prop} {N : Nat} {regs : Regs} {look : Look} {a : Act} {W : World} {nm : Nat} {Q : Exit → Act → World → Prop}
theorem Wr.alloc (W : World) (o : Obj) : Wr (fun _ => False) W (W.alloc o) := ⟨rfl, rfl, rfl, by simp, fun k hk _ => Below.heap_alloc _ _ _ hk⟩
theorem Wr.drew (W : World) : Wr (fun _ => False) W W.drew := ⟨rfl, rfl, rfl, Nat.le_refl _, fun _ _ _ => rfl⟩
theorem heap_alloc_last (W : World) (o : Obj) : (W.alloc o).heap[W.heap.size]? = some o := by show (W.heap.push o)[W.heap.size]? = some o; simp
/-- A new variable. -/
theorem nxt_var (h : Rel P G C β free N regs look a W) (hfr : free nm) {τ : TypeId} {d : D} {dst : Option Tmp} {v : Value} (hf : fits P τ d = true) (hc : RC (memOf P C β look W) β d v.cells.toList) :
    Nxt P G C β free N regs look dst nm { d := .ptr nm τ [], upd := [(nm, some (.var τ d false))], touch := [nm], fresh := 1 } (a.put dst (.pointer (some ⟨W.heap.size, 0, none⟩))) (W.alloc (.cells v.cells τ)) := by
  have hβ := h.free nm hfr
  have hz := fits_length hc hf
  refine nxt_new h hfr (frz := []) (Wr.alloc W _) (pl := { b := W.heap.size }) rfl (.inr (Nat.le_refl _)) (fun hle => ?_) (fun hle => ?_)
  · exact ⟨rfl, v.cells, τ, (0, 0), heap_alloc_last W _, fun o _ hx => by have := hx.2; omega, by rw [show v.cells.size = v.cells.toList.length by simp]; exact hz, RC.le hle (Sub.setP hβ) hc, hf⟩
  · exact RV_scalar ⟨{ b := W.heap.size }, 0, rfl, by simp [setP], rfl, rfl⟩ rfl
theorem run_newVar (t : TypeId) (v : Value) : (newVar t v).run P W = .ok ⟨W.heap.size, 0, none⟩ (W.alloc (.cells v.cells t)) := rfl
theorem opv_box (h : Rel P G C β free N regs look a W) (hfr : free nm) {o : Oper} {τ : TypeId} {x : Operand} (ho : o.op = .box τ x) (hf : fits P τ (evalD G regs x) = true) :
    o.wp P a W (Nxt P G C β free N regs look o.dst nm { d := .ptr nm τ [], upd := [(nm, some (.var τ (evalD G regs x) false))], touch := [nm], fresh := 1 }) Q := by
  refine wp_value (v := .pointer (some ⟨W.heap.size, 0, none⟩)) (W' := W.alloc (.cells (a.eval x).cells τ)) ?_ (nxt_var h hfr hf (RV_cells (rv_eval h x) hf))
  simp only [execOp, ho, Instr.box, Sem.run_bind, run_newVar]; rfl
theorem opv_alloc (h : Rel P G C β free N regs look a W) (hfr : free nm) {o : Oper} {τ : TypeId} (ho : o.op = .alloc τ) {d : D} (hd : zeroVal P τ = some d) (hf : fits P τ d = true) :
    o.wp P a W (Nxt P G C β free N regs look o.dst nm { d := .ptr nm τ [], upd := [(nm, some (.var τ d false))], touch := [nm], fresh := 1 }) Q := by
  obtain ⟨i, z, h1, h2, h3⟩ := zeroVal_rep (M := memOf P C β look W) (β := β) hd
  have hz : ∃ s, csz P τ = some s := by
    cases hs : scalar d with
    | true =>
      have h1 : (!isAggB P τ && (csz P τ).isSome) = true := by
        cases d <;> simp [scalar] at hs <;> exact hf
      simp only [Bool.and_eq_true] at h1
      exact Option.isSome_iff_exists.1 h1.2
    | false =>
      have h4 : isAggB P τ = true := by have := fits_scalar hf; rw [hs] at this; simpa using this.symm
      unfold isAggB at h4
      change P.info? τ = some i at h1
      unfold csz
      rw [h1]
      split at h4
      · rename_i hu; rw [hu]; simp [isAggB, hu]
      · rename_i hu; rw [hu]; simp [isAggB, hu]
      · cases h4
  obtain ⟨s, hs⟩ := hz
  have hrun : (zeroValue τ).run P W = .ok z W := by
    change P.info? τ = some i at h1
    simp [zeroValue, typeInfo, h1, h2]
  refine wp_value (v := .pointer (some ⟨W.heap.size, 0, none⟩)) (W' := W.alloc (.cells z.cells τ)) ?_ (nxt_var h hfr hf (h3 s hs).1)
  simp only [execOp, ho, Instr.alloc, Sem.run_bind, hrun, Result.andThen_ok, run_newVar]; rfl
theorem opv_makeMap (h : Rel P G C β free N regs look a W) (hfr : free nm) {o : Oper} {t k v : TypeId} (ho : o.op = .makeMap t none) :
    o.wp P a W (Nxt P G C β free N regs look o.dst nm { d := .map nm, upd := [(nm, some (.map k v []))], touch := [nm], fresh := 1 }) Q := by
  refine wp_value (v := .map (some W.heap.size)) (W' := W.alloc (.map #[] 0)) ?_ ?_
  · simp only [execOp, ho, Sem.run_bind, Instr.makeMap]; rfl
  · refine nxt_new h hfr (frz := []) (Wr.alloc W _) (pl := { b := W.heap.size }) rfl (.inr (Nat.le_refl _)) (fun hle => ?_) (fun hle => ?_)
    · exact ⟨rfl, #[], 0, heap_alloc_last W _, trivial⟩
    · exact RV_scalar ⟨{ b := W.heap.size }, by simp [setP], rfl, rfl⟩ rfl

/-! ### what is reckoned -/
theorem opv_len (h : Rel P G C β free N regs look a W) {x : Operand} {r : OR} {u : OpOut} (hr : lenD look (evalD G regs x) = some r) (hu : r.get = some u) :
    ∃ n : Int, u.d = .int .i64 n ∧ u.upd = [] ∧ u.fresh = 0 ∧ ((∃ s, a.eval x = .string s ∧ n = s.size) ∨ (∃ ad len cap, a.eval x = .slice ad len cap ∧ n = len) ∨ (a.eval x = .map none ∧ n = 0) ∨
      (∃ b ms cl, a.eval x = .map (some b) ∧ W.heap[b]? = some (.map ms cl) ∧ n = ms.size)) := by
  generalize hx : evalD G regs x = dx at hr
  unfold lenD at hr
  split at hr
  case h_1 s => cases hr; cases done_get hu; exact ⟨_, rfl, rfl, rfl, .inl ⟨s, ev_str h hx, rfl⟩⟩
  case h_2 xs e cl =>
    cases hr; cases done_get hu
    obtain ⟨ad, cap, h1, _⟩ := ev_scalar h hx rfl
    injection h1 with h1 _
    exact ⟨_, rfl, rfl, rfl, .inr (.inl ⟨ad, _, cap, h1, rfl⟩)⟩
  case h_3 n =>
    split at hr
    case h_1 e xs hl =>
      cases hr; cases done_get hu
      obtain ⟨pl, h1, h2⟩ := ev_scalar h hx rfl
      obtain ⟨pl', h3, h4⟩ := h.objs n _ hl
      rw [h1] at h3; cases h3
      refine ⟨_, rfl, rfl, rfl, .inr (.inl ?_)⟩
      split at h2
      case isTrue hv =>
        obtain ⟨ad, h2⟩ := h2
        injection h2 with h2 _
        have := h4.2.2.2.1 hv
        subst this
        exact ⟨ad, _, _, h2, rfl⟩
      case isFalse =>
        obtain ⟨cap, h2, _⟩ := h2
        injection h2 with h2 _
        exact ⟨_, _, _, h2, by rw [h4.1]⟩
    case h_2 => cases hr
  case h_4 n lo len =>
    cases hr; cases done_get hu
    obtain ⟨pl, h1, _, h2⟩ := ev_scalar h hx rfl
    refine ⟨_, rfl, rfl, rfl, .inr (.inl ?_)⟩
    rcases h2 with ⟨rfl, ad, h2⟩ | ⟨_, cap, h2, _⟩
    · injection h2 with h2 _; exact ⟨_, _, _, h2, rfl⟩
    · injection h2 with h2 _; exact ⟨_, _, _, h2, rfl⟩
  case h_5 => cases hr; cases done_get hu; have := ev_scalar h hx rfl; exact ⟨_, rfl, rfl, rfl, .inr (.inl ⟨none, 0, 0, by simpa [RC] using this, rfl⟩)⟩
  case h_6 =>
    cases hr; cases done_get hu
    obtain ⟨ad, h1⟩ := ev_scalar h hx rfl
    injection h1 with h1 _
    exact ⟨_, rfl, rfl, rfl, .inr (.inl ⟨ad, 0, 0, h1, rfl⟩)⟩
  case h_7 => cases hr; cases done_get hu; have := ev_scalar h hx rfl; exact ⟨_, rfl, rfl, rfl, .inr (.inr (.inl ⟨by simpa [RC] using this, rfl⟩))⟩
  case h_8 n =>
    split at hr
    case h_1 k v es hl =>
      cases hr; cases done_get hu
      obtain ⟨pl, h1, hv, h2⟩ := ev_scalar h hx rfl
      injection h2 with h2 _
      obtain ⟨pl', h3, _, ms, cl, h4, h5⟩ := h.objs n _ hl
      rw [h1] at h3; cases h3
      have hlen : ∀ {es : List T} {ms : List MapEntry}, REnts (memOf P C β look W) k v es ms → es.length = ms.length := by
        intro es
        induction es with
        | nil => intro ms h; cases ms with
          | nil => rfl
          | cons => exact h.elim
        | cons e es ih => intro ms h; cases ms with
          | nil => exact h.elim
          | cons m ms => simp [ih h.2]
      exact ⟨_, rfl, rfl, rfl, .inr (.inr (.inr ⟨pl.b, ms, cl, h2, h4, by rw [hlen h5]; simp⟩))⟩
    case h_2 => cases hr
  case h_9 => cases hr
theorem foldI_run {k : IntKind} (f : Int → Int → Int) (op : Value → Value → Sem Value) (hop : ∀ (x y : Int) (w : World), (op (.int k x) (.int k y)).run P w = .ok (.int k (f x y)) w) (h : Rel P G C β free N regs look a W) :
    ∀ (l : List Operand) (x r : Int), foldI k f x (l.map (evalD G regs)) = some r → ((l.map a.eval).foldlM op (.int k x)).run P W = .ok (.int k r) W
  | [], x, r, hr => by simp only [List.map_nil, foldI, Option.some.injEq] at hr; subst hr; rfl
  | y :: l, x, r, hr => by
    simp only [List.map_cons] at hr
    generalize hy : evalD G regs y = dy at hr
    unfold foldI at hr
    split at hr
    case h_1 hz => simp at hz
    case h_2 _ k' b l' hz =>
      simp only [List.cons.injEq] at hz
      obtain ⟨rfl, rfl⟩ := hz
      have hb := (bif_some hr).1
      replace hr := (bif_some hr).2
      have hk : k = k' := by simpa using hb
      subst hk
      simp only [List.map_cons, List.foldlM_cons, Sem.run_bind, ev_int h hy, hop, Result.andThen_ok]
      exact foldI_run f op hop h l _ r hr
    case h_3 => cases hr
theorem opv_minmax (h : Rel P G C β free N regs look a W) {f : Int → Int → Int} {op : Value → Value → Sem Value} (hop : ∀ (k : IntKind) (x y : Int) (w : World), (op (.int k x) (.int k y)).run P w = .ok (.int k (f x y)) w) {l : List Operand} {r : OR} {u : OpOut}
    (hr : minmaxD f (l.map (evalD G regs)) = some r) (hu : r.get = some u) :
    ∃ k n, u = { d := .int k n } ∧ (match l.map a.eval with | [] => stuck "" | x :: rest => rest.foldlM op x : Sem Value).run P W = .ok (.int k n) W := by
  cases l with
  | nil => simp [minmaxD] at hr
  | cons x l =>
    simp only [List.map_cons] at hr
    generalize hx : evalD G regs x = dx at hr
    unfold minmaxD at hr
    split at hr
    case h_1 k b l' hz =>
      simp only [List.cons.injEq] at hz
      obtain ⟨rfl, rfl⟩ := hz
      split at hr
      case h_1 r' hf =>
        cases hr; cases done_get hu
        refine ⟨k, r', rfl, ?_⟩
        simp only [List.map_cons, ev_int h hx]
        exact foldI_run f op (hop k) h l b r' hf
      case h_2 => cases hr
    case h_2 => cases hr
end
end Go.Proofs.YtpfglhjgjfhkjaaDoorVM
/- Operations: structs and rows that are built, conversions, slices. -/
namespace Go.Proofs.YtpfglhjgjfhkjaaDoorVM
open Go Go.RowKit
set_option linter.unusedVariables false
set_option linter.unusedSimpArgs false

theorem foldl_set (off : Nat) : ∀ (l : List Value) (k : Nat) (cs : Array Value), off + k + l.length ≤ cs.size → (l.zipIdx k).foldl (fun (cs : Array Value) (x : Value × Nat) => cs.setIfInBounds (off + x.2) x.1) cs = (splice cs.toList (off + k) l).toArray
  | [], k, cs, h => by simp [splice]
  | v :: l, k, cs, h => by
    simp only [List.zipIdx_cons, List.foldl_cons]
    rw [foldl_set off l (k + 1) (cs.setIfInBounds (off + k) v) (by simp at h ⊢; omega)]
    have hlt : off + k < cs.size := by simp at h; omega
    have := splice_cons cs.toList (off + k) v l (by simp at h; simp; omega)
    rw [← this, show off + (k + 1) = off + k + 1 by omega]
    simp [Array.setIfInBounds, hlt]
theorem fill_step {place : Nat → Option (Nat × Nat)} {i off s : Nat} {v : Value} {cells : Array Value} {rest : List (Nat × Value)} (hp : place i = some (off, s)) (hs : v.cells.size = s) (hb : off + s ≤ cells.size) :
    Instr.fill place cells ((i, v) :: rest) = Instr.fill place (splice cells.toList off v.cells.toList).toArray rest := by
  have h1 : ¬ (v.cells.size ≠ s || off + v.cells.size > cells.size) = true := by simp [hs]; omega
  have h2 := foldl_set off v.cells.toList 0 cells (by simp [hs]; omega)
  rw [Nat.add_zero] at h2
  simp only [Instr.fill, hp]
  rw [if_neg (by simpa using h1)]
  congr 1
  rw [← h2, ← Array.foldl_toList]
  simp

section
variable {M : Mem} {β : Places}
theorem fill_parts {fs : List (TypeId × Nat)} {place : Nat → Option (Nat × Nat)} (hp : ∀ (i : Nat) (f : TypeId × Nat), fs[i]? = some f → place i = some (sumSz (fs.take i), f.2)) (hz : ∀ (i : Nat) (f : TypeId × Nat), fs[i]? = some f → csz M.P f.1 = some f.2) : ∀ (parts : List (Nat × D)) (vals : List (Nat × Value)) (ds ds' : List D) (cells : Array Value),
    setParts M.P ds parts fs = some ds' → RCs M β fs ds cells.toList → vals.map (·.1) = parts.map (·.1) → (∀ (k i : Nat) (d : D) (j : Nat) (v : Value), parts[k]? = some (i, d) → vals[k]? = some (j, v) → RV M β d v) →
    ∃ cells', Instr.fill place cells vals = some cells' ∧ RCs M β fs ds' cells'.toList
  | [], vals, ds, ds', cells, h, hr, hm, hv => by
    simp [setParts] at h
    subst h
    cases vals with
    | nil => exact ⟨cells, rfl, hr⟩
    | cons => simp at hm
  | (i, d) :: parts, vals, ds, ds', cells, h, hr, hm, hv => by
    cases vals with
    | nil => simp at hm
    | cons jv vals =>
      obtain ⟨j, v⟩ := jv
      simp only [List.map_cons, List.cons.injEq] at hm
      obtain ⟨rfl, hm⟩ := hm
      simp only [setParts] at h
      split at h
      case h_1 f hf =>
        have hb := (bif_some h).1
        replace h := (bif_some h).2
        have hrv := hv 0 j d j v rfl rfl
        have hc := RV_cells hrv hb
        have hlen := fits_length hc hb
        rw [hz j f hf] at hlen
        have hl : v.cells.toList.length = f.2 := (Option.some.inj hlen).symm
        have hset := RCs.set hr hf hc hb hl
        have hbd : sumSz (fs.take j) + f.2 ≤ cells.size := by
          have hi : j < ds.length := by rw [(RCs.length hr).2]; exact (List.getElem?_eq_some_iff.1 hf).1
          have := (RCs.at hr j f _ hf (List.getElem?_eq_getElem hi)).2.2
          simpa using this
        rw [fill_step (hp j f hf) (by simpa using hl) hbd]
        exact fill_parts hp hz parts vals (ds.set j d) ds' _ h (by simpa using hset) hm (fun k i' d' j' v' h1 h2 => hv (k + 1) i' d' j' v' (by simpa using h1) (by simpa using h2))
      case h_2 => cases h
theorem fill_row {e : TypeId} {s : Nat} (hz : csz M.P e = some s) {look : Look} {ok' : Nat → Prop} (ho : Objs M β look) (hok : ∀ b, M.ok b → ok' b) : ∀ (parts : List (Nat × D)) (vals : List (Nat × Value)) (i : Nat) (ts : List T) (frz : List Nat) (cells : Array Value),
    fullRow M.P look e i parts = some (ts, frz) → vals.map (·.1) = parts.map (·.1) → (∀ (k j : Nat) (d : D) (j' : Nat) (v : Value), parts[k]? = some (j, d) → vals[k]? = some (j', v) → RV M β d v) → (i + parts.length) * s ≤ cells.size →
    (∀ n, n ∈ frz → ∀ pl, β n = some pl → pl.virt = false → ok' pl.b) →
    ∃ cells', Instr.fill (fun i => some (i * s, s)) cells vals = some cells' ∧ cells'.size = cells.size ∧ (∀ j, j < i → ((cells'.toList.drop (j * s)).take s) = ((cells.toList.drop (j * s)).take s)) ∧
      (∀ j x, ts[j]? = some x → PRep M.P M.W ok' e x ((cells'.toList.drop ((i + j) * s)).take s)) ∧ ts.length = parts.length
  | [], vals, i, ts, frz, cells, h, hm, hv, hl, hf => by
    simp only [fullRow, Option.some.injEq, Prod.mk.injEq] at h
    obtain ⟨rfl, rfl⟩ := h
    cases vals with
    | nil => exact ⟨cells, rfl, rfl, fun _ _ => rfl, fun j x hx => by simp at hx, rfl⟩
    | cons => simp at hm
  | (j0, d) :: parts, vals, i, ts, frz, cells, h, hm, hv, hl, hf => by
    cases vals with
    | nil => simp at hm
    | cons jv vals =>
      obtain ⟨j1, v⟩ := jv
      simp only [List.map_cons, List.cons.injEq] at hm
      obtain ⟨rfl, hm⟩ := hm
      simp only [fullRow] at h
      split at h
      case h_1 t f r g e1 e2 =>
        have hb := beqN (bif_some h).1
        replace h := (bif_some h).2
        subst hb
        cases h
        have hrv := hv 0 i d i v rfl rfl
        have hpv := packT_val ho hok e1 hrv (fun n hn => hf n (List.mem_append_left _ hn))
        obtain ⟨cs, hpr, hform⟩ := hpv
        have hcells : v.cells.toList = cs := by
          cases hag : isAggB M.P e <;> rw [hag] at hform <;> simp only [if_true, Bool.false_eq_true, if_false] at hform
          · subst hform
            have hs := packT_scalar e1
            rw [hag] at hs
            have hrc := RV_out hrv hs
            rw [(RC_cell hrc hs).2]
          · subst hform; rfl
        have hcs := (fits_ofT (M := ⟨M.P, M.W, ok', M.C⟩) hpr hz).2
        have hbd : i * s + s ≤ cells.size := by
          have : (i + 1) * s ≤ (i + (parts.length + 1)) * s := Nat.mul_le_mul_right s (by omega)
          rw [Nat.add_mul, Nat.one_mul] at this
          simp at hl; omega
        have hst := fill_step (place := fun i => some (i * s, s)) (i := i) (rest := vals) rfl (by simpa [hcs] using congrArg List.length hcells) hbd
        rw [hst]
        have hsz : (splice cells.toList (i * s) v.cells.toList).toArray.size = cells.size := by
          rw [List.size_toArray, splice_length (by rw [hcells, hcs]; simpa using hbd)]; simp
        obtain ⟨cells', h1, h2, h3, h4, h5⟩ := fill_row hz ho hok parts vals (i + 1) r g (splice cells.toList (i * s) v.cells.toList).toArray e2 hm
          (fun k j d j' v h1 h2 => hv (k + 1) j d j' v (by simpa using h1) (by simpa using h2)) (by rw [hsz]; simp at hl; rwa [show i + 1 + parts.length = i + (parts.length + 1) by omega]) (fun n hn => hf n (List.mem_append_right _ hn))
        refine ⟨cells', h1, by rw [h2, hsz], fun j hj => ?_, fun j x hx => ?_, by simp [h5]⟩
        · rw [h3 j (by omega), List.toList_toArray]
          refine splice_out (by rw [hcells, hcs]; simpa using hbd) (.inl ?_)
          have : (j + 1) * s ≤ i * s := Nat.mul_le_mul_right s hj
          rw [Nat.add_mul, Nat.one_mul] at this; exact this
        · cases j with
          | zero =>
            simp at hx
            subst hx
            rw [Nat.add_zero, h3 i (by omega), List.toList_toArray, hcells]
            have := splice_in (cs := cells.toList) (c := cs) (o := i * s) (by rw [hcs]; simpa using hbd)
            rw [hcs] at this
            rw [this]; exact hpr
          | succ j =>
            simp at hx
            rw [show i + (j + 1) = i + 1 + j by omega]
            exact h4 j x hx
      case h_2 => cases h
theorem fullRow_names {P : Program} {lk : Nat → Option O} {e : TypeId} : ∀ (parts : List (Nat × D)) {i : Nat} {ts : List T} {f : List Nat}, fullRow P lk e i parts = some (ts, f) → ∀ n, n ∈ f → ∃ e xs, lk n = some (.row e xs)
  | [], _, _, _, h, n, hn => by simp only [fullRow] at h; cases h; simp at hn
  | (j, d) :: parts, _, _, _, h, n, hn => by
    simp only [fullRow] at h
    split at h
    case h_1 e1 e2 =>
      replace h := (bif_some h).2
      cases h
      rcases List.mem_append.1 hn with h3 | h3
      · exact packT_names e1 n h3
      · exact fullRow_names parts e2 n h3
    case h_2 => cases h
end

section
variable {P : Program} {G : Globs} {C : Ctx} {β : Places} {free : Nat → Prop} {N : Nat} {regs : Regs} {look : Look} {a : Act} {W : World} {nm : Nat} {Q : Exit → Act → World → Prop}
theorem run_mapM_sizes : ∀ (l : List Field) (off : Nat) (fs : List (TypeId × Nat)), fieldsFrom P off l = some fs → (l.mapM fun f => (do pure (f.offset, ← sizeOf f.type) : Sem (Nat × Nat))).run P W = .ok (l.map fun f => (f.offset, ((csz P f.type).getD 0))) W
  | [], off, fs, h => by simp
  | f :: l, off, fs, h => by
    simp only [fieldsFrom] at h
    split at h
    case h_1 s hs =>
      replace h := (bif_some h).2
      split at h
      case h_1 l' hl' =>
        have := run_mapM_sizes l _ _ hl'
        rw [List.mapM_cons, Sem.run_bind, Sem.run_bind, run_sizeOf' hs, Result.andThen_ok, Sem.run_pure, Result.andThen_ok, Sem.run_bind, this, Result.andThen_ok, Sem.run_pure]
        simp [hs]
      case h_2 => cases h
    case h_2 => cases h
theorem evalParts_map (ρ : Operand → D) : ∀ (l : List (Nat × Operand)), (evalParts ρ l).map (·.1) = l.map (·.1)
  | [] => rfl
  | (i, x) :: l => by simp [evalParts, evalParts_map ρ l]
theorem evalParts_at (ρ : Operand → D) : ∀ (l : List (Nat × Operand)) (k : Nat), (evalParts ρ l)[k]? = (l[k]?).map fun (i, x) => (i, ρ x)
  | [], k => by simp [evalParts]
  | (i, x) :: l, k => by
    cases k with
    | zero => simp [evalParts]
    | succ k => simp [evalParts, evalParts_at ρ l k]
theorem parts_rv (h : Rel P G C β free N regs look a W) (l : List (Nat × Operand)) : ∀ (k i : Nat) (d : D) (j : Nat) (v : Value), (evalParts (evalD G regs) l)[k]? = some (i, d) → (l.map fun (i, x) => (i, a.eval x))[k]? = some (j, v) → RV (memOf P C β look W) β d v := by
  intro k i d j v h1 h2
  rw [evalParts_at] at h1
  simp only [List.getElem?_map] at h2
  cases hk : l[k]? with
  | none => rw [hk] at h1; simp at h1
  | some q =>
    rw [hk] at h1 h2
    simp at h1 h2
    rw [← h1.2, ← h2.2]
    exact rv_eval h q.2
theorem zero_agg {τ : TypeId} {d : D} (h : zeroVal P τ = some d) {s : Nat} (hs : csz P τ = some s) (M : Mem) (hM : M.P = P) : ∃ z, (zeroValue τ).run P W = .ok z W ∧ RC M β d z.cells.toList ∧ fits P τ d = true := by
  subst hM
  obtain ⟨i, z, h1, h2, h3⟩ := zeroVal_rep (M := M) (β := β) h
  exact ⟨z, by simp [zeroValue, typeInfo, h1, h2], (h3 s hs).1, (h3 s hs).2⟩
theorem opv_build (h : Rel P G C β free N regs look a W) {o : Oper} {t : TypeId} {parts : Array (Nat × Operand)} (ho : o.op = .build t parts) {r : OR} {u : OpOut}
    (hr : buildD P t (evalParts (evalD G regs) parts.toList) = some r) (hu : r.get = some u) : o.wp P a W (Nxt P G C β free N regs look o.dst nm u) Q := by
  have he : ∀ v, (Instr.build t (parts.map fun (i, x) => (i, a.eval x))).run P W = .ok v W → (execOp a.eval o).run P W = .ok (.value v) W := by
    intro v hv
    simp only [execOp, ho, Sem.run_bind, hv]; rfl
  unfold buildD at hr
  split at hr
  case h_1 F hF =>
    split at hr
    case h_1 fs τ' ds hfs hzv =>
      split at hr
      case h_1 ds' hds =>
        cases hr; cases done_get hu
        obtain ⟨g1, g2, F', hF', hff⟩ := fieldsOf_agg hfs
        rw [hF] at hF'; cases hF'
        obtain ⟨z, hz1, hz2, hz3⟩ := zero_agg (W := W) (β := β) hzv g2 (memOf P C β look W) rfl
        simp only [fits, Bool.and_eq_true] at hz3
        have := beqN hz3.1; subst this
        obtain ⟨q1, q2, fs', q3, q4⟩ := hz2
        replace q3 : fieldsOf P t = some fs' := q3
        rw [hfs] at q3; cases q3
        have hcs : ∀ (i : Nat) (f : TypeId × Nat), fs[i]? = some f → csz P f.1 = some f.2 := fun i f hf => by
          obtain ⟨_, _, _, _, h5, _⟩ := fieldsFrom_spec _ _ _ hff i f hf; exact h5
        obtain ⟨cells', hc1, hc2⟩ := fill_parts (M := memOf P C β look W) (β := β) (place := fun i => ((F.toList.map fun f => (f.offset, ((csz P f.type).getD 0))).toArray)[i]?) (fun i f hf => by
          obtain ⟨g, e1, e2, e3, e4, e5⟩ := fieldsFrom_spec _ _ _ hff i f hf
          simp only [List.getElem?_toArray, List.getElem?_map, e1, Option.map_some, e2, e4, Option.getD_some, e3, Nat.zero_add]) hcs
          (evalParts (evalD G regs) parts.toList) (parts.toList.map fun (i, x) => (i, a.eval x)) ds ds' z.cells hds q4 (by rw [evalParts_map]; simp) (parts_rv h _)
        refine wp_pure h (he (.agg cells') ?_) (RV_of (cs := cells'.toList) ⟨g1, ?_, fs, hfs, hc2⟩ (by simp [VF, scalar]))
        · have hm : (F.mapM fun f => (do pure (f.offset, ← sizeOf f.type) : Sem (Nat × Nat))).run P W = .ok (F.toList.map fun f => (f.offset, ((csz P f.type).getD 0))).toArray W := by
            rw [Array.mapM_eq_mapM_toList, Sem.run_map, run_mapM_sizes _ _ _ hff]; rfl
          simp only [Instr.build, Sem.run_bind, hz1, Result.andThen_ok, run_und hF, hm, Array.toList_map, hc1]
          rfl
        · rw [(RCs.length hc2).1]; exact g2
      case h_2 => cases hr
    case h_2 => cases hr
  case h_2 => cases hr
theorem opv_buildSlice (h : Rel P G C β free N regs look a W) (hfr : ∀ u : OpOut, u.fresh = 1 → free nm) {o : Oper} {t : TypeId} {len : Nat} {parts : Array (Nat × Operand)} (ho : o.op = .buildSlice t len parts) {r : OR} {u : OpOut}
    (hr : buildSliceD P look nm t len (evalParts (evalD G regs) parts.toList) = some r) (hu : r.get = some u) : o.wp P a W (Nxt P G C β free N regs look o.dst nm u) Q := by
  have he : ∀ v W', (Instr.buildSlice t len (parts.map fun (i, x) => (i, a.eval x))).run P W = .ok v W' → (execOp a.eval o).run P W = .ok (.value v) W' := by
    intro v W' hv
    simp only [execOp, ho, Sem.run_bind, hv]; rfl
  unfold buildSliceD at hr
  split at hr
  case h_1 e s hro =>
    obtain ⟨hsl, hsz, hs0⟩ := rowOf_slice hro
    split at hr
    case h_1 ts frz d hfull hzv =>
      have hb := (bif_some hr).1
      replace hr := (bif_some hr).2
      simp only [Bool.and_eq_true] at hb
      have hlen := beqN hb.1
      have hble := Nat.le_of_ble_eq_true hb.2
      cases hr; cases done_get hu
      have hfree := hfr { d := .own nm, fresh := 1 } rfl
      obtain ⟨z, hz1, hz2, hz3⟩ := zero_agg (W := W) (β := β) hzv hsz (memOf P C β look W) rfl
      have hzl : z.cells.size = s := by
        have := fits_length (M := memOf P C β look W) hz2 hz3
        change csz P e = _ at this
        rw [hsz] at this
        simpa using (Option.some.inj this).symm
      let zero : Array Value := if len * s = 0 then #[] else z.cells
      let cells0 : Array Value := (Array.range (len * s)).map (fun i => zero[i % zero.size]!)
      have hc0 : cells0.size = len * s := by simp [cells0]
      let look' := updF look ((nm, some (.row e ts)) :: goneAll frz)
      let pl : Place := { b := W.heap.size, off := 0, len := len, sz := s, lim := len * s }
      have hβ := h.free nm hfree
      have hnm : look nm = none := by
        cases hl : look nm with
        | none => rfl
        | some o => obtain ⟨p, hp, _⟩ := h.objs nm o hl; rw [hβ] at hp; cases hp
      have hlk : ∀ m p', look' m ≠ none → setP β nm pl m = some p' → p'.virt = false → (m ∉ frz ∧ m ≠ nm ∧ look m ≠ none ∧ β m = some p') ∨ W.heap.size ≤ p'.b := by
        intro m p' hm hp hv
        simp only [look', updF, updF_gone] at hm
        split at hm
        · exact absurd rfl hm
        · rename_i hmf
          by_cases e : m = nm
          · subst e
            simp only [setP, if_true, Option.some.injEq] at hp
            subst hp; exact .inr (Nat.le_refl _)
          · simp only [setF, if_neg e] at hm
            simp only [setP, if_neg e] at hp
            exact .inl ⟨hmf, e, hm, hp⟩
      have hok : ∀ b, okOf C β look b → okOf C (setP β nm pl) look' b ∨ W.heap[b]? = none := by
        intro b hb
        by_cases hbn : W.heap[b]? = none
        · exact .inr hbn
        · refine .inl ⟨hb.1, fun m p' hm hp hv hbb => ?_⟩
          rcases hlk m p' hm hp hv with ⟨_, _, h1, h2⟩ | h1
          · exact hb.2 m p' h1 h2 hv hbb
          · exact hbn (Array.getElem?_eq_none (by omega))
      -- what is read of the parts, ahead of the new row
      have hokA : ∀ b, (memOf P C β look W).ok b → (fun b => okOf C (setP β nm pl) look' b ∨ W.heap[b]? = none) b := fun b hb => hok b hb
      obtain ⟨cells', f1, f2, _, f4, f5⟩ := fill_row (M := memOf P C β look W) (β := β) hsz (look := look) (ok' := fun b => okOf C (setP β nm pl) look' b ∨ W.heap[b]? = none) h.objs hokA (evalParts (evalD G regs) parts.toList) (parts.toList.map fun (i, x) => (i, a.eval x)) 0 ts frz cells0 hfull
        (by rw [evalParts_map]; simp) (parts_rv h _) (by
          rw [hc0, Nat.zero_add]
          have : (evalParts (evalD G regs) parts.toList).length = ts.length := by
            have hh : ∀ (l : List (Nat × D)) (i : Nat) (ts : List T) (f : List Nat), fullRow P look e i l = some (ts, f) → l.length = ts.length := by
              intro l
              induction l with
              | nil => intro i ts f h; simp only [fullRow] at h; cases h; rfl
              | cons x l ih =>
                intro i ts f h
                obtain ⟨j, d⟩ := x
                simp only [fullRow] at h
                split at h
                case h_1 e1 e2 => replace h := (bif_some h).2; cases h; simp [ih _ _ _ e2]
                case h_2 => cases h
            exact hh _ _ _ _ hfull
          rw [this, hlen]; exact Nat.le_refl _)
        (fun n hn p hp hv => .inl (frz_ok h (fullRow_names _ hfull n hn).choose_spec.choose_spec rfl hp hv (fun m p' hm hp' hv' => by
          rcases hlk m p' hm hp' hv' with ⟨h1, h2, h3, h4⟩ | h1
          · exact .inl ⟨fun e => h1 (e ▸ hn), h3, h4⟩
          · exact .inr h1)))
      have hrun : (Instr.buildSlice t len (parts.map fun (i, x) => (i, a.eval x))).run P W = .ok (.slice (some ⟨W.heap.size, 0, none⟩) len len) (W.alloc (.cells cells' e)) := by
        have hnb : ¬ (len * s > 2 ^ 24) := by omega
        have f1' : Instr.fill (fun i => some (i * s, s)) cells0 (parts.toList.map fun x => (x.fst, a.eval x.snd)) = some cells' := f1
        simp only [Instr.buildSlice, Sem.run_bind, run_und hsl, Result.andThen_ok, run_sizeOf' hsz, if_neg hnb, Array.toList_map]
        by_cases h0 : len * s = 0
        · have e0 : cells0 = (Array.range (len * s)).map (fun x => (#[] : Array Value)[x % (#[] : Array Value).size]!) := by simp only [cells0, zero, if_pos h0]
          rw [e0] at f1'
          rw [if_pos h0]
          simp only [Sem.run_bind, Sem.run_pure, Result.andThen_ok, f1']
          rfl
        · have e0 : cells0 = (Array.range (len * s)).map (fun x => z.cells[x % z.cells.size]!) := by simp only [cells0, zero, if_neg h0]
          rw [e0] at f1'
          rw [if_neg h0]
          simp only [Sem.run_bind, Sem.run_pure, Result.andThen_ok, hz1, f1']
          rfl
      refine wp_value (he _ _ hrun) (nxt_new h hfree (Wr.alloc W _) (pl := pl) rfl (.inr (Nat.le_refl _)) (fun hle => ?_) (fun hle => ?_))
      · refine ⟨hlen.symm, hsz, hs0, (fun hv => by cases hv), fun _ => ⟨cells', e, (0, 0), heap_alloc_last W _, by rw [f2, hc0], fun o _ hx => by have := hx.2; omega, fun j x hx => ?_⟩⟩
        have := f4 j x hx
        rw [Nat.zero_add] at this
        rw [Nat.zero_add]
        refine this.stay ⟨fun b hb => ?_, fun b o hb ho => ?_⟩
        · rcases hb with hb | hb
          · exact .inl hb
          · exact .inr hb
        · have hbl : b < W.heap.size := by
            rcases Nat.lt_or_ge b W.heap.size with hlt | hge
            · exact hlt
            · change W.heap[b]? = some o at ho; rw [Array.getElem?_eq_none hge] at ho; cases ho
          exact (Below.heap_alloc W _ b hbl).trans ho
      · refine RV_scalar ⟨pl, by simp [setP], ?_⟩ rfl
        simp only [pl, Bool.false_eq_true, if_false]
        exact ⟨len, rfl, Nat.le_refl _, by simp⟩
    case h_2 => cases hr
  case h_2 => cases hr
end
end Go.Proofs.YtpfglhjgjfhkjaaDoorVM
/- Rows that are read as wholes, conversions, slices of slices. -/
namespace Go.Proofs.YtpfglhjgjfhkjaaDoorVM
open Go Go.RowKit
set_option linter.unusedVariables false
set_option linter.unusedSimpArgs false

section
variable {P : Program} {G : Globs} {C : Ctx} {β : Places} {free : Nat → Prop} {N : Nat} {regs : Regs} {look : Look} {a : Act} {W : World} {nm : Nat} {Q : Exit → Act → World → Prop}

/-- A row in memory. -/
def Lies (P : Program) (W : World) (ok : Nat → Prop) (e : TypeId) (xs : List T) (ad : Option Addr) : Prop :=
  xs = [] ∨ ∃ b off s c el fr, ad = some ⟨b, off, none⟩ ∧ csz P e = some s ∧ 0 < s ∧ W.heap[b]? = some (.cells c el fr) ∧ (∀ i x, xs[i]? = some x → PRep P W ok e x ((c.toList.drop (off + i * s)).take s)) ∧ off + xs.length * s ≤ c.size
theorem seg_bound {ok : Nat → Prop} {e : TypeId} {s : Nat} (hs : csz P e = some s) {x : T} {c : List Value} {o : Nat} (h : PRep P W ok e x ((c.drop o).take s)) : o + s ≤ c.length ∨ s = 0 := by
  have h7 := (fits_ofT (M := ⟨P, W, ok, ⟨W, fun _ => False, fun _ => False⟩⟩) h hs).2
  rw [List.length_take, List.length_drop] at h7
  omega
theorem PRow.lies {ok : Nat → Prop} {e : TypeId} {xs : List T} {ad : Option Addr} (h : PRow P W ok e xs ad) : Lies P W ok e xs ad := by
  cases h with
  | nil => exact .inl rfl
  | mk h1 h2 h3 h4 h5 =>
    rename_i b off s c el fr
    by_cases hx : xs = []
    · exact .inl hx
    · refine .inr ⟨b, off, s, c, el, fr, rfl, h1, h2, h4, h5, ?_⟩
      obtain ⟨n, hn⟩ : ∃ n, xs.length = n + 1 := ⟨xs.length - 1, by have : xs.length ≠ 0 := fun e => hx (List.eq_nil_of_length_eq_zero e); omega⟩
      have h6 := h5 n _ (tAtD_some (by omega))
      rcases seg_bound h1 h6 with h7 | h7
      · rw [hn, Nat.add_mul, Nat.one_mul]
        simp at h7; omega
      · omega
theorem RO.lies {M : Mem} {pl : Place} {e : TypeId} {xs : List T} (h : RO M β pl (.row e xs)) (hv : pl.virt = false) : Lies M.P M.W M.ok e xs (some ⟨pl.b, pl.off, none⟩) := by
  obtain ⟨h2, h3, h4, _, h5⟩ := h
  obtain ⟨c, el, fr, h6, h7, _, h8⟩ := h5 hv
  by_cases hx : xs = []
  · exact .inl hx
  · refine .inr ⟨pl.b, pl.off, pl.sz, c, el, fr, rfl, h3, h4, h6, h8, ?_⟩
    obtain ⟨n, hn⟩ : ∃ n, xs.length = n + 1 := ⟨xs.length - 1, by have : xs.length ≠ 0 := fun e => hx (List.eq_nil_of_length_eq_zero e); omega⟩
    have h9 := h8 n _ (tAtD_some (by omega))
    rcases seg_bound h3 h9 with h10 | h10
    · rw [hn, Nat.add_mul, Nat.one_mul]
      simp at h10; omega
    · omega
theorem Lies.sub {ok : Nat → Prop} {e : TypeId} {xs : List T} {b off s : Nat} (h : Lies P W ok e xs (some ⟨b, off, none⟩)) (hs : csz P e = some s) (lo len : Nat) (hl : lo + len ≤ xs.length) : Lies P W ok e ((xs.drop lo).take len) (some ⟨b, off + lo * s, none⟩) := by
  rcases h with rfl | ⟨b', off', s', c, el, fr, h1, h2, h3, h4, h5, h6⟩
  · left; simp
  · injection h1 with h1; injection h1 with h1 h1' _; subst h1; subst h1'
    rw [hs] at h2; cases h2
    refine .inr ⟨b, _, s, c, el, fr, rfl, hs, h3, h4, fun i x hx => ?_, ?_⟩
    · have hi : i < len := by have := (List.getElem?_eq_some_iff.1 hx).1; rw [List.length_take] at this; omega
      rw [List.getElem?_take, if_pos hi, List.getElem?_drop] at hx
      have := h5 (lo + i) x hx
      rw [Nat.add_mul, ← Nat.add_assoc] at this
      exact this
    · have hlen : ((xs.drop lo).take len).length = len := by rw [List.length_take, List.length_drop]; omega
      rw [hlen]
      have : (lo + len) * s ≤ xs.length * s := Nat.mul_le_mul_right s hl
      rw [Nat.add_mul] at this
      omega
/-- The rows that may be read: the value, and how it lies. -/
theorem elems_lie (h : Rel P G C β free N regs look a W) {d : D} {v : Value} (hv : RV (memOf P C β look W) β d v) {xs : List T} {e : TypeId} {tc : List Nat} (hd : elemsD look d = some (xs, e, tc)) :
    ∃ ad cap, v = .slice ad xs.length cap ∧ Lies P W (okOf C β look) e xs ad := by
  unfold elemsD at hd
  split at hd
  case h_1 xs' e' cl =>
    cases hd
    obtain ⟨ad, cap, h1, h2, h3, h4⟩ := RV_out hv rfl
    injection h1 with h1 _
    exact ⟨ad, cap, h1, h2.lies⟩
  case h_2 n =>
    split at hd
    case h_1 e' xs' hl =>
      cases hd
      obtain ⟨pl, h1, h2⟩ := RV_out hv rfl
      obtain ⟨pl', h3, h4⟩ := h.objs n _ hl
      rw [h1] at h3; cases h3
      cases hvi : pl.virt with
      | true =>
        rw [hvi] at h2
        obtain ⟨ad, h2⟩ := h2
        injection h2 with h2 _
        have := h4.2.2.2.1 hvi
        subst this
        exact ⟨ad, 0, h2, .inl rfl⟩
      | false =>
        rw [hvi] at h2
        simp only [Bool.false_eq_true, if_false] at h2
        obtain ⟨cap, h2, _⟩ := h2
        injection h2 with h2 _
        exact ⟨_, cap, by rw [h2, h4.1], h4.lies hvi⟩
    case h_2 => cases hd
  case h_3 n lo len =>
    split at hd
    case h_1 e' xs' hl =>
      cases hd
      obtain ⟨pl, h1, hll, h2⟩ := RV_out hv rfl
      obtain ⟨pl', h3, h4⟩ := h.objs n _ hl
      rw [h1] at h3; cases h3
      rw [h4.1] at hll
      have hlen : ((xs'.drop lo).take len).length = len := by rw [List.length_take, List.length_drop]; omega
      rw [hlen]
      rcases h2 with ⟨rfl, ad, h2⟩ | ⟨hvi, cap, h2, _⟩
      · injection h2 with h2 _
        exact ⟨ad, 0, h2, .inl List.take_zero⟩
      · injection h2 with h2 _
        exact ⟨_, cap, h2, (h4.lies hvi).sub h4.2.1 lo len hll⟩
    case h_2 => cases hd
  case h_4 => cases hd
theorem Lies.cells {ok : Nat → Prop} {e : TypeId} {xs : List T} {ad : Option Addr} (h : Lies P W ok e xs ad) {s : Nat} (hs : csz P e = some s) :
    ∃ cs : List Value, cs.length = xs.length * s ∧ (∀ (w : World), w.heap = W.heap → ∀ (cap : Nat), (Builtin.firstCells s xs.length (.slice ad xs.length cap)).run P w = .ok cs.toArray w) ∧ (∀ x, ad = some x → (loadCells x (xs.length * s)).run P W = .ok cs.toArray W) ∧ (∀ i x, xs[i]? = some x → PRep P W ok e x ((cs.drop (i * s)).take s)) ∧ ∀ x, x ∈ cs → x.oneCell' = true := by
  rcases h with rfl | ⟨b, off, s', c, el, fr, rfl, h2, h3, h4, h5, h6⟩
  · refine ⟨[], by simp, fun w _ cap => ?_, fun x _ => ?_, fun i x hx => by simp at hx, fun x hx => by simp at hx⟩
    · cases ad <;> simp [Builtin.firstCells, loadCells, loadCellsFrom]
    · simp [loadCells, loadCellsFrom]
  · rw [hs] at h2; cases h2
    have hcl : c.toList.length = c.size := Array.length_toList
    have hl : ((c.toList.drop off).take (xs.length * s)).length = xs.length * s := by rw [List.length_take, List.length_drop, hcl]; omega
    have hload := fun (w : World) (hw : w.heap = W.heap) => run_loadCells_list (P := P) w ⟨b, off, none⟩ ((c.toList.drop off).take (xs.length * s)) (fun j v hj => by
      rw [add_none, cell_of (W := w) (by rw [hw]; exact h4)]
      have hjs : j < xs.length * s := by have := (List.getElem?_eq_some_iff.1 hj).1; omega
      rw [List.getElem?_take, if_pos hjs, List.getElem?_drop] at hj
      simpa using hj)
    rw [hl] at hload
    have hseg : ∀ i x, xs[i]? = some x → PRep P W ok e x ((((c.toList.drop off).take (xs.length * s)).drop (i * s)).take s) := fun i x hx => by
      have hi : i < xs.length := (List.getElem?_eq_some_iff.1 hx).1
      have : (i + 1) * s ≤ xs.length * s := Nat.mul_le_mul_right s hi
      rw [Nat.add_mul, Nat.one_mul] at this
      rw [drop_take_drop_take _ _ _ _ _ this]
      exact h5 i x hx
    refine ⟨_, hl, fun w hw cap => by simp only [Builtin.firstCells, hload w hw], fun x hx => by cases hx; exact hload W rfl, hseg, fun v hv => ?_⟩
    obtain ⟨j, hj, hjv⟩ := List.getElem_of_mem hv
    rw [hl] at hj
    have hdiv := Nat.div_add_mod j s
    have hmod := Nat.mod_lt j h3
    have hi : j / s < xs.length := by rw [Nat.div_lt_iff_lt_mul h3]; exact hj
    have := (hseg (j / s) _ (tAtD_some hi)).one
    refine this v ?_
    rw [List.mem_iff_getElem?]
    refine ⟨j % s, ?_⟩
    rw [List.getElem?_take, if_pos hmod, List.getElem?_drop, show j / s * s + j % s = j by rw [Nat.mul_comm]; exact hdiv, List.getElem?_eq_getElem (by rw [hl]; exact hj), hjv]

theorem take_one {α : Type} {l : List α} {j : Nat} {x : α} (h : l[j]? = some x) : (l.drop j).take 1 = [x] := by
  obtain ⟨hj, rfl⟩ := List.getElem?_eq_some_iff.1 h
  rw [List.drop_eq_getElem_cons hj]; rfl
theorem int_cells {ok : Nat → Prop} {τ : TypeId} {k : IntKind} {t : T} {cs : List Value} (hu : P.underlying τ = some (.int k)) (h : PRep P W ok τ t cs) : cs = [.int k t.num] := by
  cases h with
  | int h1 => rw [hu] at h1; cases h1; rfl
  | bool h1 => rw [hu] at h1; cases h1
  | str h1 => rw [hu] at h1; cases h1
  | slice h1 => rw [hu] at h1; cases h1
  | struct h1 => obtain ⟨_, _, F, hF, _⟩ := fieldsOf_agg h1; rw [hu] at hF; cases hF
  | arr h1 => obtain ⟨_, _, _, _, hF⟩ := arrOf_agg h1; rw [hu] at hF; cases hF
theorem foldl_push : ∀ (ns : List Int) (s : ByteArray), ns.foldl (fun r n => r.push (UInt8.ofNat n.toNat)) s = ⟨s.data ++ (ns.map fun n => UInt8.ofNat n.toNat).toArray⟩
  | [], s => by simp
  | n :: ns, s => by
    rw [List.foldl_cons, foldl_push ns]
    congr 1
    apply Array.ext'
    simp [ByteArray.push]
theorem opv_conv (h : Rel P G C β free N regs look a W) (hfr : ∀ u : OpOut, u.fresh = 1 → free nm) {o : Oper} {src dst : TypeId} {x : Operand} (ho : o.op = .convert src dst x) {r : OR} {u : OpOut}
    (hr : convD P look nm src dst (evalD G regs x) = some r) (hu : r.get = some u) : o.wp P a W (Nxt P G C β free N regs look o.dst nm u) Q := by
  generalize hx : evalD G regs x = dx at hr
  have he : ∀ v W', (convert src dst (a.eval x)).run P W = .ok v W' → (execOp a.eval o).run P W = .ok (.value v) W' := by
    intro v W' hv
    simp only [execOp, ho, Sem.run_bind, hv]; rfl
  unfold convD at hr
  split at hr
  case h_1 k0 k k1 n hs hd =>
    cases hr; cases done_get hu
    refine wp_pure h (he _ _ ?_) rv_int
    rw [ev_int h hx]
    simp [convert, run_und hs, run_und hd, Conv.intToInt]
  case h_2 s hs hd =>
    cases hr; cases done_get hu
    refine wp_pure h (he _ _ ?_) rv_str
    rw [ev_str h hx]
    simp [convert, run_und hs, run_und hd]
  case h_3 x' _ _ _ e hs hd =>
    split at hr
    case h_1 hu8 hz =>
      cases hn : isNilRow x' with
      | true =>
        rw [hn] at hr
        cases hr; cases done_get hu
        refine wp_pure h (he (.string ByteArray.empty) _ ?_) rv_str
        have hv : ∃ ad, a.eval x = .slice ad 0 0 := by
          cases x' <;> simp [isNilRow] at hn
          · have := ev_scalar h hx rfl; simp [RC] at this; exact ⟨none, this⟩
          · obtain ⟨ad, h1⟩ := ev_scalar h hx rfl; injection h1 with h1 _; exact ⟨ad, h1⟩
        obtain ⟨ad, hv⟩ := hv
        rw [hv, run_convert_bytes_string W src dst e ad 0 0 hs hu8 hd]
        cases ad with
        | none => simp [Conv.bytesToString]
        | some q =>
          rw [run_bytesToString W q 0 0 [] (by simp [loadCells, loadCellsFrom])]
          rfl
      | false =>
        rw [hn] at hr
        simp only [cond_false] at hr
        split at hr
        case h_1 xs e' tc hel =>
          have hb := beqN (bif_some hr).1
          replace hr := (bif_some hr).2
          subst hb
          cases hr; cases done_get hu
          obtain ⟨ad, cap, h1, h2⟩ := elems_lie h (hx ▸ rv_eval h x) hel
          refine wp_pure h (he (.string (bytesT xs)) _ ?_) rv_str
          rw [h1, run_convert_bytes_string W src dst e ad _ _ hs hu8 hd]
          obtain ⟨cs, c1, c2, c3, c4, c5⟩ := h2.cells hz
          cases had : ad with
          | none =>
            have : xs = [] := by
              rcases h2 with h2 | ⟨b, off, s, c, el, fr, h3, _⟩
              · exact h2
              · rw [had] at h3; cases h3
            subst this
            simp [Conv.bytesToString, bytesT]
            rfl
          | some q =>
            have hcs : cs = (xs.map fun t => t.num).map (Value.int .u8) := by
              apply List.ext_getElem?
              intro i
              by_cases hi : i < xs.length
              · have h6 := c4 i _ (tAtD_some hi)
                rw [Nat.mul_one] at h6
                have h7 := int_cells hu8 h6
                have hil : i < cs.length := by rw [c1]; omega
                rw [List.drop_eq_getElem_cons hil] at h7
                simp only [List.take_succ_cons, List.take_zero, List.cons.injEq, and_true] at h7
                rw [List.getElem?_eq_getElem hil, h7]
                simp [tAtD, List.getD, hi]
              · rw [List.getElem?_eq_none (by rw [c1]; omega), List.getElem?_eq_none (by simp; omega)]
            have hl := c3 q had
            rw [Nat.mul_one] at hl
            rw [run_bytesToString W q xs.length cap (xs.map fun t => t.num) (by rw [hl, hcs]), foldl_push]
            congr 2
            simp only [bytesT, List.map_map]
            congr 1
            apply Array.ext'
            simp
        case h_2 => cases hr
    case h_2 => cases hr
  case h_4 e s hs hd =>
    split at hr
    case h_1 hu8 hz =>
      cases hr; cases done_get hu
      have hfree := hfr { d := .own nm, fresh := 1 } rfl
      have hge : s.size ≤ grownCap W s.size 0 e := grownCap_ge W s.size 0 e
      have hbr : (bytesRow s (grownCap W s.size 0 e)).size = grownCap W s.size 0 e := by simp [bytesRow]; omega
      let pl : Place := { b := W.heap.size, off := 0, len := s.size, sz := 1, lim := grownCap W s.size 0 e }
      have hrun := run_bytes_of_string (P := P) W src dst e s hs hd hu8
      have hβ := h.free nm hfree
      refine wp_value (he _ _ (by rw [ev_str h hx]; exact hrun)) (nxt_new h hfree (frz := []) ((Wr.drew W).trans (Wr.alloc _ _)) (pl := pl) rfl (.inr (Nat.le_refl _)) (fun hle => ?_) (fun hle => ?_))
      · refine ⟨by simp [pl, tBytes], hz, Nat.one_pos, (fun hv => by cases hv), fun _ => ⟨_, e, _, heap_alloc_last W.drew _, hbr, fun o ho hx => by have := hx.1; omega, fun j y hy => ?_⟩⟩
        have hj : j < s.data.size := by have := (List.getElem?_eq_some_iff.1 hy).1; simpa [tBytes] using this
        have hyj : (tBytes s)[j]? = some (.int (s.data[j].toNat : Int)) := by
          have : s.data[j]? = some s.data[j] := Array.getElem?_eq_getElem hj
          simp [tBytes, this]
        have hy' : y = .int (s.data[j].toNat : Int) := by rw [hyj] at hy; exact (Option.some.inj hy).symm
        subst hy'
        have hseg : ((bytesRow s (grownCap W s.size 0 e)).toList.drop (0 + j * 1)).take 1 = [.int .u8 (s.data[j].toNat : Int)] := by
          rw [Nat.zero_add, Nat.mul_one]
          refine take_one ?_
          have hg : s.data[j]? = some s.data[j] := Array.getElem?_eq_getElem hj
          simp [bytesRow, List.getElem?_append, hg]
          intro hle'
          have : s.data.size = s.size := rfl
          omega
        rw [show pl.off + j * pl.sz = 0 + j * 1 from rfl, show pl.sz = 1 from rfl, hseg]
        exact .int (t := .int (s.data[j].toNat : Int)) hu8
      · refine RV_scalar ⟨pl, by simp [setP], ?_⟩ rfl
        simp only [pl, Bool.false_eq_true, if_false]
        exact ⟨_, rfl, hge, by simp⟩
    case h_2 => cases hr
  case h_5 => cases hr
end
end Go.Proofs.YtpfglhjgjfhkjaaDoorVM
/- Slices of slices. -/
namespace Go.Proofs.YtpfglhjgjfhkjaaDoorVM
open Go Go.RowKit
set_option linter.unusedVariables false
set_option linter.unusedSimpArgs false

section
variable {P : Program} {G : Globs} {C : Ctx} {β : Places} {free : Nat → Prop} {N : Nat} {regs : Regs} {look : Look} {a : Act} {W : World} {nm : Nat} {Q : Exit → Act → World → Prop}
def IsBound (v : Option Value) (dflt i : Int) : Prop := (v = none ∧ i = dflt) ∨ ∃ k, v = some (.int k i)
theorem loOf_bound (h : Rel P G C β free N regs look a W) {o : Option Operand} {l : Int} (hl : loOf (evalD G regs) o = some l) : IsBound (o.map a.eval) 0 l := by
  cases o with
  | none => simp [loOf] at hl; exact .inl ⟨rfl, hl.symm⟩
  | some x =>
    simp only [loOf] at hl
    split at hl
    case h_1 k n he => cases hl; exact .inr ⟨k, by simp [ev_int h he]⟩
    case h_2 => cases hl
theorem hiOf_bound (h : Rel P G C β free N regs look a W) {o : Option Operand} {d : Nat} {l : Int} (hl : hiOf (evalD G regs) d o = some l) : IsBound (o.map a.eval) d l := by
  cases o with
  | none => simp [hiOf] at hl; exact .inl ⟨rfl, hl.symm⟩
  | some x =>
    simp only [hiOf] at hl
    split at hl
    case h_1 k n he => cases hl; exact .inr ⟨k, by simp [ev_int h he]⟩
    case h_2 => cases hl
theorem run_sb {k : IntKind} {i : Int} {y : Nat} {code : BoundsCode} (h0 : 0 ≤ i) (h1 : i ≤ (y : Int)) (w : World) : (Instr.sliceBound (.int k i) y code).run P w = .ok i.toNat w := by
  simp [Instr.sliceBound, asIntOf, h0, h1]
theorem run_bounds {isS : Bool} {len cap : Nat} {lo hi : Option Value} {l h : Int} (hlo : IsBound lo 0 l) (hhi : IsBound hi len h) (h0 : 0 ≤ h) (h1 : h ≤ (cap : Int)) (h2 : 0 ≤ l) (h3 : l ≤ h) :
    (Instr.sliceBounds isS len cap lo hi none).run P W = .ok (l.toNat, h.toNat, cap) W := by
  have h3' : l ≤ (h.toNat : Int) := by omega
  rcases hhi with ⟨rfl, rfl⟩ | ⟨k, rfl⟩ <;> rcases hlo with ⟨rfl, rfl⟩ | ⟨k', rfl⟩ <;>
    simp only [Instr.sliceBounds, Sem.run_bind, Sem.run_pure, Result.andThen_ok, run_sb h0 h1, run_sb h2 h3', Int.toNat_natCast, Int.toNat_zero, Option.isSome_none]
  rw [run_sb h2 h3]
  rfl
theorem run_bounds3 {isS : Bool} {len cap : Nat} {lo hi : Option Value} {l h : Int} {k3 : IntKind} (hlo : IsBound lo 0 l) (hhi : ∃ k, hi = some (.int k h)) (h0 : 0 ≤ h) (h1 : h ≤ (cap : Int)) (h2 : 0 ≤ l) (h3 : l ≤ h) :
    (Instr.sliceBounds isS len cap lo hi (some (.int k3 h))).run P W = .ok (l.toNat, h.toNat, h.toNat) W := by
  have h3' : l ≤ (h.toNat : Int) := by omega
  have h4 : h ≤ (h.toNat : Int) := by omega
  obtain ⟨k, rfl⟩ := hhi
  rcases hlo with ⟨rfl, rfl⟩ | ⟨k', rfl⟩ <;>
    simp only [Instr.sliceBounds, Sem.run_bind, Sem.run_pure, Result.andThen_ok, run_sb h0 h1, run_sb h0 h4, run_sb h2 h3', Int.toNat_zero]
theorem run_sliceAt {t e : TypeId} {s len cap : Nat} {ad : Option Addr} {lo hi mx : Option Value} {l h m : Nat} (ht : P.underlying t = some (.slice e)) (hs : csz P e = some s) (hb : (Instr.sliceBounds true len cap lo hi mx).run P W = .ok (l, h, m) W) :
    (Instr.sliceAt t (.slice ad len cap) lo hi mx).run P W = .ok (.slice (if m = l then ad else ad.map (·.add (l * s))) (h - l) (m - l)) W := by
  simp only [Instr.sliceAt, Sem.run_bind, run_und ht, Result.andThen_ok, Instr.slice, hb, run_sizeOf' hs]
  rfl
theorem run_sliceStr {t : TypeId} {s : ByteArray} {lo hi : Option Value} {l h m : Nat} (ht : P.underlying t = some .string) (hb : (Instr.sliceBounds false s.size s.size lo hi none).run P W = .ok (l, h, m) W) :
    (Instr.sliceAt t (.string s) lo hi none).run P W = .ok (.string (s.extract l h)) W := by
  simp [Instr.sliceAt, Sem.run_bind, run_und ht, Instr.slice, hb]
theorem run_sliceArr {t e : TypeId} {n s b o : Nat} {lo hi : Option Value} {l h m : Nat} (ht : P.underlying t = some (.array n e)) (hs : csz P e = some s) (hb : (Instr.sliceBounds false n n lo hi none).run P W = .ok (l, h, m) W) :
    (Instr.sliceAt t (.pointer (some ⟨b, o, none⟩)) lo hi none).run P W = .ok (.slice (some (if m = l then ⟨b, o, none⟩ else ⟨b, o + l * s, none⟩)) (h - l) (m - l)) W := by
  simp only [Instr.sliceAt, Sem.run_bind, run_und ht, Result.andThen_ok, Instr.sureAddr, Sem.run_pure, hb, run_sizeOf' hs, add_none]
theorem zeroOp_some {o : Option Operand} (h : zeroOp o = true) : ∃ k, o = some (.const (.int k 0)) := by
  unfold zeroOp at h
  split at h
  case h_1 k => exact ⟨k, rfl⟩
  case h_2 => cases h
theorem PRow.sub {ok : Nat → Prop} {e : TypeId} {xs : List T} {ad : Option Addr} {s : Nat} (h : PRow P W ok e xs ad) (hs : csz P e = some s) (l h' : Nat) (hl : l ≤ h') (hh : h' ≤ xs.length) : PRow P W ok e ((xs.take h').drop l) (ad.map (·.add (l * s))) := by
  cases h with
  | nil =>
    have : (([] : List T).take h').drop l = [] := by simp
    rw [this]; exact .nil
  | mk h1 h2 h3 h4 h5 =>
    rename_i b off s' c el fr
    rw [hs] at h1; cases h1
    show PRow P W ok e _ (some ((⟨b, off, none⟩ : Addr).add (l * s)))
    rw [add_none]
    refine .mk hs h2 h3 h4 (fun i x hx => ?_)
    rw [List.getElem?_drop, List.getElem?_take] at hx
    split at hx
    · have := h5 (l + i) x hx
      rw [Nat.add_mul, ← Nat.add_assoc] at this
      exact this
    · cases hx
theorem arr_inv {ok : Nat → Prop} {τ : TypeId} {t : T} {cs : List Value} {N : Nat} {e : TypeId} {s : Nat} (h : PRep P W ok τ t cs) (ha : arrOf P τ = some (N, e, s)) : cs.length = N * s ∧ ∀ i, i < N → PRep P W ok e (t.get i) ((cs.drop (i * s)).take s) := by
  obtain ⟨_, _, _, _, hF⟩ := arrOf_agg ha
  cases h with
  | arr e1 e2 e3 => rw [ha] at e1; cases e1; exact ⟨e2, e3⟩
  | int e1 => rw [hF] at e1; cases e1
  | bool e1 => rw [hF] at e1; cases e1
  | str e1 => rw [hF] at e1; cases e1
  | slice e1 => rw [hF] at e1; cases e1
  | struct e1 => rw [arr_fields ha] at e1; cases e1
theorem opv_slice (h : Rel P G C β free N regs look a W) {o : Oper} {t : TypeId} {x : Operand} {lo hi mx : Option Operand} (ho : o.op = .slice t x lo hi mx) {r : OR} {u : OpOut}
    (hr : sliceD P look (evalD G regs) t (evalD G regs x) lo hi mx = some r) (hu : r.get = some u) : o.wp P a W (Nxt P G C β free N regs look o.dst nm u) Q := by
  generalize hx : evalD G regs x = dx at hr
  have he : ∀ v, (Instr.sliceAt t (a.eval x) (lo.map a.eval) (hi.map a.eval) (mx.map a.eval)).run P W = .ok v W → (execOp a.eval o).run P W = .ok (.value v) W := by
    intro v hv
    simp only [execOp, ho, Sem.run_bind, hv]; rfl
  have hesz : ∀ {e : TypeId} {xs : List T} {n : Nat}, look n = some (.row e xs) → ∃ s, csz P e = some s := fun hl => by
    obtain ⟨pl, _, h1⟩ := h.objs _ _ hl
    exact ⟨_, h1.2.1⟩
  unfold sliceD at hr
  split at hr
  case h_1 ht =>
    split at hr
    case h_1 s =>
      unfold sliceStr at hr
      split at hr
      case h_1 l hh hlo hhi =>
        cases hr
        obtain ⟨hc, rfl⟩ := need_get hu
        simp only [Bool.and_eq_true, decide_eq_true_eq] at hc
        refine wp_pure h (he _ ?_) rv_str
        rw [ev_str h hx]
        exact run_sliceStr ht (run_bounds (loOf_bound h hlo) (hiOf_bound h hhi) hc.1.1.1 hc.1.1.2 hc.1.2 hc.2)
      case h_2 => cases hr
    case h_2 => cases hr
  case h_2 e ht =>
    obtain ⟨s, hs⟩ := Option.isSome_iff_exists.1 (bif_some hr).1
    replace hr := (bif_some hr).2
    cases hz : (zeroOp hi && zeroOp mx && (zeroOp lo || lo.isNone)) with
    | true =>
      rw [hz] at hr
      simp only [cond_true] at hr
      simp only [Bool.and_eq_true, Bool.or_eq_true] at hz
      obtain ⟨k1, rfl⟩ := zeroOp_some hz.1.1
      obtain ⟨k2, rfl⟩ := zeroOp_some hz.1.2
      have hlo : IsBound (lo.map a.eval) 0 0 := by
        rcases hz.2 with h1 | h1
        · obtain ⟨k3, rfl⟩ := zeroOp_some h1
          exact .inr ⟨k3, rfl⟩
        · cases lo with
          | none => exact .inl ⟨rfl, rfl⟩
          | some _ => cases h1
      have fin : ∀ ad len cap, a.eval x = .slice ad len cap → ∀ tc, u = { d := .emp, touch := tc } → o.wp P a W (Nxt P G C β free N regs look o.dst nm u) Q := by
        intro ad len cap hv tc hu'
        have hbd := run_bounds3 (P := P) (W := W) (isS := true) (len := len) (cap := cap) (k3 := k2) hlo ⟨k1, rfl⟩ (Int.le_refl 0) (by omega) (Int.le_refl 0) (Int.le_refl 0)
        have hrun := run_sliceAt (ad := ad) ht hs hbd
        subst hu'
        refine wp_pure h (he _ (by rw [hv]; exact hrun)) (RV_scalar ⟨ad, by simp⟩ rfl)
      have lie : ∀ {d : D} {xs : List T} {e : TypeId} {tc : List Nat}, elemsD look d = some (xs, e, tc) → evalD G regs x = d → ∃ ad cap, a.eval x = .slice ad xs.length cap := fun hel hd => by
        obtain ⟨ad, cap, h1, _⟩ := elems_lie h (hd ▸ rv_eval h x) hel
        exact ⟨ad, cap, h1⟩
      unfold sliceNil at hr
      split at hr
      case h_1 xs e' c =>
        replace hr := (bif_some hr).2
        cases hr; cases done_get hu
        obtain ⟨ad, cap, h1⟩ := lie (d := .row xs e' c) rfl hx
        exact fin _ _ _ h1 _ rfl
      case h_2 n =>
        split at hr
        case h_1 e' xs hl =>
          replace hr := (bif_some hr).2
          cases hr; cases done_get hu
          obtain ⟨ad, cap, h1⟩ := lie (d := .own n) (by simp [elemsD, hl]; exact ⟨rfl, rfl, rfl⟩) hx
          exact fin _ _ _ h1 _ rfl
        case h_2 => cases hr
      case h_3 n lo0 len =>
        split at hr
        case h_1 e' xs hl =>
          replace hr := (bif_some hr).2
          cases hr; cases done_get hu
          obtain ⟨ad, cap, h1⟩ := lie (d := .sub n lo0 len) (by simp [elemsD, hl]; exact ⟨rfl, rfl, rfl⟩) hx
          exact fin _ _ _ h1 _ rfl
        case h_2 => cases hr
      case h_4 =>
        cases hr; cases done_get hu
        have := ev_scalar h hx rfl
        simp [RC] at this
        exact fin _ _ _ this _ rfl
      case h_5 =>
        cases hr; cases done_get hu
        obtain ⟨ad, h1⟩ := ev_scalar h hx rfl
        injection h1 with h1 _
        exact fin _ _ _ h1 _ rfl
      case h_6 => cases hr
    | false =>
      rw [hz] at hr
      simp only [cond_false] at hr
      unfold sliceRow at hr
      split at hr
      case h_1 xs e' c =>
        split at hr
        case h_1 l hh hlo hhi =>
          have hb := beqN (bif_some hr).1
          replace hr := (bif_some hr).2
          subst hb
          obtain ⟨ad, cap, h1, h2, h3, h4⟩ := ev_scalar h hx rfl
          injection h1 with h1 _
          split at hr
          case h_1 =>
            cases hr
            obtain ⟨hc, rfl⟩ := need_get hu
            simp only [Bool.and_eq_true, decide_eq_true_eq] at hc
            have hrun := run_sliceAt (ad := ad) ht hs (run_bounds (P := P) (W := W) (isS := true) (loOf_bound h hlo) (hiOf_bound h hhi) hc.1.1.1 (show hh ≤ (cap : Int) by omega) hc.1.2 hc.2)
            refine wp_pure h (he _ (by rw [h1]; exact hrun)) (RV_scalar ?_ rfl)
            have hlen : ((xs.take hh.toNat).drop l.toNat).length = hh.toNat - l.toNat := by rw [List.length_drop, List.length_take]; omega
            refine ⟨_, _, by rw [hlen], ?_, by rw [hlen]; omega, fun hcl => ?_⟩
            · by_cases hm : cap = l.toNat
              · have : (xs.take hh.toNat).drop l.toNat = [] := List.eq_nil_of_length_eq_zero (by rw [hlen]; omega)
                rw [this]; exact .nil
              · rw [if_neg hm]
                exact PRow.sub h2 hs _ _ (by omega) (by omega)
            · simp only [Bool.and_eq_true] at hcl
              have := h4 hcl.1
              rw [hlen]
              cases hi with
              | none => simp [hiOf] at hhi; subst hhi; omega
              | some _ => simp at hcl
          case h_2 m =>
            split at hr
            case h_1 hi' k3 mm hm =>
              cases hr
              obtain ⟨hc, rfl⟩ := need_get hu
              simp only [Bool.and_eq_true, decide_eq_true_eq] at hc
              obtain ⟨⟨⟨⟨rfl, hc1⟩, hc2⟩, hc3⟩, hc4⟩ := hc
              have hhb : ∃ k, (some hi').map a.eval = some (.int k mm) := by
                rcases hiOf_bound h hhi with ⟨h5, _⟩ | h5
                · cases h5
                · exact h5
              have hmb : a.eval m = .int k3 mm := ev_int h hm
              have hrun := run_sliceAt (ad := ad) ht hs (run_bounds3 (P := P) (W := W) (isS := true) (k3 := k3) (len := xs.length) (loOf_bound h hlo) hhb hc1 (show mm ≤ (cap : Int) by omega) hc3 hc4)
              refine wp_pure h (he _ (by rw [h1]; simp only [Option.map_some, hmb] at hrun ⊢; exact hrun)) (RV_scalar ?_ rfl)
              have hlen : ((xs.take mm.toNat).drop l.toNat).length = mm.toNat - l.toNat := by rw [List.length_drop, List.length_take]; omega
              refine ⟨_, _, by rw [hlen], ?_, by rw [hlen]; omega, fun hcl => by rw [hlen]⟩
              by_cases hm : mm.toNat = l.toNat
              · have : (xs.take mm.toNat).drop l.toNat = [] := List.eq_nil_of_length_eq_zero (by rw [hlen]; omega)
                rw [this]; exact .nil
              · rw [if_neg hm]
                exact PRow.sub h2 hs _ _ (by omega) (by omega)
            case h_2 => cases hr
        case h_2 => cases hr
      case h_2 n =>
        split at hr
        case h_1 e' xs hl =>
          split at hr
          case h_1 l hh hlo hhi =>
            have hb := beqN (bif_some hr).1
            replace hr := (bif_some hr).2
            subst hb
            cases hr
            obtain ⟨hc, rfl⟩ := need_get hu
            simp only [Bool.and_eq_true, decide_eq_true_eq] at hc
            obtain ⟨pl, h1, h2⟩ := ev_scalar h hx rfl
            obtain ⟨pl', h3, h4, h5, h6, h7, h8⟩ := h.objs n _ hl
            rw [h1] at h3; cases h3
            replace h5 : csz P e = some pl.sz := h5
            rw [hs] at h5
            have hsz : s = pl.sz := Option.some.inj h5
            cases hv : pl.virt with
            | true =>
              rw [hv] at h2
              obtain ⟨ad, h2⟩ := h2
              injection h2 with h2 _
              have := h7 hv
              subst this
              simp at hc
              have hl0 : l = 0 := by omega
              have hh0 : hh = 0 := by omega
              subst hl0; subst hh0
              have hrun := run_sliceAt (ad := ad) ht hs (run_bounds (P := P) (W := W) (isS := true) (cap := 0) (loOf_bound h hlo) (hiOf_bound h hhi) (Int.le_refl 0) (by simp) (Int.le_refl 0) (Int.le_refl 0))
              refine wp_pure h (he _ (by rw [h2]; exact hrun)) (RV_scalar ⟨pl, h1, by simp, .inl ⟨by simp, ad, by simp⟩⟩ rfl)
            | false =>
              rw [hv] at h2
              simp only [Bool.false_eq_true, if_false] at h2
              obtain ⟨cap, h9, h10, h11⟩ := h2
              injection h9 with h9 _
              have hrun := run_sliceAt (ad := some ⟨pl.b, pl.off, none⟩) ht hs (run_bounds (P := P) (W := W) (isS := true) (len := pl.len) (cap := cap) (loOf_bound h hlo) (by rw [h4]; exact hiOf_bound h hhi) hc.1.1.1 (by omega) hc.1.2 hc.2)
              refine wp_pure h (he _ (by rw [h9]; exact hrun)) (RV_scalar ⟨pl, h1, by omega, ?_⟩ rfl)
              by_cases hm : cap = l.toNat
              · left
                exact ⟨by omega, _, by rw [show hh.toNat - l.toNat = 0 by omega, show cap - l.toNat = 0 by omega]⟩
              · right
                refine ⟨hv, cap - l.toNat, by rw [if_neg hm]; simp only [Option.map_some, add_none, hsz], by omega, ?_⟩
                rw [show l.toNat + (cap - l.toNat) = cap by omega]
                exact h11
          case h_2 => cases hr
        case h_2 => cases hr
      case h_3 n lo0 len =>
        split at hr
        case h_1 e' xs hl =>
          split at hr
          case h_1 l hh hlo hhi =>
            have hb := beqN (bif_some hr).1
            replace hr := (bif_some hr).2
            subst hb
            cases hr
            obtain ⟨hc, rfl⟩ := need_get hu
            simp only [Bool.and_eq_true, decide_eq_true_eq] at hc
            obtain ⟨pl, h1, hll, h2⟩ := ev_scalar h hx rfl
            obtain ⟨pl', h3, h4, h5, h6, h7, h8⟩ := h.objs n _ hl
            rw [h1] at h3; cases h3
            replace h5 : csz P e = some pl.sz := h5
            rw [hs] at h5
            have hsz : s = pl.sz := Option.some.inj h5
            rcases h2 with ⟨rfl, ad, h2⟩ | ⟨hv, cap, h9, h10, h11⟩
            · injection h2 with h2 _
              have hl0 : l = 0 := by omega
              have hh0 : hh = 0 := by omega
              subst hl0; subst hh0
              have hrun := run_sliceAt (ad := ad) ht hs (run_bounds (P := P) (W := W) (isS := true) (cap := 0) (loOf_bound h hlo) (hiOf_bound h hhi) (Int.le_refl 0) (by simp) (Int.le_refl 0) (Int.le_refl 0))
              refine wp_pure h (he _ (by rw [h2]; exact hrun)) (RV_scalar ⟨pl, h1, by simpa using hll, .inl ⟨by simp, ad, by simp⟩⟩ rfl)
            · injection h9 with h9 _
              have hrun := run_sliceAt (ad := some ⟨pl.b, pl.off + lo0 * pl.sz, none⟩) ht hs (run_bounds (P := P) (W := W) (isS := true) (len := len) (cap := cap) (loOf_bound h hlo) (hiOf_bound h hhi) hc.1.1.1 (by omega) hc.1.2 hc.2)
              refine wp_pure h (he _ (by rw [h9]; exact hrun)) (RV_scalar ⟨pl, h1, by omega, ?_⟩ rfl)
              by_cases hm : cap = l.toNat
              · left
                exact ⟨by omega, _, by rw [show hh.toNat - l.toNat = 0 by omega, show cap - l.toNat = 0 by omega]⟩
              · right
                refine ⟨hv, cap - l.toNat, by rw [if_neg hm]; simp only [Option.map_some, add_none, hsz, Nat.add_mul, Nat.add_assoc], by omega, ?_⟩
                rw [show lo0 + l.toNat + (cap - l.toNat) = lo0 + cap by omega]
                exact h11
          case h_2 => cases hr
        case h_2 => cases hr
      case h_4 => cases hr
  case h_3 M' e ht =>
    split at hr
    case h_1 =>
      unfold sliceArr at hr
      split at hr
      case h_1 n τ =>
        split at hr
        case h_1 N' e' z τ' τ'' tr har hl =>
          split at hr
          case h_1 l hh hlo hhi =>
            have hb := (bif_some hr).1
            replace hr := (bif_some hr).2
            simp only [Bool.and_eq_true] at hb
            have := beqN hb.1.1; subst this
            have := beqN hb.1.2; subst this
            have := beqN hb.2; subst this
            cases hr
            obtain ⟨hc, rfl⟩ := need_get hu
            simp only [Bool.and_eq_true, decide_eq_true_eq] at hc
            obtain ⟨g1, g2, g3, g4, hF⟩ := arrOf_agg har
            obtain ⟨pl, off, h1, h2, h3, h4⟩ := ev_scalar h hx rfl
            injection h1 with h1 _
            simp only [poff, Option.some.injEq] at h4
            subst h4
            obtain ⟨pl', h5, h6, c, el, fr, h7, h8, h9, h10, h11⟩ := h.objs n _ hl
            rw [h2] at h5; cases h5
            obtain ⟨q1, q2, q3⟩ := h10
            have hrun := run_sliceArr (P := P) (W := W) (b := pl.b) (o := 0) hF g3 (run_bounds (isS := false) (loOf_bound h hlo) (hiOf_bound h hhi) hc.1.1.1 hc.1.1.2 hc.1.2 hc.2)
            refine wp_value (he _ (by rw [h1]; exact hrun)) ?_
            refine nxt_gone h (Wr.refl _ W) (frz := [n]) (fun hle => RV_scalar ?_ rfl)
            have hok' : okOf C β (updF look (goneAll [n])) pl.b := frz_ok h hl rfl h2 h3 (fun m p' hm hp' hv' => by
              rw [updF_gone] at hm
              split at hm
              · exact absurd rfl hm
              · rename_i hne
                exact .inl ⟨fun e => hne (by simp [e]), hm, hp'⟩)
            have hlen : (((List.range N').map tr.get |>.take hh.toNat).drop l.toNat).length = hh.toNat - l.toNat := by rw [List.length_drop, List.length_take, List.length_map, List.length_range]; omega
            refine ⟨_, _, by rw [hlen], ?_, by rw [hlen]; omega, fun hcl => by cases hcl⟩
            have hwhole : PRow P W (okOf C β (updF look (goneAll [n]))) e' ((List.range N').map tr.get) (some ⟨pl.b, 0, none⟩) := by
              refine .mk g3 g4 hok' h7 (fun i y hy => ?_)
              have hi : i < N' := by have := (List.getElem?_eq_some_iff.1 hy).1; simpa using this
              have hy' : y = tr.get i := by simp [hi] at hy; exact hy.symm
              subst hy'
              rw [Nat.zero_add]
              exact ((arr_inv q1 har).2 i hi).stay hle.stay
            by_cases hm : N' = l.toNat
            · have : ((List.range N').map tr.get |>.take hh.toNat).drop l.toNat = [] := List.eq_nil_of_length_eq_zero (by rw [hlen]; omega)
              rw [this]; exact .nil
            · rw [if_neg hm]
              have := PRow.sub hwhole g3 l.toNat hh.toNat (by omega) (by simp; omega)
              show PRow P W (okOf C β (updF look (goneAll [n]))) e' _ _
              simpa [add_none] using this
          case h_2 => cases hr
        case h_2 => cases hr
      case h_2 => cases hr
    case h_2 => cases hr
  case h_4 => cases hr
end
end Go.Proofs.YtpfglhjgjfhkjaaDoorVM
/- append, make. -/
namespace Go.Proofs.YtpfglhjgjfhkjaaDoorVM
open Go Go.RowKit
set_option linter.unusedVariables false
set_option linter.unusedSimpArgs false

section
variable {P : Program} {G : Globs} {C : Ctx} {β : Places} {free : Nat → Prop} {N : Nat} {regs : Regs} {look : Look} {a : Act} {W : World} {nm : Nat} {Q : Exit → Act → World → Prop}
/-- What is appended. -/
structure Adds (P : Program) (W : World) (ok : Nat → Prop) (e : TypeId) (s : Nat) (ys : List T) (v : Value) (cs : List Value) : Prop where
  len : cs.length = ys.length * s
  lenOf : (Builtin.lenOf v).run P W = .ok ys.length W
  first : ∀ (w : World), w.heap = W.heap → (Builtin.firstCells s ys.length v).run P w = .ok cs.toArray w
  rep : ∀ i y, ys[i]? = some y → PRep P W ok e y ((cs.drop (i * s)).take s)
  one : ∀ x, x ∈ cs → x.oneCell' = true
theorem adds_read (h : Rel P G C β free N regs look a W) {e s : Nat} (hs : csz P e = some s) {d : D} {v : Value} (hv : RV (memOf P C β look W) β d v) {ys : List T} {tx : List Nat} (hd : addsD P look e d = some (ys, tx)) :
    ∃ cs, Adds P W (okOf C β look) e s ys v cs := by
  have viaRow : ∀ {d : D}, RV (memOf P C β look W) β d v → ∀ {tc : List Nat}, elemsD look d = some (ys, e, tc) → ∃ cs, Adds P W (okOf C β look) e s ys v cs := by
    intro d hv tc hel
    obtain ⟨ad, cap, h1, h2⟩ := elems_lie h hv hel
    obtain ⟨cs, c1, c2, c3, c4, c5⟩ := h2.cells hs
    subst h1
    exact ⟨cs, c1, rfl, fun w hw => c2 w hw cap, c4, c5⟩
  have nil : ∀ ad, v = .slice ad 0 0 → ys = [] → ∃ cs, Adds P W (okOf C β look) e s ys v cs := by
    rintro ad rfl rfl
    refine ⟨[], by simp, rfl, fun w _ => ?_, fun i y hy => by simp at hy, fun x hx => by simp at hx⟩
    cases ad <;> simp [Builtin.firstCells, loadCells, loadCellsFrom]
  unfold addsD at hd
  split at hd
  case h_1 xs e' c =>
    have hb := beqN (bif_some hd).1
    replace hd := (bif_some hd).2
    subst hb; cases hd
    exact viaRow hv rfl
  case h_2 n =>
    split at hd
    case h_1 e' xs hl =>
      have hb := beqN (bif_some hd).1
      replace hd := (bif_some hd).2
      subst hb; cases hd
      exact viaRow hv (by simp [elemsD, hl]; rfl)
    case h_2 => cases hd
  case h_3 n lo len =>
    split at hd
    case h_1 e' xs hl =>
      have hb := beqN (bif_some hd).1
      replace hd := (bif_some hd).2
      subst hb; cases hd
      exact viaRow hv (by simp [elemsD, hl]; rfl)
    case h_2 => cases hd
  case h_4 =>
    cases hd
    have := RV_out hv rfl
    simp [RC] at this
    exact nil none this rfl
  case h_5 =>
    cases hd
    obtain ⟨ad, h1⟩ := RV_out hv rfl
    injection h1 with h1 _
    exact nil ad h1 rfl
  case h_6 str =>
    split at hd
    case h_1 hu8 =>
      cases hd
      have hvs := RV_out hv rfl
      simp [RC] at hvs
      subst hvs
      have hs1 : s = 1 := (csz_spec hs).2.1 (by simp [isAggB, hu8])
      subst hs1
      have hex : str.extract 0 str.size = str := by simp
      refine ⟨str.data.toList.map fun b => .int .u8 b.toNat, by simp [tBytes], ?_, fun w _ => ?_, fun i y hy => ?_, fun x hx => ?_⟩
      · simp [Builtin.lenOf, tBytes]
      · simp only [Builtin.firstCells, tBytes, List.length_map, Array.length_toList]
        rw [show str.data.size = str.size from rfl, hex]
        simp only [Sem.run_pure]
        congr 1
        apply Array.ext'
        simp
      · have hi : i < str.data.size := by have := (List.getElem?_eq_some_iff.1 hy).1; simpa [tBytes] using this
        have hg : str.data[i]? = some str.data[i] := Array.getElem?_eq_getElem hi
        have hy' : (tBytes str)[i]? = some (.int (str.data[i].toNat : Int)) := by simp [tBytes, hg]
        rw [hy'] at hy; cases hy
        rw [Nat.mul_one, take_one (x := .int .u8 (str.data[i].toNat : Int)) (by simp [hg])]
        exact .int (t := .int (str.data[i].toNat : Int)) hu8
      · simp only [List.mem_map] at hx
        obtain ⟨b, _, rfl⟩ := hx; rfl
    case h_2 => cases hd
  case h_7 => cases hd
theorem run_append_in {t t2 ty e s : TypeId} (ht : P.underlying t = some (.slice e)) (hs : csz P e = some s) {d2 : TypeDesc} (ht2 : P.underlying t2 = some d2) (hni : ∀ k, d2 ≠ .int k)
    {b off sLen sCap : Nat} {vx : Value} {n : Nat} {cs : List Value} (hlen : (Builtin.lenOf vx).run P W = .ok n W) (hcs : (Builtin.firstCells s n vx).run P W = .ok cs.toArray W) (hle : sLen + n ≤ sCap) {W' : World}
    (hst : (storeCells ⟨b, off + sLen * s, none⟩ cs).run P W = .ok () W') :
    (Builtin.append_ #[t, t2] ty #[.slice (some ⟨b, off, none⟩) sLen sCap, vx]).run P W = .ok (.slice (some ⟨b, off, none⟩) (sLen + n) sCap) W' := by
  have hm : (match d2 with | .int _ => true | _ => false) = false := by
    cases d2 <;> first | rfl | exact absurd rfl (hni _)
  simp [Builtin.append_, run_und ht, run_sizeOf' hs, run_und ht2, hm, hlen, hle, hcs, add_none, hst]
theorem run_append_same {t t2 ty e s : TypeId} (ht : P.underlying t = some (.slice e)) (hs : csz P e = some s) {d2 : TypeDesc} (ht2 : P.underlying t2 = some d2) (hni : ∀ k, d2 ≠ .int k)
    {ad : Option Addr} {sLen sCap : Nat} {vx : Value} (hlen : (Builtin.lenOf vx).run P W = .ok 0 W) (hcs : (Builtin.firstCells s 0 vx).run P W = .ok #[] W) (hle : sLen ≤ sCap) :
    (Builtin.append_ #[t, t2] ty #[.slice ad sLen sCap, vx]).run P W = .ok (.slice ad sLen sCap) W := by
  have hm : (match d2 with | .int _ => true | _ => false) = false := by
    cases d2 <;> first | rfl | exact absurd rfl (hni _)
  cases ad <;> simp [Builtin.append_, run_und ht, run_sizeOf' hs, run_und ht2, hm, hlen, hle, hcs, storeCells]
theorem run_append_new {t t2 ty e s : TypeId} (ht : P.underlying t = some (.slice e)) (hs : csz P e = some s) {d2 : TypeDesc} (ht2 : P.underlying t2 = some d2) (hni : ∀ k, d2 ≠ .int k) {i : TypeInfo} {z : Value} (hi : P.info? e = some i) (hz : i.zero = some z) (hby : i.bytes ≤ 65536)
    {ad : Option Addr} {sLen sCap : Nat} {vx : Value} {n : Nat} {cs olds : List Value} (hlen : (Builtin.lenOf vx).run P W = .ok n W) (hlt : sCap < sLen + n) (hmost : sLen + n < most)
    (hst : (Builtin.firstCells s n vx).run P W.drew = .ok cs.toArray W.drew) (hold : (Builtin.firstCells s sLen (.slice ad sLen sCap)).run P W.drew = .ok olds.toArray W.drew) :
    (Builtin.append_ #[t, t2] ty #[.slice ad sLen sCap, vx]).run P W = .ok (.slice (some ⟨W.heap.size, 0, none⟩) (sLen + n) (grownCap W (sLen + n) sCap e))
      (W.drew.alloc (.cells (olds.toArray ++ cs.toArray ++ Builtin.zeroCells z.cells (grownCap W (sLen + n) sCap e - (sLen + n))) e)) := by
  have hm : (match d2 with | .int _ => true | _ => false) = false := by
    cases d2 <;> first | rfl | exact absurd rfl (hni _)
  have hnle : ¬ (sLen + n ≤ sCap) := by omega
  have hmax : ¬ (((sLen + n : Nat) : Int) > IntKind.i64.max) := by
    have : IntKind.i64.max = 9223372036854775807 := rfl
    unfold most at hmost; omega
  have hfit : ¬ (Builtin.nextslicecap (sLen + n) sCap * i.bytes > 2 ^ 48) := by
    have h1 : (sLen + n) * i.bytes ≤ 140737488355328 := by
      have : (sLen + n) * i.bytes ≤ most * 65536 := Nat.mul_le_mul (by omega) hby
      unfold most at this; omega
    have := growslice_fits (old := sCap) hlt h1
    omega
  have hti : (typeInfo e).run P W = .ok i W := by simp [typeInfo, hi]
  have hti' : (typeInfo e).run P W.drew = .ok i W.drew := by simp [typeInfo, hi]
  have hzv : (zeroValue e).run P W.drew = .ok z W.drew := by simp [zeroValue, typeInfo, hi, hz]
  have hmax' : ¬ (9223372036854775807 < (sLen : Int) + (n : Int)) := by unfold most at hmost; omega
  have hfit' : ¬ (281474976710656 < Builtin.nextslicecap (sLen + n) sCap * i.bytes) := by omega
  have hmx : IntKind.i64.max = 9223372036854775807 := rfl
  simp [Builtin.append_, run_und ht, run_sizeOf' hs, run_und ht2, hm, hlen, hnle, hmx, hmax', hti, hfit', Question.forced, hti', hst, hold, hzv, newRow, grownCap]
  rw [← Array.append_assoc]; simp
theorem zeroCells_size (z : Array Value) (n : Nat) : (Builtin.zeroCells z n).size = n * z.size := by simp [Builtin.zeroCells]
/-- Cells of a row that begins with some elements. -/
theorem segs_append {ok : Nat → Prop} {e s : Nat} {xs ys : List T} {cx cy rest : List Value} (hx : cx.length = xs.length * s) (h1 : ∀ i x, xs[i]? = some x → PRep P W ok e x ((cx.drop (i * s)).take s)) (h2 : ∀ i y, ys[i]? = some y → PRep P W ok e y ((cy.drop (i * s)).take s)) (hy : cy.length = ys.length * s) :
    ∀ i x, (xs ++ ys)[i]? = some x → PRep P W ok e x (((cx ++ (cy ++ rest)).drop (i * s)).take s) := by
  intro i x hi
  by_cases hlt : i < xs.length
  · rw [List.getElem?_append_left hlt] at hi
    have : (i + 1) * s ≤ xs.length * s := Nat.mul_le_mul_right s hlt
    rw [Nat.add_mul, Nat.one_mul] at this
    rw [drop_take_append_left _ _ _ _ (by omega)]
    exact h1 i x hi
  · rw [List.getElem?_append_right (by omega)] at hi
    have h3 : xs.length * s ≤ i * s := Nat.mul_le_mul_right s (by omega)
    rw [drop_take_append_right _ _ _ _ (by omega), hx, ← Nat.sub_mul]
    have hj : i - xs.length < ys.length := (List.getElem?_eq_some_iff.1 hi).1
    have : (i - xs.length + 1) * s ≤ ys.length * s := Nat.mul_le_mul_right s hj
    rw [Nat.add_mul, Nat.one_mul] at this
    rw [drop_take_append_left _ _ _ _ (by omega)]
    exact h2 _ x hi
/-- A row moves on under a new name: in its own block, or in a new one. -/
theorem nxt_moved (h : Rel P G C β free N regs look a W) (hfr : free nm) {n : Nat} {o0 : O} {pl0 : Place} (hl : look n = some o0) (hro0 : isRo o0 = false) (hpl0 : β n = some pl0) {W' : World} {X : Nat → Prop} (hw : Wr X W W')
    (hX : ∀ b, X b → pl0.virt = false ∧ b = pl0.b) {o : O} (hor : isRo o = false) {pl : Place} {d : D} {v : Value} {dst : Option Tmp} {touch : List Nat}
    (hpl : pl.virt = true ∨ W.heap.size ≤ pl.b ∨ (pl0.virt = false ∧ pl.b = pl0.b))
    (hro : (memOf P C β look W).Le (memOf P C (setP β nm pl) (updF look [(nm, some o), (n, none)]) W') → RO (memOf P C (setP β nm pl) (updF look [(nm, some o), (n, none)]) W') (setP β nm pl) pl o)
    (hrv : (memOf P C β look W).Le (memOf P C (setP β nm pl) (updF look [(nm, some o), (n, none)]) W') → RV (memOf P C (setP β nm pl) (updF look [(nm, some o), (n, none)]) W') (setP β nm pl) d v) :
    Nxt P G C β free N regs look dst nm { d := d, upd := [(nm, some o), (n, none)], touch := touch, fresh := 1 } (a.put dst v) W' := by
  have hβ := h.free nm hfr
  have hne : nm ≠ n := fun e => by subst e; rw [hβ] at hpl0; cases hpl0
  have hlk : ∀ m o', updF look [(nm, some o), (n, none)] m = some o' → m = nm ∧ o' = o ∨ m ≠ nm ∧ m ≠ n ∧ look m = some o' := by
    intro m o' hm
    simp only [updF, setF] at hm
    split at hm
    · cases hm
    · rename_i h1
      split at hm
      · rename_i h2; cases hm; exact .inl ⟨h2, rfl⟩
      · rename_i h2; exact .inr ⟨h2, h1, hm⟩
  have hset : ∀ m, m ≠ nm → setP β nm pl m = β m := fun m hm => by unfold setP; rw [if_neg hm]
  have hsub : Sub β (setP β nm pl) := Sub.setP hβ
  have hXo : ∀ b, X b → ∃ n pl o, look n = some o ∧ isRo o = false ∧ β n = some pl ∧ pl.virt = false ∧ pl.b = b := fun b hb => ⟨n, pl0, o0, hl, hro0, hpl0, (hX b hb).1, (hX b hb).2.symm⟩
  have hnew : pl.virt = false → W.heap.size ≤ pl.b ∨ ∃ m pl', look m ≠ none ∧ β m = some pl' ∧ pl'.virt = false ∧ pl'.b = pl.b := fun hv => by
    rcases hpl with h1 | h1 | ⟨h1, h2⟩
    · rw [hv] at h1; cases h1
    · exact .inl h1
    · exact .inr ⟨n, pl0, by rw [hl]; simp, hpl0, h1, h2.symm⟩
  have hle := h.le hw hXo hsub (look' := updF look [(nm, some o), (n, none)]) (fun m o' hm => by
    rcases hlk m o' hm with ⟨rfl, rfl⟩ | ⟨_, _, h2⟩
    · exact .inr ⟨pl, by simp [setP], hnew⟩
    · exact .inl (by rw [h2]; simp))
  refine ⟨setP β nm pl, hsub, h.step hw hXo hsub (fun m o' hm => ?_) ?_ hrv ?_⟩
  · rcases hlk m o' hm with ⟨rfl, rfl⟩ | ⟨_, hmn, h2⟩
    · refine .inr ⟨pl, by simp [setP], hro hle, fun hv => ?_⟩
      rcases hpl with h1 | h1 | ⟨h1, h2⟩
      · rw [hv] at h1; cases h1
      · exact .inl ⟨hor, h1⟩
      · exact .inr ⟨n, o0, pl0, hl, hpl0, h1, h2.symm, hro0.trans hor.symm⟩
    · refine .inl ⟨h2, fun p hp hv hx => hmn ?_⟩
      obtain ⟨h3, h4⟩ := hX _ hx
      exact h.inj m n p pl0 (by rw [h2]; simp) (by rw [hl]; simp) hp hpl0 hv h3 h4
  · intro x y p p' hx hy hp hp' hv hv' hbb
    obtain ⟨o1, ho1⟩ := Option.ne_none_iff_exists'.1 hx
    obtain ⟨o2, ho2⟩ := Option.ne_none_iff_exists'.1 hy
    have old : ∀ m o' p, m ≠ nm → m ≠ n → look m = some o' → setP β nm pl m = some p → p.virt = false → β m = some p ∧ p.b < W.heap.size ∧ (pl0.virt = false → p.b ≠ pl0.b) := by
      intro m o' p hne hnn hlo hpp hvv
      rw [hset m hne] at hpp
      obtain ⟨pl1, h5, h6⟩ := h.objs m o' hlo
      rw [hpp] at h5; cases h5
      exact ⟨hpp, h6.real hvv, fun hv0 hb => hnn (h.inj m n p pl0 (by rw [hlo]; simp) (by rw [hl]; simp) hpp hpl0 hvv hv0 hb)⟩
    have clash : ∀ p : Place, p.b < W.heap.size → (pl0.virt = false → p.b ≠ pl0.b) → pl.virt = false → p.b = pl.b → False := by
      intro p h1 h2 h3 h4
      rcases hpl with h5 | h5 | ⟨h5, h6⟩
      · rw [h3] at h5; cases h5
      · omega
      · exact h2 h5 (h4.trans h6)
    rcases hlk x o1 ho1 with ⟨rfl, rfl⟩ | ⟨h1, h1', h2⟩ <;> rcases hlk y o2 ho2 with ⟨rfl, rfl⟩ | ⟨h3, h3', h4⟩
    · rfl
    · obtain ⟨_, q2, q3⟩ := old y o2 p' h3 h3' h4 hp' hv'
      have e : p = pl := by simpa [setP] using hp.symm
      subst e
      exact (clash p' q2 q3 hv hbb.symm).elim
    · obtain ⟨_, q2, q3⟩ := old x o1 p h1 h1' h2 hp hv
      have e : p' = pl := by simpa [setP] using hp'.symm
      subst e
      exact (clash p q2 q3 hv' hbb).elim
    · exact h.inj x y p p' (by rw [h2]; simp) (by rw [h4]; simp) (old x o1 p h1 h1' h2 hp hv).1 (old y o2 p' h3 h3' h4 hp' hv').1 hv hv' hbb
  · intro m hm
    have : m ≠ nm := by intro e; subst e; exact hm.2 ⟨Nat.le_refl _, Nat.lt_succ_self _⟩
    rw [hset m this]
    exact h.free m hm.1
theorem map_one {α γ : Type} {f : α → γ} {l : List α} {x : γ} (h : l.map f = [x]) : ∃ a, l = [a] ∧ f a = x := by
  cases l with
  | nil => cases h
  | cons a l => cases l with
    | nil => simp at h; exact ⟨a, rfl, h⟩
    | cons b l => simp at h
theorem map_two {α γ : Type} {f : α → γ} {l : List α} {x y : γ} (h : l.map f = [x, y]) : ∃ a b, l = [a, b] ∧ f a = x ∧ f b = y := by
  cases l with
  | nil => cases h
  | cons a l =>
    simp only [List.map_cons, List.cons.injEq] at h
    obtain ⟨h1, h2⟩ := h
    obtain ⟨b, rfl, h3⟩ := map_one h2
    exact ⟨a, b, rfl, h1, h3⟩
theorem arr_two {α : Type} {x : Array α} {a b : α} (h : x.toList = [a, b]) : x = #[a, b] := by cases x; simp at h; subst h; rfl
theorem arr_one {α : Type} {x : Array α} {a : α} (h : x.toList = [a]) : x = #[a] := by cases x; simp at h; subst h; rfl
theorem splice_seg {cs c : List Value} {o k s : Nat} (h : o + c.length ≤ cs.length) (hk : k + s ≤ c.length) : ((splice cs o c).drop (o + k)).take s = (c.drop k).take s := by
  unfold splice
  have hl : (cs.take o).length = o := by rw [List.length_take]; omega
  rw [List.drop_append, List.drop_of_length_le (by omega), hl, show o + k - o = k by omega, List.nil_append]
  exact drop_take_append_left _ _ _ _ hk
/-- A new row of elements. -/
theorem new_row_ro {M' : Mem} {β' : Places} {e s : Nat} {xs ys : List T} {cx cy : List Value} {z : Array Value} {cap : Nat} (hP : M'.P = P) (hW : M'.W = W.drew.alloc (.cells (cx.toArray ++ cy.toArray ++ Builtin.zeroCells z (cap - (xs.length + ys.length))) e)) {ok : Nat → Prop} (hst : Stay ok M'.ok W M'.W)
    (hs : csz P e = some s) (hs0 : 0 < s) (hz : z.size = s) (hcap : xs.length + ys.length ≤ cap) (hx : cx.length = xs.length * s) (h1 : ∀ i x, xs[i]? = some x → PRep P W ok e x ((cx.drop (i * s)).take s)) (h2 : ∀ i y, ys[i]? = some y → PRep P W ok e y ((cy.drop (i * s)).take s)) (hy : cy.length = ys.length * s) :
    RO M' β' { b := W.heap.size, off := 0, len := (xs ++ ys).length, sz := s, lim := cap * s } (.row e (xs ++ ys)) := by
  refine ⟨rfl, by rw [hP]; exact hs, hs0, (fun hv => by cases hv), fun _ => ⟨cx.toArray ++ cy.toArray ++ Builtin.zeroCells z (cap - (xs.length + ys.length)), e, (0, 0), ?_, ?_, fun o _ hx => by have := hx.2; omega, fun i x hi => ?_⟩⟩
  · rw [hW]; exact heap_alloc_last W.drew _
  · simp only [Array.size_append, List.size_toArray, zeroCells_size, hz, hx, hy, ← Nat.add_mul]
    congr 1; omega
  · rw [hP]
    have := segs_append (W := W) (rest := (Builtin.zeroCells z (cap - (xs.length + ys.length))).toList) hx h1 h2 hy i x hi
    simp only [Array.toList_append, List.append_assoc, Nat.zero_add]
    exact this.stay hst
theorem setP_self {β : Places} {n : Nat} {pl : Place} : setP β n pl n = some pl := by simp [setP]
theorem Wr.grow (W : World) (o : Obj) : Wr (fun _ => False) W (W.drew.alloc o) := (Wr.drew W).trans (Wr.alloc W.drew o)
theorem opv_appendTo (h : Rel P G C β free N regs look a W) (hfr : ∀ u : OpOut, u.fresh = 1 → free nm) {o : Oper} {t t2 ty e s : TypeId} {ox : Operand} {vx : Value} (he : ∀ v W', (Builtin.append_ #[t, t2] ty #[a.eval ox, vx]).run P W = .ok v W' → (execOp a.eval o).run P W = .ok (.value v) W')
    (ht : P.underlying t = some (.slice e)) (hs : csz P e = some s) (hs0 : 0 < s) {d2 : TypeDesc} (ht2 : P.underlying t2 = some d2) (hni : ∀ k, d2 ≠ .int k) {i : TypeInfo} {z : Value} (hi : P.info? e = some i) (hz : i.zero = some z) (hzs : z.cells.size = s) (hby : i.bytes ≤ 65536)
    {ys : List T} {tx : List Nat} {cs : List Value} (hA : Adds P W (okOf C β look) e s ys vx cs) {r : OR} {u : OpOut} (hr : appendTo look nm e ys tx (evalD G regs ox) = some r) (hu : r.get = some u) : o.wp P a W (Nxt P G C β free N regs look o.dst nm u) Q := by
  generalize hx : evalD G regs ox = dx at hr
  have hgrow : ∀ {ad : Option Addr} {xs : List T} {cx : List Value} {cap : Nat}, a.eval ox = .slice ad xs.length cap → cap < xs.length + ys.length → xs.length + ys.length < most → (Builtin.firstCells s xs.length (.slice ad xs.length cap)).run P W.drew = .ok cx.toArray W.drew →
      (execOp a.eval o).run P W = .ok (.value (.slice (some ⟨W.heap.size, 0, none⟩) (xs.length + ys.length) (grownCap W (xs.length + ys.length) cap e))) (W.drew.alloc (.cells (cx.toArray ++ cs.toArray ++ Builtin.zeroCells z.cells (grownCap W (xs.length + ys.length) cap e - (xs.length + ys.length))) e)) := by
    intro ad xs cx cap hv hlt hm hold
    exact he _ _ (by rw [hv]; exact run_append_new ht hs ht2 hni hi hz hby hA.lenOf hlt hm (hA.first W.drew rfl) hold)
  have hsame : ∀ {ad : Option Addr} {len cap : Nat}, a.eval ox = .slice ad len cap → ys = [] → len ≤ cap → (execOp a.eval o).run P W = .ok (.value (.slice ad len cap)) W := by
    intro ad len cap hv hy hle
    subst hy
    have h1 := hA.first W rfl
    have h2 : cs = [] := List.eq_nil_of_length_eq_zero (by have := hA.len; simpa using this)
    subst h2
    exact he _ _ (by rw [hv]; exact run_append_same ht hs ht2 hni hA.lenOf h1 hle)
  have hemp0 : ∀ (w : World) (ad : Option Addr), (Builtin.firstCells s 0 (.slice ad 0 0)).run P w = .ok #[] w := fun w ad => by cases ad <;> simp [Builtin.firstCells, loadCells, loadCellsFrom]
  have virtRO : ∀ (M' : Mem) (β' : Places), M'.P = P → RO M' β' { b := 0, off := 0, len := 0, sz := s, lim := 0, virt := true } (.row e []) := fun M' β' hP => ⟨rfl, by rw [hP]; exact hs, hs0, fun _ => rfl, fun hv => by cases hv⟩
  -- an empty row that is no one's
  have nilCase : ∀ ad, a.eval ox = .slice ad 0 0 → ys.length < most → ∀ u, u = { d := .own nm, upd := [(nm, some (.row e ys))], touch := nm :: tx, fresh := 1 } → o.wp P a W (Nxt P G C β free N regs look o.dst nm u) Q := by
    rintro ad hv hm u rfl
    have hfree := hfr { d := .own nm, fresh := 1 } rfl
    by_cases hy : ys = []
    · refine wp_value (hsame hv hy (Nat.le_refl _)) (nxt_new h hfree (frz := []) (Wr.refl _ W) (pl := { b := 0, off := 0, len := 0, sz := s, lim := 0, virt := true }) rfl (.inl rfl) (fun hle => ?_) (fun hle => ?_))
      · subst hy; exact virtRO _ _ rfl
      · exact RV_scalar ⟨{ b := 0, off := 0, len := 0, sz := s, lim := 0, virt := true }, by simp [setP], by simp⟩ rfl
    · have hpos : 0 < ys.length := List.length_pos_iff.2 hy
      have hrun := hgrow (xs := []) (cx := []) hv (by simpa using hpos) (by simpa using hm) (hemp0 _ _)
      have hge := grownCap_ge W (0 + ys.length) 0 e
      refine wp_value hrun (nxt_new h hfree (frz := []) (Wr.grow W _) (pl := { b := W.heap.size, off := 0, len := ([] ++ ys).length, sz := s, lim := (grownCap W (0 + ys.length) 0 e) * s }) rfl (.inr (Nat.le_refl _)) (fun hle => ?_) (fun hle => ?_))
      · exact new_row_ro (xs := []) (cx := []) rfl rfl hle.stay hs hs0 hzs (by simpa using hge) (by simp) (fun i x hx => by simp at hx) hA.rep hA.len
      · refine RV_scalar ⟨_, setP_self, ?_⟩ rfl
        simp only [Bool.false_eq_true, if_false]
        exact ⟨grownCap W (0 + ys.length) 0 e, by simp, by simpa using hge, by simp⟩
  -- the same where a name goes
  have nilMoved : ∀ n o0 pl0 ad, look n = some o0 → isRo o0 = false → β n = some pl0 → a.eval ox = .slice ad 0 0 → ys.length < most → ∀ u, u = { d := .own nm, upd := [(nm, some (.row e ys)), (n, none)], touch := n :: nm :: tx, fresh := 1 } → o.wp P a W (Nxt P G C β free N regs look o.dst nm u) Q := by
    rintro n o0 pl0 ad hl hro0 hpl0 hv hm u rfl
    have hfree := hfr { d := .own nm, fresh := 1 } rfl
    by_cases hy : ys = []
    · refine wp_value (hsame hv hy (Nat.le_refl _)) (nxt_moved h hfree hl hro0 hpl0 (Wr.refl (fun _ => False) W) (fun _ hx => hx.elim) rfl (pl := { b := 0, off := 0, len := 0, sz := s, lim := 0, virt := true }) (.inl rfl) (fun hle => ?_) (fun hle => ?_))
      · subst hy; exact virtRO _ _ rfl
      · exact RV_scalar ⟨{ b := 0, off := 0, len := 0, sz := s, lim := 0, virt := true }, by simp [setP], by simp⟩ rfl
    · have hpos : 0 < ys.length := List.length_pos_iff.2 hy
      have hrun := hgrow (xs := []) (cx := []) hv (by simpa using hpos) (by simpa using hm) (hemp0 _ _)
      have hge := grownCap_ge W (0 + ys.length) 0 e
      refine wp_value hrun (nxt_moved h hfree hl hro0 hpl0 (Wr.grow W _) (fun _ hx => hx.elim) rfl (pl := { b := W.heap.size, off := 0, len := ([] ++ ys).length, sz := s, lim := (grownCap W (0 + ys.length) 0 e) * s }) (.inr (.inl (Nat.le_refl _))) (fun hle => ?_) (fun hle => ?_))
      · exact new_row_ro (xs := []) (cx := []) rfl rfl hle.stay hs hs0 hzs (by simpa using hge) (by simp) (fun i x hx => by simp at hx) hA.rep hA.len
      · refine RV_scalar ⟨_, setP_self, ?_⟩ rfl
        simp only [Bool.false_eq_true, if_false]
        exact ⟨grownCap W (0 + ys.length) 0 e, by simp, by simpa using hge, by simp⟩
  -- a row of one's own, or a part of one
  have ownMoved : ∀ n pl0 (xs0 xs : List T) lo cap, look n = some (.row e xs0) → β n = some pl0 → pl0.virt = false → xs = (xs0.drop lo).take xs.length → lo + xs.length ≤ xs0.length → a.eval ox = .slice (some ⟨pl0.b, pl0.off + lo * pl0.sz, none⟩) xs.length cap → xs.length ≤ cap → pl0.off + (lo + cap) * pl0.sz ≤ pl0.lim →
      xs.length + ys.length < most → ∀ u, u = { d := .own nm, upd := [(nm, some (.row e (xs ++ ys))), (n, none)], touch := n :: nm :: tx, fresh := 1 } → o.wp P a W (Nxt P G C β free N regs look o.dst nm u) Q := by
    rintro n pl0 xs0 xs lo cap hl hpl0 hv0 hxs hlo hv hle hlim hm u rfl
    have hfree := hfr { d := .own nm, fresh := 1 } rfl
    obtain ⟨pl1, q0, q1, q2, q3, _, q4⟩ := h.objs n _ hl
    rw [hpl0] at q0; cases q0
    replace q2 : csz P e = some pl0.sz := q2
    have hsz : s = pl0.sz := by rw [hs] at q2; exact Option.some.inj q2
    obtain ⟨c, el, fr, q5, q6, q7, q8⟩ := q4 hv0
    replace q5 : W.heap[pl0.b]? = some (.cells c el fr) := q5
    have hcl : c.toList.length = c.size := Array.length_toList
    have hseg : ∀ j x, xs[j]? = some x → PRep P W (okOf C β look) e x ((c.toList.drop (pl0.off + lo * s + j * s)).take s) := fun j x hj => by
      have hjl : j < xs.length := (List.getElem?_eq_some_iff.1 hj).1
      rw [hxs, List.getElem?_take, if_pos hjl, List.getElem?_drop] at hj
      have := q8 (lo + j) x hj
      rw [← hsz, Nat.add_mul, ← Nat.add_assoc] at this
      exact this
    by_cases hroom : xs.length + ys.length ≤ cap
    · have hb1 : (lo + (xs.length + ys.length)) * s ≤ (lo + cap) * s := Nat.mul_le_mul_right s (by omega)
      rw [Nat.add_mul, Nat.add_mul] at hb1
      rw [← hsz, Nat.add_mul] at hlim
      rw [Nat.add_mul] at hb1
      have hfit : pl0.off + lo * s + xs.length * s + cs.length ≤ c.toList.length := by rw [hA.len, hcl]; omega
      obtain ⟨W', w1, w2, w3, w4⟩ := run_storeCells (P := P) (b := pl0.b) (o := pl0.off + lo * s + xs.length * s) cs 0 W c el fr q5 q7 (by rw [hcl] at hfit; omega) hA.one
      rw [Nat.add_zero] at w4
      have hrun := he _ W' (by rw [hv]; exact run_append_in ht hs ht2 hni hA.lenOf (hA.first W rfl) hroom (by rw [← hsz]; exact w1))
      refine wp_value hrun (nxt_moved h hfree hl rfl hpl0 w2 (fun b hb => ⟨hv0, hb⟩) rfl (pl := { b := pl0.b, off := pl0.off + lo * s, len := (xs ++ ys).length, sz := s, lim := pl0.lim }) (.inr (.inr ⟨hv0, rfl⟩)) (fun hle' => ?_) (fun hle' => ?_))
      · have hlen : (splice c.toList (pl0.off + lo * s + xs.length * s) cs).length = c.toList.length := splice_length hfit
        refine ⟨rfl, hs, hs0, (fun hv => by cases hv), fun _ => ⟨_, el, fr, w4, by rw [List.size_toArray, hlen, hcl, q6], by rw [List.size_toArray, hlen, hcl]; exact q7, fun j x hj => ?_⟩⟩
        rw [List.toList_toArray]
        show PRep P W' _ e x _
        by_cases hjl : j < xs.length
        · rw [List.getElem?_append_left hjl] at hj
          have hb2 : (j + 1) * s ≤ xs.length * s := Nat.mul_le_mul_right s hjl
          rw [Nat.add_mul, Nat.one_mul] at hb2
          rw [splice_out hfit (.inl (by show pl0.off + lo * s + j * s + s ≤ _; omega))]
          exact (hseg j x hj).stay hle'.stay
        · rw [List.getElem?_append_right (by omega)] at hj
          have hjl2 : j - xs.length < ys.length := (List.getElem?_eq_some_iff.1 hj).1
          have hb2 : (j - xs.length + 1) * s ≤ ys.length * s := Nat.mul_le_mul_right s hjl2
          rw [Nat.add_mul, Nat.one_mul] at hb2
          have hb3 : pl0.off + lo * s + j * s = pl0.off + lo * s + xs.length * s + (j - xs.length) * s := by
            have : j * s = xs.length * s + (j - xs.length) * s := by rw [← Nat.add_mul]; congr 1; omega
            omega
          show PRep P W' _ e x ((_ : List Value).drop (pl0.off + lo * s + j * s) |>.take s)
          rw [hb3, splice_seg hfit (by rw [hA.len]; exact hb2)]
          exact (hA.rep _ x hj).stay hle'.stay
      · refine RV_scalar ⟨_, setP_self, ?_⟩ rfl
        simp only [Bool.false_eq_true, if_false]
        refine ⟨cap, by rw [List.length_append, hsz], by rw [List.length_append]; exact hroom, by omega⟩
    · have hLies : Lies P W (okOf C β look) e xs (some ⟨pl0.b, pl0.off + lo * s, none⟩) := by
        have := (RO.lies (M := memOf P C β look W) (β := β) ⟨q1, q2, q3, (fun hv => by rw [hv0] at hv; cases hv), q4⟩ hv0)
        have h2 := Lies.sub (P := P) (W := W) this hs lo xs.length hlo
        rw [← hxs] at h2; exact h2
      obtain ⟨cx, c1, c2, c3, c4, c5⟩ := hLies.cells hs
      have hrun := hgrow (xs := xs) (cx := cx) hv (by omega) hm (by rw [← hsz]; exact c2 W.drew rfl cap)
      have hge := grownCap_ge W (xs.length + ys.length) cap e
      refine wp_value hrun (nxt_moved h hfree hl rfl hpl0 (Wr.grow W _) (fun _ hx => hx.elim) rfl (pl := { b := W.heap.size, off := 0, len := (xs ++ ys).length, sz := s, lim := (grownCap W (xs.length + ys.length) cap e) * s }) (.inr (.inl (Nat.le_refl _))) (fun hle' => ?_) (fun hle' => ?_))
      · exact new_row_ro rfl rfl hle'.stay hs hs0 hzs hge c1 c4 hA.rep hA.len
      · refine RV_scalar ⟨_, setP_self, ?_⟩ rfl
        simp only [Bool.false_eq_true, if_false]
        exact ⟨_, by rw [List.length_append], by rw [List.length_append]; exact hge, by simp⟩
  unfold appendTo at hr
  split at hr
  case h_1 =>
    cases hr
    obtain ⟨hc, rfl⟩ := need_get hu
    have := ev_scalar h hx rfl
    simp [RC] at this
    exact nilCase none this (of_decide_eq_true hc) _ rfl
  case h_2 =>
    cases hr
    obtain ⟨hc, rfl⟩ := need_get hu
    obtain ⟨ad, h1⟩ := ev_scalar h hx rfl
    injection h1 with h1 _
    exact nilCase ad h1 (of_decide_eq_true hc) _ rfl
  case h_3 n =>
    split at hr
    case h_1 e' xs hl =>
      have hb := beqN (bif_some hr).1
      replace hr := (bif_some hr).2
      subst hb
      cases hr
      obtain ⟨hc, rfl⟩ := need_get hu
      have hm := of_decide_eq_true hc
      obtain ⟨pl, h1, h2⟩ := ev_scalar h hx rfl
      obtain ⟨pl', h3, h4, h5, h6, h7, h8⟩ := h.objs n _ hl
      rw [h1] at h3; cases h3
      cases hv : pl.virt with
      | true =>
        rw [hv] at h2
        obtain ⟨ad, h2⟩ := h2
        injection h2 with h2 _
        have := h7 hv
        subst this
        exact nilMoved n _ pl ad hl rfl h1 h2 (by simpa using hm) _ (by simp)
      | false =>
        rw [hv] at h2
        simp only [Bool.false_eq_true, if_false] at h2
        obtain ⟨cap, h9, h10, h11⟩ := h2
        injection h9 with h9 _
        exact ownMoved n pl xs xs 0 cap hl h1 hv (by simp) (by omega) (by rw [h9, h4]; simp) (by omega) (by simpa using h11) hm _ rfl
    case h_2 => cases hr
  case h_4 n lo len =>
    split at hr
    case h_1 e' xs hl =>
      have hb := beqN (bif_some hr).1
      replace hr := (bif_some hr).2
      subst hb
      cases hr
      obtain ⟨hc, rfl⟩ := need_get hu
      have hm := of_decide_eq_true hc
      obtain ⟨pl, h1, hll, h2⟩ := ev_scalar h hx rfl
      obtain ⟨pl', h3, h4, h5, h6, h7, h8⟩ := h.objs n _ hl
      rw [h1] at h3; cases h3
      rw [h4] at hll
      have hlen : ((xs.drop lo).take len).length = len := by rw [List.length_take, List.length_drop]; omega
      rcases h2 with ⟨rfl, ad, h2⟩ | ⟨hv, cap, h9, h10, h11⟩
      · injection h2 with h2 _
        exact nilMoved n _ pl ad hl rfl h1 h2 (by omega) _ (by simp)
      · injection h9 with h9 _
        exact ownMoved n pl xs _ lo cap hl h1 hv (by rw [hlen]) (by rw [hlen]; exact hll) (by rw [hlen]; exact h9) (by rw [hlen]; exact h10) h11 (by rw [hlen]; omega) _ rfl
    case h_2 => cases hr
  case h_5 xs e' =>
    have hb := beqN (bif_some hr).1
    replace hr := (bif_some hr).2
    subst hb
    cases hr
    obtain ⟨hc, rfl⟩ := need_get hu
    have hm := of_decide_eq_true hc
    obtain ⟨ad, cap, h1, h2, h3, h4⟩ := ev_scalar h hx rfl
    injection h1 with h1 _
    have hcap := h4 rfl
    subst hcap
    by_cases hy : ys = []
    · refine wp_pure h (hsame h1 hy (Nat.le_refl _)) (RV_scalar ?_ rfl)
      subst hy
      rw [List.append_nil]
      exact ⟨ad, _, rfl, h2, Nat.le_refl _, fun hcl => by cases hcl⟩
    · have hpos : 0 < ys.length := List.length_pos_iff.2 hy
      obtain ⟨cx, c1, c2, c3, c4, c5⟩ := (PRow.lies h2).cells hs
      have hrun := hgrow (xs := xs) (cx := cx) h1 (by omega) hm (c2 W.drew rfl _)
      have hge := grownCap_ge W (xs.length + ys.length) xs.length e
      refine wp_value hrun (nxt_gone h (frz := []) (Wr.grow W _) (fun hle' => RV_scalar ?_ rfl))
      have hro := new_row_ro (P := P) (W := W) (M' := memOf P C β (updF look (goneAll [])) _) (β' := β) rfl rfl hle'.stay hs hs0 hzs hge c1 c4 hA.rep hA.len
      obtain ⟨r1, r2, r3, _, r4⟩ := hro
      obtain ⟨c, el, fr, r5, r6, r7, r8⟩ := r4 rfl
      refine ⟨_, _, by rw [List.length_append], .mk hs hs0 ⟨fun hav => ?_, fun m p hm' hp hv hbb => ?_⟩ r5 r8, by rw [List.length_append]; exact hge, fun hcl => by cases hcl⟩
      · have h5 := h.avold _ hav
        change W.heap.size < C.W0.heap.size at h5
        have := h.keeps.size
        omega
      · rw [updF_gone] at hm'
        simp at hm'
        obtain ⟨o', ho'⟩ := Option.ne_none_iff_exists'.1 hm'
        obtain ⟨p', hp', hro'⟩ := h.objs m o' ho'
        rw [hp] at hp'; cases hp'
        have := hro'.real hv
        change p.b < W.heap.size at this
        change p.b = W.heap.size at hbb
        omega
  case h_6 => cases hr
end
end Go.Proofs.YtpfglhjgjfhkjaaDoorVM
/- The builtins; the other operations; an operation as a whole, but for calls. -/
namespace Go.Proofs.YtpfglhjgjfhkjaaDoorVM
open Go Go.RowKit
set_option linter.unusedVariables false
set_option linter.unusedSimpArgs false

section
variable {P : Program} {G : Globs} {C : Ctx} {β : Places} {free : Nat → Prop} {N : Nat} {regs : Regs} {look : Look} {a : Act} {W : World} {nm : Nat} {Q : Exit → Act → World → Prop}
theorem exec_builtin {o : Oper} {c : Call} {b : Builtin} (ho : o.op = .call c) (hc : c.callee = .builtin b) :
    (execOp a.eval o).run P W = (builtin b c.argTypes o.type (c.args.map fun | .const _ => true | _ => false) (c.args.map a.eval)).run P W := by
  simp only [execOp, ho, resolve, hc, invoke, Sem.run_bind, Sem.run_pure, Result.andThen_ok]
  rfl
theorem opv_builtin (h : Rel P G C β free N regs look a W) (hfr : ∀ u : OpOut, u.fresh = 1 → free nm) {o : Oper} {c : Call} {b : Builtin} (ho : o.op = .call c) (hc : c.callee = .builtin b) {r : OR} {u : OpOut}
    (hr : builtinD P look nm b c.argTypes.toList (c.args.toList.map (evalD G regs)) = some r) (hu : r.get = some u) : o.wp P a W (Nxt P G C β free N regs look o.dst nm u) Q := by
  have hex := exec_builtin (P := P) (a := a) (W := W) ho hc
  unfold builtinD at hr
  split at hr
  case h_1 τ x hts hargs =>
    have hk := (bif_some hr).1
    replace hr := (bif_some hr).2
    obtain ⟨ox, hl, rfl⟩ := map_one hargs
    have ha := arr_one hl
    have ht := arr_one hts
    obtain ⟨n, h1, h2, h3, h4⟩ := opv_len h hr hu
    obtain ⟨ud, uu, ut, uf⟩ := u
    simp only at h1 h2 h3
    subst h1; subst h2; subst h3
    have hlen : (Builtin.len_ #[τ] o.type #[a.eval ox]).run P W = .ok (.int .i64 n) W := by
      generalize hd : evalD G regs ox = dx at hk
      have hrv := rv_eval h ox
      rw [hd] at hrv
      unfold lenOk at hk
      split at hk <;> first
        | (cases hk; done)
        | (rename_i hu'
           rcases h4 with ⟨s, e1, e2⟩ | ⟨ad, len, cap, e1, e2⟩ | ⟨e1, e2⟩ | ⟨b, ms, cl, e1, e2, e3⟩ <;>
             (rw [e1] at hrv ⊢; first
               | (exfalso; (first
                   | (obtain ⟨_, h5, h6⟩ := hrv; simp [RC, VF, scalar] at h5 h6; done)
                   | (obtain ⟨_, h5, h6⟩ := hrv; obtain ⟨_, _, h7, _⟩ := h5; simp [VF, scalar] at h6; rw [h6] at h7; simp at h7; done)
                   | (obtain ⟨_, h5, h6⟩ := hrv; obtain ⟨_, h7⟩ := h5; simp [VF, scalar] at h6; rw [h6] at h7; simp at h7; done)
                   | (have h5 := RV_out hrv rfl; simp [RC] at h5; done)
                   | (obtain ⟨_, _, h7⟩ := RV_out hrv rfl; split at h7 <;> simp at h7; done)
                   | (obtain ⟨_, _, _, h7⟩ := RV_out hrv rfl; simp at h7; done)))
               | (subst e2; simp [Builtin.len_, run_und hu', goInt]; done)
               | (subst e3; simp [Builtin.len_, run_und hu', goInt, getObj, Sem.run, e2]; done)))
    refine wp_pure h (v := .int .i64 n) ?_ rv_int
    rw [hex, ht, ha]
    simp only [builtin, Sem.run_bind, List.map_toArray, List.map_cons, List.map_nil, hlen]
    rfl
  case h_2 l hl =>
    obtain ⟨k, n, rfl, hrun⟩ := opv_minmax h (f := minI) (op := Builtin.min2) (fun k x y w => by simp [Builtin.min2, minI]) hr hu
    refine wp_pure h (v := .int k n) ?_ rv_int
    rw [hex]
    cases hcl : c.args.toList with
    | nil => rw [hcl] at hr; simp [minmaxD] at hr
    | cons x l' =>
      rw [hcl] at hrun
      simp only [List.map_cons] at hrun
      simp only [builtin, Builtin.min_, Sem.run_bind, Array.toList_map, hcl, List.map_cons, hrun]
      rfl
  case h_3 l hl =>
    obtain ⟨k, n, rfl, hrun⟩ := opv_minmax h (f := maxI) (op := Builtin.max2) (fun k x y w => by simp [Builtin.max2, maxI]) hr hu
    refine wp_pure h (v := .int k n) ?_ rv_int
    rw [hex]
    cases hcl : c.args.toList with
    | nil => rw [hcl] at hr; simp [minmaxD] at hr
    | cons x l' =>
      rw [hcl] at hrun
      simp only [List.map_cons] at hrun
      simp only [builtin, Builtin.max_, Sem.run_bind, Array.toList_map, hcl, List.map_cons, hrun]
      rfl
  case h_4 t t2 s x hts hargs =>
    obtain ⟨os, ox, hl, rfl, rfl⟩ := map_two hargs
    have ha := arr_two hl
    have ht := arr_two hts
    unfold appendD at hr
    split at hr
    case h_1 e s0 hro =>
      obtain ⟨hsl, hsz, hs0⟩ := rowOf_slice hro
      split at hr
      case h_1 i ys tx d hi hadd hzv =>
        have hb := (bif_some hr).1
        replace hr := (bif_some hr).2
        simp only [Bool.and_eq_true] at hb
        have hni : ∃ d2, P.underlying t2 = some d2 ∧ ∀ k, d2 ≠ .int k := by
          have := hb.1
          unfold notInt at this
          split at this
          · cases this
          · rename_i d2 hd2 hne; exact ⟨d2, hne, fun k e => hd2 k e⟩
          · cases this
        obtain ⟨d2, hd2, hni⟩ := hni
        obtain ⟨cs, hA⟩ := adds_read h hsz (rv_eval h ox) hadd
        obtain ⟨i', z, hi', hz, hz2⟩ := zeroVal_rep (M := memOf P C β look W) (β := β) hzv
        change P.info? e = some i' at hi'
        rw [hi] at hi'; cases hi'
        have hzs : z.cells.size = s0 := by
          obtain ⟨q1, q2⟩ := hz2 s0 hsz
          have := fits_length (M := memOf P C β look W) q1 q2
          change csz P e = _ at this
          rw [hsz] at this
          simpa using (Option.some.inj this).symm
        refine opv_appendTo h hfr (t := t) (t2 := t2) (ty := o.type) (ox := os) (vx := a.eval ox) (fun v W' hv => ?_) hsl hsz hs0 hd2 hni hi hz hzs (Nat.le_of_ble_eq_true hb.2) hA hr hu
        rw [hex, ht, ha]
        simp only [builtin, Sem.run_bind, List.map_toArray, List.map_cons, List.map_nil, hv]
        rfl
      case h_2 => cases hr
    case h_2 => cases hr
  case h_5 => cases hr
end
end Go.Proofs.YtpfglhjgjfhkjaaDoorVM
/- What is handed over at a boundary, on both sides. -/
namespace Go.Proofs.YtpfglhjgjfhkjaaDoorVM
open Go Go.RowKit
set_option linter.unusedVariables false
set_option linter.unusedSimpArgs false

theorem bindN_spec {σ σ' : List (Nat × Option Nat)} {j : Nat} {x : Option Nat} (h : bindN σ j x = some σ') : sigma σ' j = some x ∧ ∀ i y, sigma σ i = some y → sigma σ' i = some y := by
  unfold bindN at h
  split at h
  case h_1 m n hs =>
    have hb := beqN (bif_some h).1
    replace h := (bif_some h).2
    cases h; subst hb
    exact ⟨hs, fun _ _ h => h⟩
  case h_2 hs => cases h; exact ⟨hs, fun _ _ h => h⟩
  case h_3 n hs =>
    cases hn : hasName σ n <;> rw [hn] at h
    · simp only [cond_false, Option.some.injEq] at h
      subst h
      refine ⟨by simp [sigma], fun i y hi => ?_⟩
      simp only [sigma]
      cases hb : Nat.beq j i with
      | true => have := beqN hb; subst this; rw [hs] at hi; cases hi
      | false => simpa using hi
    · cases h
  case h_4 hs =>
    cases h
    refine ⟨by simp [sigma], fun i y hi => ?_⟩
    simp only [sigma]
    cases hb : Nat.beq j i with
    | true => have := beqN hb; subst this; rw [hs] at hi; cases hi
    | false => simpa using hi
  case h_5 => cases h
theorem hasName_sigma : ∀ {σ : List (Nat × Option Nat)} {j n : Nat}, sigma σ j = some (some n) → hasName σ n = true
  | [], j, n, h => by simp [sigma] at h
  | (i, x) :: σ, j, n, h => by
    simp only [sigma] at h
    cases hb : Nat.beq i j with
    | true =>
      rw [hb] at h
      simp at h
      subst h
      simp [hasName]
    | false =>
      rw [hb] at h
      simp only [cond_false] at h
      have := hasName_sigma h
      cases x <;> simp [hasName, this]
/-- One name for one place. -/
def SInj (σ : List (Nat × Option Nat)) : Prop := ∀ i j n, sigma σ i = some (some n) → sigma σ j = some (some n) → i = j
theorem bindN_inj {σ σ' : List (Nat × Option Nat)} {j : Nat} {x : Option Nat} (h : bindN σ j x = some σ') (hi : SInj σ) : SInj σ' := by
  unfold bindN at h
  split at h
  case h_1 m n hs => replace h := (bif_some h).2; cases h; exact hi
  case h_2 => cases h; exact hi
  case h_3 n hs =>
    cases hn : hasName σ n <;> rw [hn] at h
    · simp only [cond_false, Option.some.injEq] at h
      subst h
      intro a b m ha hb
      simp only [sigma] at ha hb
      cases e1 : Nat.beq j a <;> cases e2 : Nat.beq j b <;> rw [e1] at ha <;> rw [e2] at hb <;> simp only [cond_true, cond_false] at ha hb
      · exact hi a b m ha hb
      · simp at hb; subst hb; have := hasName_sigma ha; rw [hn] at this; cases this
      · simp at ha; subst ha; have := hasName_sigma hb; rw [hn] at this; cases this
      · exact (beqN e1).symm.trans (beqN e2)
    · cases h
  case h_4 hs =>
    cases h
    intro a b m ha hb
    simp only [sigma] at ha hb
    cases e1 : Nat.beq j a <;> cases e2 : Nat.beq j b <;> rw [e1] at ha <;> rw [e2] at hb <;> simp only [cond_true, cond_false] at ha hb
    · exact hi a b m ha hb
    · simp at hb
    · simp at ha
    · simp at ha
  case h_5 => cases h

structure Pk.Le (k k' : Pk) : Prop where
  as : ∃ l, k'.as = k.as ++ l
  σ : ∀ j x, sigma k.σ j = some x → sigma k'.σ j = some x
  frz : ∀ n, n ∈ k.frz → n ∈ k'.frz
  inj : SInj k.σ → SInj k'.σ
  held : ∀ n, n ∈ k.held → n ∈ k'.held
theorem Pk.Le.refl (k : Pk) : k.Le k := ⟨⟨[], by simp⟩, fun _ _ h => h, fun _ h => h, fun h => h, fun _ h => h⟩
theorem Pk.Le.trans {a b c : Pk} (h : a.Le b) (k : b.Le c) : a.Le c :=
  ⟨by obtain ⟨l, h1⟩ := h.as; obtain ⟨m, h2⟩ := k.as; exact ⟨l ++ m, by rw [h2, h1, List.append_assoc]⟩, fun j x hx => k.σ j x (h.σ j x hx), fun n hn => k.frz n (h.frz n hn), fun hi => k.inj (h.inj hi), fun n hn => k.held n (h.held n hn)⟩
theorem Pk.Le.bind {k : Pk} {j : Nat} {x : Option Nat} {σ : List (Nat × Option Nat)} (h : bindN k.σ j x = some σ) : k.Le ⟨k.as, σ, k.frz, k.held⟩ :=
  ⟨⟨[], by simp⟩, (bindN_spec h).2, fun _ h => h, bindN_inj h, fun _ h => h⟩
theorem Pk.Le.one {k : Pk} (t : A) : k.Le ⟨k.as ++ [t], k.σ, k.frz, k.held⟩ := ⟨⟨_, rfl⟩, fun _ _ h => h, fun _ h => h, fun h => h, fun _ h => h⟩
section
variable {P : Program} {look : Look}
mutual
theorem packR_le : ∀ (c : RM) {d : D} {k k' : Pk}, packR P look c d k = some k' → k.Le k' ∧ k'.held = k.held
  | .v τ, d, k, k', h => by
    unfold packR at h
    split at h
    · cases h; exact ⟨⟨⟨_, rfl⟩, fun _ _ h => h, fun n hn => List.mem_append_left _ hn, fun h => h, fun _ h => h⟩, rfl⟩
    · cases h
  | .fn ps rs, d, k, k', h => by
    cases d <;> simp only [packR] at h <;> first
      | (cases h; done)
      | (replace h := (bif_some h).2; cases h; exact ⟨⟨⟨_, rfl⟩, fun _ _ h => h, fun n hn => hn, fun h => h, fun _ h => h⟩, rfl⟩)
  | .p j τ, d, k, k', h => by
    cases d <;> try (simp only [packR] at h; cases h; done)
    case ptr n τ' path =>
      cases path with
      | cons => simp [packR] at h
      | nil =>
        simp only [packR] at h
        replace h := (bif_some h).2
        split at h
        case h_1 σ hb => cases h; exact ⟨.bind hb, rfl⟩
        case h_2 => cases h
  | .o j, d, k, k', h => by
    cases d <;> simp only [packR] at h <;> first
      | (cases h; done)
      | (split at h
         · rename_i hb; cases h; exact ⟨.bind hb, rfl⟩
         · cases h)
  | .m j, d, k, k', h => by
    cases d <;> simp only [packR] at h <;> first
      | (cases h; done)
      | (split at h
         · rename_i hb; cases h; exact ⟨.bind hb, rfl⟩
         · cases h)
  | .np, d, k, k', h => by
    cases d <;> simp only [packR] at h <;> first
      | (cases h; done)
      | (cases h; exact ⟨.refl _, rfl⟩)
  | .nl, d, k, k', h => by
    cases d <;> simp only [packR] at h <;> first
      | (cases h; done)
      | (cases h; exact ⟨.refl _, rfl⟩)
  | .nm, d, k, k', h => by
    cases d <;> simp only [packR] at h <;> first
      | (cases h; done)
      | (cases h; exact ⟨.refl _, rfl⟩)
  | .nf, d, k, k', h => by
    cases d <;> simp only [packR] at h <;> first
      | (cases h; done)
      | (cases h; exact ⟨.refl _, rfl⟩)
  | .clo f cs, d, k, k', h => by
    cases d <;> simp only [packR] at h <;> first
      | (cases h; done)
      | exact packRs_le cs (bif_some h).2
  | .agg τ cs, d, k, k', h => by
    cases d <;> simp only [packR] at h <;> first
      | (cases h; done)
      | exact packRs_le cs (bif_some h).2
      | (replace h := (bif_some h).2
         split at h
         · exact packRs_le cs h
         · cases h)
theorem packRs_le : ∀ (cs : List RM) {ds : List D} {k k' : Pk}, packRs P look cs ds k = some k' → k.Le k' ∧ k'.held = k.held
  | [], ds, k, k', h => by cases ds <;> simp only [packRs] at h <;> cases h; exact ⟨.refl _, rfl⟩
  | c :: cs, ds, k, k', h => by
    cases ds <;> simp only [packRs] at h
    case nil => cases h
    case cons d ds =>
      split at h
      case h_1 k1 h1 =>
        obtain ⟨a1, a2⟩ := packR_le c h1
        obtain ⟨b1, b2⟩ := packRs_le cs h
        exact ⟨a1.trans b1, b2.trans a2⟩
      case h_2 => cases h
end
theorem packObjs_le {st : Bool} : ∀ (l : List OM) {j : Nat} {k k' : Pk}, packObjs P st look j l k = some k' → k.Le k' ∧ k'.held = k.held
  | [], j, k, k', h => by simp only [packObjs] at h; cases h; exact ⟨.refl _, rfl⟩
  | .gone :: l, j, k, k', h => by simp only [packObjs] at h; exact packObjs_le l h
  | .var τ c ro :: l, j, k, k', h => by
    simp only [packObjs] at h
    split at h
    · split at h
      · replace h := (bif_some h).2
        split at h
        case h_1 k1 h1 =>
          obtain ⟨a1, a2⟩ := packR_le c h1
          obtain ⟨b1, b2⟩ := packObjs_le l h
          exact ⟨a1.trans b1, b2.trans a2⟩
        case h_2 => cases h
      · cases h
    · cases h
  | .row e :: l, j, k, k', h => by
    simp only [packObjs] at h
    split at h
    · split at h
      · obtain ⟨b1, b2⟩ := packObjs_le l (bif_some h).2
        exact ⟨(Pk.Le.one _).trans b1, b2⟩
      · cases h
    · split at h
      · obtain ⟨b1, b2⟩ := packObjs_le l h
        exact ⟨(Pk.Le.one _).trans b1, b2⟩
      · cases h
    · cases h
  | .map kt vt :: l, j, k, k', h => by
    simp only [packObjs] at h
    split at h
    · split at h
      · obtain ⟨b1, b2⟩ := packObjs_le l (bif_some h).2
        exact ⟨(Pk.Le.one _).trans b1, b2⟩
      · cases h
    · cases h
end

/-- How one side's memory becomes the other side's. -/
structure Tr (M M' : Mem) (β : Places) (F : List Nat) : Prop where
  P : M'.P = M.P
  mid : Stay (fun b => M.ok b ∨ ∃ n, n ∈ F ∧ ∃ pl, β n = some pl ∧ pl.virt = false ∧ pl.b = b) M'.ok M.W M'.W
  fn : ∀ g ps rs v, FnRep M.P M.C g ps rs v → FnRep M.P M'.C g ps rs v
structure Bind (β β' : Places) (σ : List (Nat × Option Nat)) (nm : Nat → Nat) : Prop where
  some_ : ∀ j n pl, sigma σ j = some (some n) → β n = some pl → β' (nm j) = some pl
  virt_ : ∀ j, sigma σ j = some none → ∃ pl, β' (nm j) = some pl ∧ pl.virt = true ∧ pl.len = 0
section
variable {M M' : Mem} {β β' : Places} {look : Look} {F : List Nat} {σf : List (Nat × Option Nat)} {nm : Nat → Nat} {as : List A} {off : Nat}
theorem packT_fits {lk : Look} {τ σ : TypeId} {d : D} {t : T} {f : List Nat} (h : packT M.P lk τ d = some (t, f)) (hf : fits M.P σ d = true) : fits M.P σ (ofT M.P τ t) = true := by
  have hs := packT_scalar h
  have hsc := fits_scalar hf
  cases hb : scalar d with
  | true =>
    have h1 : (!isAggB M.P σ && (csz M.P σ).isSome) = true := by
      cases d <;> simp [scalar] at hb <;> exact hf
    cases d <;> simp [scalar] at hb <;> simp only [packT] at h <;> (try (cases h; done))
    all_goals
      split at h <;> first
        | (cases h; done)
        | (rename_i hu; simp only [ofT, hu, fits]; exact h1)
        | (rename_i hu; simp only [ofT, (rowOf_slice hu).1, fits]; exact h1)
        | (rename_i hu _; simp only [ofT, (rowOf_slice hu).1, fits]; exact h1)
  | false =>
    cases d <;> (try (simp [scalar] at hb; done))
    case tup => simp [packT] at h
    case undef => simp [packT] at h
    case tree τ' t' =>
      simp only [packT] at h
      have := beqN (bif_some h).1
      subst this
      rw [hb] at hs
      have hagg : isAggB M.P τ = true := by simpa using hs.symm
      simp only [fits, Bool.and_eq_true] at hf
      have := beqN hf.1; subst this
      unfold isAggB at hagg
      split at hagg <;> first
        | (rename_i hu; simp [ofT, hu, fits, isAggB]; done)
        | cases hagg
    case agg τ' ds =>
      simp only [packT] at h
      have := beqN (bif_some h).1
      subst this
      rw [hb] at hs
      have hagg : isAggB M.P τ = true := by simpa using hs.symm
      simp only [fits, Bool.and_eq_true] at hf
      have := beqN hf.1; subst this
      unfold isAggB at hagg
      split at hagg <;> first
        | (rename_i hu; simp [ofT, hu, fits, isAggB]; done)
        | cases hagg
theorem packT_tr (ho : Objs M β look) (tr : Tr M M' β F) {d : D} {τ : TypeId} {t : T} {f : List Nat} {cs : List Value} (h : packT M.P look τ d = some (t, f)) (hc : RC M β d cs) (hf : ∀ n, n ∈ f → n ∈ F) : PRep M'.P M'.W M'.ok τ t cs := by
  rw [tr.P]
  exact (packT_rep ho (ok' := fun b => M.ok b ∨ ∃ n, n ∈ F ∧ ∃ pl, β n = some pl ∧ pl.virt = false ∧ pl.b = b) (fun b hb => .inl hb) h hc (fun n hn pl hpl hv => .inr ⟨n, hf n hn, pl, hpl, hv, rfl⟩)).stay tr.mid
mutual
theorem packR_rep (ho : Objs M β look) (tr : Tr M M' β F) (bd : Bind β β' σf nm) : ∀ (c : RM) {d : D} {k k' : Pk} {cs : List Value}, packR M.P look c d k = some k' → RC M β d cs → (∀ j x, sigma k'.σ j = some x → sigma σf j = some x) → (∀ n, n ∈ k'.frz → n ∈ F) →
    (∀ i, i < k'.as.length → aAt as (off + i) = aAt k'.as i) →
    RC M' β' (unR M.P nm as c (off + k.as.length)).1 cs ∧ (unR M.P nm as c (off + k.as.length)).2 = off + k'.as.length ∧ scalar (unR M.P nm as c (off + k.as.length)).1 = scalar d ∧ (∀ τ, fits M.P τ d = true → fits M.P τ (unR M.P nm as c (off + k.as.length)).1 = true)
  | .v τ, d, k, k', cs, h, hc, hσ, hF, ha => by
    unfold packR at h
    split at h
    case h_1 t f hp =>
      cases h
      have hi : aAt as (off + k.as.length) = .t t := by
        rw [ha _ (by simp)]
        simp [aAt, List.getD]
      have hr := packT_tr ho tr hp hc (fun n hn => hF n (List.mem_append_right _ hn))
      have h1 := (PRep.ofT (β := β') hr)
      rw [tr.P] at h1
      simp only [unR, hi, A.tree]
      refine ⟨h1.1, by simp; omega, ?_, fun σ hf => packT_fits hp hf⟩
      rw [h1.2, packT_scalar hp]
    case h_2 => cases h
  | .fn ps rs, d, k, k', cs, h, hc, hσ, hF, ha => by
    cases d <;> simp only [packR] at h <;> try (cases h; done)
    case fnv g ps' rs' =>
      have hb := (bif_some h).1
      replace h := (bif_some h).2
      have beq : ∀ (l m : List TypeId), beqL l m = true → l = m := by
        intro l
        induction l with
        | nil => intro m hm; cases m <;> simp [beqL] at hm; rfl
        | cons x l ih => intro m hm; cases m <;> simp only [beqL, Bool.and_eq_true, Bool.false_eq_true] at hm; rw [beqN hm.1, ih _ hm.2]
      simp only [Bool.and_eq_true] at hb
      have e1 := beq _ _ hb.1
      have e2 := beq _ _ hb.2
      subst e1; subst e2
      cases h
      have hi : aAt as (off + k.as.length) = .fn g := by
        rw [ha _ (by simp)]
        simp [aAt, List.getD]
      simp only [unR, hi, A.fnOf]
      obtain ⟨v, h1, h2⟩ := hc
      exact ⟨⟨v, h1, by rw [tr.P]; exact tr.fn _ _ _ _ h2⟩, by simp; omega, trivial, fun σ hf => hf⟩
  | .p j τ, d, k, k', cs, h, hc, hσ, hF, ha => by
    cases d <;> try (simp only [packR] at h; cases h; done)
    case ptr n τ' path =>
      cases path with
      | cons => simp [packR] at h
      | nil =>
        simp only [packR] at h
        have := beqN (bif_some h).1
        subst this
        replace h := (bif_some h).2
        split at h
        case h_1 σ hb =>
          cases h
          obtain ⟨pl, o, h1, h2, h3, h4⟩ := hc
          refine ⟨⟨pl, o, h1, bd.some_ j n pl (hσ j _ (bindN_spec hb).1) h2, h3, by rw [tr.P]; exact h4⟩, rfl, rfl, fun σ hf => hf⟩
        case h_2 => cases h
  | .o j, d, k, k', cs, h, hc, hσ, hF, ha => by
    cases d <;> simp only [packR] at h <;> try (cases h; done)
    case own n =>
      split at h
      case h_1 σ hb =>
        cases h
        obtain ⟨pl, h1, h2⟩ := hc
        exact ⟨⟨pl, bd.some_ j n pl (hσ j _ (bindN_spec hb).1) h1, h2⟩, rfl, rfl, fun σ hf => hf⟩
      case h_2 => cases h
    case nils =>
      split at h
      case h_1 σ hb =>
        cases h
        obtain ⟨pl, h1, h2, _⟩ := bd.virt_ j (hσ j _ (bindN_spec hb).1)
        simp only [RC] at hc
        exact ⟨⟨pl, h1, by rw [h2]; exact ⟨none, hc⟩⟩, rfl, rfl, fun σ hf => hf⟩
      case h_2 => cases h
    case emp =>
      split at h
      case h_1 σ hb =>
        cases h
        obtain ⟨pl, h1, h2, _⟩ := bd.virt_ j (hσ j _ (bindN_spec hb).1)
        obtain ⟨ad, hc⟩ := hc
        exact ⟨⟨pl, h1, by rw [h2]; exact ⟨ad, hc⟩⟩, rfl, rfl, fun σ hf => hf⟩
      case h_2 => cases h
  | .m j, d, k, k', cs, h, hc, hσ, hF, ha => by
    cases d <;> simp only [packR] at h <;> try (cases h; done)
    case map n =>
      split at h
      case h_1 σ hb =>
        cases h
        obtain ⟨pl, h1, h2, h3⟩ := hc
        exact ⟨⟨pl, bd.some_ j n pl (hσ j _ (bindN_spec hb).1) h1, h2, h3⟩, rfl, rfl, fun σ hf => hf⟩
      case h_2 => cases h
  | .np, d, k, k', cs, h, hc, hσ, hF, ha => by
    cases d <;> simp only [packR] at h <;> try (cases h; done)
    case nilp => cases h; simp only [RC] at hc; exact ⟨hc, rfl, rfl, fun σ hf => hf⟩
  | .nl, d, k, k', cs, h, hc, hσ, hF, ha => by
    cases d <;> simp only [packR] at h <;> try (cases h; done)
    case nils => cases h; simp only [RC] at hc; exact ⟨hc, rfl, rfl, fun σ hf => hf⟩
  | .nm, d, k, k', cs, h, hc, hσ, hF, ha => by
    cases d <;> simp only [packR] at h <;> try (cases h; done)
    case nilm => cases h; simp only [RC] at hc; exact ⟨hc, rfl, rfl, fun σ hf => hf⟩
  | .nf, d, k, k', cs, h, hc, hσ, hF, ha => by
    cases d <;> simp only [packR] at h <;> try (cases h; done)
    case nilf => cases h; simp only [RC] at hc; exact ⟨hc, rfl, rfl, fun σ hf => hf⟩
  | .clo f rs, d, k, k', cs, h, hc, hσ, hF, ha => by
    cases d <;> simp only [packR] at h <;> try (cases h; done)
    case clo f' ds =>
      have := beqN (bif_some h).1
      subst this
      replace h := (bif_some h).2
      obtain ⟨vs, h1, h2⟩ := hc
      obtain ⟨h3, h4⟩ := packRs_vs ho tr bd rs h h2 hσ hF ha
      exact ⟨⟨vs, h1, h3⟩, h4, rfl, fun σ hf => hf⟩
  | .agg τ rs, d, k, k', cs, h, hc, hσ, hF, ha => by
    cases d <;> simp only [packR] at h <;> try (cases h; done)
    case agg τ' ds =>
      have := beqN (bif_some h).1
      subst this
      replace h := (bif_some h).2
      obtain ⟨h1, h2, fs, h3, h4⟩ := hc
      obtain ⟨h5, h6⟩ := packRs_cs ho tr bd rs h h4 hσ hF ha
      exact ⟨⟨by rw [tr.P]; exact h1, by rw [tr.P]; exact h2, fs, by rw [tr.P]; exact h3, h5⟩, h6, rfl, fun σ hf => hf⟩
    case tree τ' t =>
      have := beqN (bif_some h).1
      subst this
      replace h := (bif_some h).2
      split at h
      case h_1 ds hex =>
        obtain ⟨h1, h2, h3⟩ := hc
        have hfs : ∃ fs, fieldsOf M.P τ = some fs := by
          unfold expand at hex
          cases hfs : fieldsOf M.P τ with
          | none => rw [hfs] at hex; cases hex
          | some fs => exact ⟨fs, rfl⟩
        obtain ⟨fs, hfs⟩ := hfs
        obtain ⟨h5, h6⟩ := packRs_cs ho tr bd rs h (expand_rep (β := β) hex hfs h1) hσ hF ha
        exact ⟨⟨by rw [tr.P]; exact h2, by rw [tr.P]; exact h3, fs, by rw [tr.P]; exact hfs, h5⟩, h6, rfl, fun σ hf => hf⟩
      case h_2 => cases h
theorem packRs_vs (ho : Objs M β look) (tr : Tr M M' β F) (bd : Bind β β' σf nm) : ∀ (rs : List RM) {ds : List D} {k k' : Pk} {vs : List Value}, packRs M.P look rs ds k = some k' → RVs M β ds vs → (∀ j x, sigma k'.σ j = some x → sigma σf j = some x) → (∀ n, n ∈ k'.frz → n ∈ F) →
    (∀ i, i < k'.as.length → aAt as (off + i) = aAt k'.as i) → RVs M' β' (unRs M.P nm as rs (off + k.as.length)).1 vs ∧ (unRs M.P nm as rs (off + k.as.length)).2 = off + k'.as.length
  | [], ds, k, k', vs, h, hv, hσ, hF, ha => by
    cases ds <;> simp only [packRs] at h <;> cases h
    cases vs with
    | nil => exact ⟨trivial, rfl⟩
    | cons => exact hv.elim
  | c :: rs, ds, k, k', vs, h, hv, hσ, hF, ha => by
    cases ds <;> simp only [packRs] at h
    case nil => cases h
    case cons d ds =>
      split at h
      case h_1 k1 h1 =>
        cases vs with
        | nil => exact hv.elim
        | cons v vs =>
          obtain ⟨hv1, hv2⟩ := hv
          obtain ⟨le2, _⟩ := packRs_le rs h
          obtain ⟨l, hl⟩ := le2.as
          rcases hv1 with rfl | ⟨cs, hc, hf⟩
          · cases c <;> simp [packR, packT] at h1
          · obtain ⟨r1, r2, r3, _⟩ := packR_rep ho tr bd c h1 hc (fun j x hx => hσ j x (le2.σ j x hx)) (fun n hn => hF n (le2.frz n hn)) (fun i hi => by
              rw [ha i (by rw [hl, List.length_append]; omega), hl]
              simp only [aAt, List.getD, List.getElem?_append_left hi])
            obtain ⟨s1, s2⟩ := packRs_vs ho tr bd rs h hv2 hσ hF ha
            simp only [unRs, r2]
            exact ⟨⟨.inr ⟨cs, r1, by unfold VF at hf ⊢; rw [r3]; exact hf⟩, s1⟩, s2⟩
      case h_2 => cases h
theorem packRs_cs (ho : Objs M β look) (tr : Tr M M' β F) (bd : Bind β β' σf nm) : ∀ (rs : List RM) {ds : List D} {k k' : Pk} {fs : List (TypeId × Nat)} {cs : List Value}, packRs M.P look rs ds k = some k' → RCs M β fs ds cs → (∀ j x, sigma k'.σ j = some x → sigma σf j = some x) → (∀ n, n ∈ k'.frz → n ∈ F) →
    (∀ i, i < k'.as.length → aAt as (off + i) = aAt k'.as i) → RCs M' β' fs (unRs M.P nm as rs (off + k.as.length)).1 cs ∧ (unRs M.P nm as rs (off + k.as.length)).2 = off + k'.as.length
  | [], ds, k, k', fs, cs, h, hv, hσ, hF, ha => by
    cases ds <;> simp only [packRs] at h <;> cases h
    cases fs with
    | nil => exact ⟨hv, rfl⟩
    | cons => exact hv.elim
  | c :: rs, ds, k, k', fs, cs, h, hv, hσ, hF, ha => by
    cases ds <;> simp only [packRs] at h
    case nil => cases h
    case cons d ds =>
      split at h
      case h_1 k1 h1 =>
        cases fs with
        | nil => exact hv.elim
        | cons f fs =>
          obtain ⟨c1, c2, e1, e2, e3, e4, e5⟩ := hv
          obtain ⟨le2, _⟩ := packRs_le rs h
          obtain ⟨l, hl⟩ := le2.as
          obtain ⟨r1, r2, r3, r4⟩ := packR_rep ho tr bd c h1 e3 (fun j x hx => hσ j x (le2.σ j x hx)) (fun n hn => hF n (le2.frz n hn)) (fun i hi => by
              rw [ha i (by rw [hl, List.length_append]; omega), hl]
              simp only [aAt, List.getD, List.getElem?_append_left hi])
          obtain ⟨s1, s2⟩ := packRs_cs ho tr bd rs h e5 hσ hF ha
          simp only [unRs, r2]
          exact ⟨⟨c1, c2, e1, e2, r1, by rw [tr.P]; exact r4 _ e4, s1⟩, s2⟩
      case h_2 => cases h
end
end
end Go.Proofs.YtpfglhjgjfhkjaaDoorVM
/- The other side of a boundary: its state. -/
namespace Go.Proofs.YtpfglhjgjfhkjaaDoorVM
open Go Go.RowKit
set_option linter.unusedVariables false
set_option linter.unusedSimpArgs false

def blank (P : Program) (objs : List OM) (j : Nat) : Place := { b := 0, virt := true, sz := match objs[j]? with | some (.row e) => (csz P e).getD 1 | _ => 1 }
/-- Where the other side's names lie. -/
def betaOf (P : Program) (β : Places) (σ : List (Nat × Option Nat)) (objs : List OM) : Places := fun j => match sigma σ j with
  | some (some n) => β n
  | some none => some (blank P objs j)
  | none => none
def lookOf (P : Program) (objs : List OM) (as : List A) (i : Nat) : Look := lookL (someL (unOs P id as objs 0 i))

theorem lookL_mem : ∀ {l : List (Nat × O)} {n : Nat} {o : O}, lookL l n = some o → (n, o) ∈ l
  | [], n, o, h => by simp [lookL] at h
  | (m, o') :: l, n, o, h => by
    simp only [lookL] at h
    cases hb : Nat.beq m n with
    | true => rw [hb] at h; have := beqN hb; subst this; simp at h; subst h; exact List.mem_cons_self ..
    | false => rw [hb] at h; exact List.mem_cons_of_mem _ (lookL_mem (by simpa using h))
theorem someL_mem : ∀ {l : List (Nat × Option O)} {n : Nat} {o : O}, (n, o) ∈ someL l → (n, some o) ∈ l
  | [], n, o, h => by simp [someL] at h
  | (m, some o') :: l, n, o, h => by
    simp only [someL, List.mem_cons, Prod.mk.injEq] at h
    rcases h with ⟨rfl, rfl⟩ | h
    · exact List.mem_cons_self ..
    · exact List.mem_cons_of_mem _ (someL_mem h)
  | (m, none) :: l, n, o, h => by
    simp only [someL] at h
    exact List.mem_cons_of_mem _ (someL_mem h)
theorem lookOf_mem {P : Program} {objs : List OM} {as : List A} {i n : Nat} {o : O} (h : lookOf P objs as i n = some o) : (n, some o) ∈ unOs P id as objs 0 i := someL_mem (lookL_mem h)
theorem sigBound_spec : ∀ {σ : List (Nat × Option Nat)} {m j : Nat} {x : Option Nat}, sigBound σ m = true → sigma σ j = some x → j < m
  | [], m, j, x, h, hs => by simp [sigma] at hs
  | (i, y) :: σ, m, j, x, h, hs => by
    simp only [sigBound, Bool.and_eq_true] at h
    simp only [sigma] at hs
    cases hb : Nat.beq i j with
    | true => have := beqN hb; subst this; have := h.1; rwa [Nat.blt_eq] at this
    | false => rw [hb] at hs; exact sigBound_spec h.2 (by simpa using hs)
theorem gonesOk_spec : ∀ {σ : List (Nat × Option Nat)} {l : List OM} {j p : Nat}, gonesOk σ j l = true → l[p]? = some .gone → sigma σ (j + p) = none
  | σ, [], j, p, h, hp => by simp at hp
  | σ, om :: l, j, 0, h, hp => by
    simp at hp; subst hp
    simp only [gonesOk, Bool.and_eq_true] at h
    simpa using h.1
  | σ, om :: l, j, p + 1, h, hp => by
    have h2 : gonesOk σ (j + 1) l = true := by cases om <;> simp only [gonesOk, Bool.and_eq_true] at h <;> first | exact h.2 | exact h
    have := gonesOk_spec h2 (p := p) (by simpa using hp)
    rwa [show j + 1 + p = j + (p + 1) by omega] at this
theorem apartB_spec {σ : List (Nat × Option Nat)} : ∀ {l : List Nat} {j n : Nat}, apartB σ l = true → n ∈ l → sigma σ j = some (some n) → False
  | [], j, n, h, hn, hs => by simp at hn
  | m :: l, j, n, h, hn, hs => by
    simp only [apartB, Bool.and_eq_true] at h
    rcases List.mem_cons.1 hn with rfl | hn
    · have := hasName_sigma hs; rw [this] at h; simp at h
    · exact apartB_spec h.2 hn hs

section
variable {P : Program} {look : Look}
mutual
theorem packR_names : ∀ (c : RM) {d : D} {k k' : Pk}, packR P look c d k = some k' → ∀ n, n ∈ k'.frz → n ∈ k.frz ∨ ∃ e xs, look n = some (.row e xs)
  | .v τ, d, k, k', h => by
    unfold packR at h
    split at h
    case h_1 t f hp => cases h; intro n hn; rcases List.mem_append.1 hn with h1 | h1; exact .inl h1; exact .inr (packT_names hp n h1)
    case h_2 => cases h
  | .fn ps rs, d, k, k', h => by
    cases d <;> simp only [packR] at h <;> first
      | (cases h; done)
      | (replace h := (bif_some h).2; cases h; exact fun n hn => .inl hn)
  | .p j τ, d, k, k', h => by
    cases d <;> try (simp only [packR] at h; cases h; done)
    case ptr n τ' path =>
      cases path with
      | cons => simp [packR] at h
      | nil =>
        simp only [packR] at h
        replace h := (bif_some h).2
        split at h
        case h_1 σ hb => cases h; exact fun n hn => .inl hn
        case h_2 => cases h
  | .o j, d, k, k', h => by
    cases d <;> simp only [packR] at h <;> first
      | (cases h; done)
      | (split at h
         · cases h; exact fun n hn => .inl hn
         · cases h)
  | .m j, d, k, k', h => by
    cases d <;> simp only [packR] at h <;> first
      | (cases h; done)
      | (split at h
         · cases h; exact fun n hn => .inl hn
         · cases h)
  | .np, d, k, k', h => by
    cases d <;> simp only [packR] at h <;> first
      | (cases h; done)
      | (cases h; exact fun n hn => .inl hn)
  | .nl, d, k, k', h => by
    cases d <;> simp only [packR] at h <;> first
      | (cases h; done)
      | (cases h; exact fun n hn => .inl hn)
  | .nm, d, k, k', h => by
    cases d <;> simp only [packR] at h <;> first
      | (cases h; done)
      | (cases h; exact fun n hn => .inl hn)
  | .nf, d, k, k', h => by
    cases d <;> simp only [packR] at h <;> first
      | (cases h; done)
      | (cases h; exact fun n hn => .inl hn)
  | .clo f cs, d, k, k', h => by
    cases d <;> simp only [packR] at h <;> first
      | (cases h; done)
      | exact packRs_names cs (bif_some h).2
  | .agg τ cs, d, k, k', h => by
    cases d <;> simp only [packR] at h <;> first
      | (cases h; done)
      | exact packRs_names cs (bif_some h).2
      | (replace h := (bif_some h).2
         split at h
         · exact packRs_names cs h
         · cases h)
theorem packRs_names : ∀ (cs : List RM) {ds : List D} {k k' : Pk}, packRs P look cs ds k = some k' → ∀ n, n ∈ k'.frz → n ∈ k.frz ∨ ∃ e xs, look n = some (.row e xs)
  | [], ds, k, k', h => by cases ds <;> simp only [packRs] at h <;> cases h; exact fun n hn => .inl hn
  | c :: cs, ds, k, k', h => by
    cases ds <;> simp only [packRs] at h
    case nil => cases h
    case cons d ds =>
      split at h
      case h_1 k1 h1 =>
        intro n hn
        rcases packRs_names cs h n hn with h2 | h2
        · exact packR_names c h1 n h2
        · exact .inr h2
      case h_2 => cases h
end
theorem packObjs_names {st : Bool} : ∀ (l : List OM) {j : Nat} {k k' : Pk}, packObjs P st look j l k = some k' → ∀ n, n ∈ k'.frz → n ∈ k.frz ∨ ∃ e xs, look n = some (.row e xs)
  | [], j, k, k', h => by simp only [packObjs] at h; cases h; exact fun n hn => .inl hn
  | .gone :: l, j, k, k', h => by simp only [packObjs] at h; exact packObjs_names l h
  | .var τ c ro :: l, j, k, k', h => by
    simp only [packObjs] at h
    split at h
    · split at h
      · replace h := (bif_some h).2
        split at h
        case h_1 k1 h1 =>
          intro n hn
          rcases packObjs_names l h n hn with h2 | h2
          · exact packR_names c h1 n h2
          · exact .inr h2
        case h_2 => cases h
      · cases h
    · cases h
  | .row e :: l, j, k, k', h => by
    simp only [packObjs] at h
    split at h
    · split at h
      · exact fun n hn => packObjs_names l (bif_some h).2 n hn
      · cases h
    · split at h
      · exact fun n hn => packObjs_names l h n hn
      · cases h
    · cases h
  | .map kt vt :: l, j, k, k', h => by
    simp only [packObjs] at h
    split at h
    · split at h
      · exact fun n hn => packObjs_names l (bif_some h).2 n hn
      · cases h
    · cases h
/-- Whatever is bound is there. -/
theorem packObjs_live {st : Bool} : ∀ (l : List OM) {j : Nat} {k k' : Pk}, packObjs P st look j l k = some k' → ∀ p om, l[p]? = some om → om = .gone ∨ sigma k'.σ (j + p) = some none ∨ ∃ n on, sigma k'.σ (j + p) = some (some n) ∧ look n = some on
  | [], j, k, k', h, p, om, hp => by simp at hp
  | .gone :: l, j, k, k', h, p, om, hp => by
    simp only [packObjs] at h
    cases p with
    | zero => simp at hp; exact .inl hp.symm
    | succ p => rw [show j + (p + 1) = j + 1 + p by omega]; exact packObjs_live l h p om (by simpa using hp)
  | .var τ c ro :: l, j, k, k', h, p, om, hp => by
    have hh := (packObjs_le _ h).1.σ
    simp only [packObjs] at h
    split at h
    · rename_i n hs
      split at h
      · rename_i τ' d ro' hl
        replace h := (bif_some h).2
        split at h
        case h_1 k1 h1 =>
          cases p with
          | zero => exact .inr (.inr ⟨n, _, hh _ _ hs, hl⟩)
          | succ p => rw [show j + (p + 1) = j + 1 + p by omega]; exact packObjs_live l h p om (by simpa using hp)
        case h_2 => cases h
      · cases h
    · cases h
  | .row e :: l, j, k, k', h, p, om, hp => by
    have hh := (packObjs_le _ h).1.σ
    simp only [packObjs] at h
    split at h
    · rename_i n hs
      split at h
      · rename_i e' xs hl
        cases p with
        | zero => exact .inr (.inr ⟨n, _, hh _ _ hs, hl⟩)
        | succ p => rw [show j + (p + 1) = j + 1 + p by omega]; exact packObjs_live l (bif_some h).2 p om (by simpa using hp)
      · cases h
    · rename_i hs
      split at h
      · cases p with
        | zero => exact .inr (.inl (hh _ _ hs))
        | succ p => rw [show j + (p + 1) = j + 1 + p by omega]; exact packObjs_live l h p om (by simpa using hp)
      · cases h
    · cases h
  | .map kt vt :: l, j, k, k', h, p, om, hp => by
    have hh := (packObjs_le _ h).1.σ
    simp only [packObjs] at h
    split at h
    · rename_i n hs
      split at h
      · rename_i hl
        cases p with
        | zero => exact .inr (.inr ⟨n, _, hh _ _ hs, hl⟩)
        | succ p => rw [show j + (p + 1) = j + 1 + p by omega]; exact packObjs_live l (bif_some h).2 p om (by simpa using hp)
      · cases h
    · cases h
end

section
variable {M M' : Mem} {β β' : Places} {look : Look} {F : List Nat} {σf : List (Nat × Option Nat)} {as : List A} {off : Nat}
theorem unOs_ge {P : Program} {nm : Nat → Nat} {as : List A} : ∀ {l : List OM} {j i : Nat} {x : Nat × Option O}, x ∈ unOs P nm as l j i → ∃ p, j ≤ p ∧ p < j + l.length ∧ x.1 = nm p
  | [], j, i, x, h => by simp [unOs] at h
  | om :: l, j, i, x, h => by
    simp only [unOs, List.mem_cons] at h
    rcases h with rfl | h
    · exact ⟨j, Nat.le_refl _, by simp, rfl⟩
    · obtain ⟨p, h1, h2, h3⟩ := unOs_ge h
      exact ⟨p, by omega, by simp; omega, h3⟩
theorem packObjs_rep {st : Bool} (ho : Objs M β look) (tr : Tr M M' β F) (hW : ∀ j n pl, sigma σf j = some (some n) → β n = some pl → pl.virt = false → M'.W.heap[pl.b]? = M.W.heap[pl.b]?) (bd : Bind β β' σf id) : ∀ (l : List OM) {j : Nat} {k k' : Pk}, packObjs M.P st look j l k = some k' → (∀ j x, sigma k'.σ j = some x → sigma σf j = some x) → (∀ n, n ∈ k'.frz → n ∈ F) →
    (∀ i, i < k'.as.length → aAt as (off + i) = aAt k'.as i) → ∀ n o, (n, some o) ∈ unOs M.P id as l j (off + k.as.length) →
    (∃ m on pl, sigma σf n = some (some m) ∧ look m = some on ∧ β m = some pl ∧ RO M' β' pl o ∧ (st = true → isRo on = isRo o) ∧ (isRo o = false → isRo on = false)) ∨
    (sigma σf n = some none ∧ isRo o = false ∧ ∃ e s, l[n - j]? = some (.row e) ∧ j ≤ n ∧ o = .row e [] ∧ csz M.P e = some (s + 1))
  | [], j, k, k', h, hσ, hF, ha, n, o, hm => by simp [unOs] at hm
  | .gone :: l, j, k, k', h, hσ, hF, ha, n, o, hm => by
    simp only [packObjs] at h
    simp only [unOs, unO, List.mem_cons, Prod.mk.injEq, reduceCtorEq, and_false, false_or] at hm
    rcases packObjs_rep ho tr hW bd l h hσ hF ha n o hm with h1 | ⟨h1, h2, e, s, h3, h4, h5⟩
    · exact .inl h1
    · refine .inr ⟨h1, h2, e, s, ?_, by omega, h5⟩
      rw [show n - j = (n - (j + 1)) + 1 by omega]; simpa using h3
  | .var τ c ro :: l, j, k, k', h, hσ, hF, ha, n, o, hm => by
    have hh := (packObjs_le _ h).1.σ
    simp only [packObjs] at h
    split at h
    · rename_i m hs
      split at h
      · rename_i τ' d ro' hl
        have hc := (bif_some h).1
        replace h := (bif_some h).2
        split at h
        case h_1 k1 h1 =>
          have hj : τ = τ' ∧ (st = true → ro = ro') ∧ (ro = false → ro' = false) := by
            simp only [Bool.and_eq_true] at hc
            refine ⟨beqN hc.1, ?_⟩
            cases st <;> simp at hc
            · exact ⟨fun h => by simp at h, fun h => by cases ro <;> cases ro' <;> simp_all⟩
            · exact ⟨fun _ => hc.2, fun h => by rw [← hc.2, h]⟩
          obtain ⟨rfl, hj2, hj3⟩ := hj
          obtain ⟨pl, hpl, hv, cc, el, fr, w1, w2, w3, w4, w5⟩ := ho m _ hl
          obtain ⟨le2, _⟩ := packObjs_le l h
          obtain ⟨lx, hlx⟩ := le2.as
          obtain ⟨r1, r2, r3, r4⟩ := packR_rep (off := off) (as := as) ho tr bd c h1 w4 (fun j x hx => hσ j x (le2.σ j x hx)) (fun n hn => hF n (le2.frz n hn)) (fun i hi => by
              rw [ha i (by rw [hlx, List.length_append]; omega), hlx]
              simp only [aAt, List.getD, List.getElem?_append_left hi])
          simp only [unOs, unO, List.mem_cons, Prod.mk.injEq, id_eq, Option.some.injEq] at hm
          rcases hm with ⟨rfl, rfl⟩ | hm
          · refine .inl ⟨m, _, pl, hσ _ _ (hh _ _ hs), hl, hpl, ⟨hv, cc, el, fr, by rw [hW _ _ _ (hσ _ _ (hh _ _ hs)) hpl hv]; exact w1, w2, by rw [tr.P]; exact w3, r1, by rw [tr.P]; exact r4 _ w5⟩, fun e => (hj2 e).symm, fun e => hj3 e⟩
          · rw [r2] at hm
            rcases packObjs_rep ho tr hW bd l h hσ hF ha n o hm with h1 | ⟨h1, h2, e, s, h3, h4, h5⟩
            · exact .inl h1
            · refine .inr ⟨h1, h2, e, s, ?_, by omega, h5⟩
              rw [show n - j = (n - (j + 1)) + 1 by omega]; simpa using h3
        case h_2 => cases h
      · cases h
    · cases h
  | .row e :: l, j, k, k', h, hσ, hF, ha, n, o, hm => by
    have hh := (packObjs_le _ h).1.σ
    have step : ∀ (xs : List T) (k1 : Pk), k1 = ⟨k.as ++ [.t (.node xs)], k.σ, k.frz, k.held⟩ → packObjs M.P st look (j + 1) l k1 = some k' → aAt as (off + k.as.length) = .t (.node xs) := by
      intro xs k1 hk1 hp
      obtain ⟨lx, hlx⟩ := (packObjs_le l hp).1.as
      subst hk1
      rw [ha _ (by rw [hlx]; simp), hlx]
      simp [aAt, List.getD]
    simp only [packObjs] at h
    split at h
    · rename_i m hs
      split at h
      · rename_i e' xs hl
        have := beqN (bif_some h).1
        subst this
        replace h := (bif_some h).2
        have ha1 := step xs _ rfl h
        simp only [unOs, unO, List.mem_cons, Prod.mk.injEq, id_eq, Option.some.injEq, ha1, A.tree, T.kids] at hm
        rcases hm with ⟨rfl, rfl⟩ | hm
        · obtain ⟨pl, hpl, w1, w2, w3, w4, w5⟩ := ho m _ hl
          refine .inl ⟨m, _, pl, hσ _ _ (hh _ _ hs), hl, hpl, ⟨w1, by rw [tr.P]; exact w2, w3, w4, fun hv => ?_⟩, fun _ => rfl, fun _ => rfl⟩
          obtain ⟨c, el, fr, x1, x2, x3, x4⟩ := w5 hv
          exact ⟨c, el, fr, by rw [hW _ _ _ (hσ _ _ (hh _ _ hs)) hpl hv]; exact x1, x2, x3, fun i x hx => by
            rw [tr.P]
            exact (x4 i x hx).stay ⟨fun b hb => tr.mid.1 b (.inl hb), fun b o hb ho => tr.mid.2 b o (.inl hb) ho⟩⟩
        · rw [show off + k.as.length + 1 = off + (Pk.mk (k.as ++ [.t (.node xs)]) k.σ k.frz k.held).as.length by simp; omega] at hm
          rcases packObjs_rep ho tr hW bd l h hσ hF ha n o hm with h1 | ⟨h1, h2, e, s, h3, h4, h5⟩
          · exact .inl h1
          · refine .inr ⟨h1, h2, e, s, ?_, by omega, h5⟩
            rw [show n - j = (n - (j + 1)) + 1 by omega]; simpa using h3
      · cases h
    · rename_i hs
      split at h
      · rename_i s hcs
        have ha1 := step [] _ rfl h
        simp only [unOs, unO, List.mem_cons, Prod.mk.injEq, id_eq, Option.some.injEq, ha1, A.tree, T.kids] at hm
        rcases hm with ⟨rfl, rfl⟩ | hm
        · exact .inr ⟨hσ _ _ (hh _ _ hs), rfl, e, s, by simp, Nat.le_refl _, rfl, hcs⟩
        · rw [show off + k.as.length + 1 = off + (Pk.mk (k.as ++ [.t (.node [])]) k.σ k.frz k.held).as.length by simp; omega] at hm
          rcases packObjs_rep ho tr hW bd l h hσ hF ha n o hm with h1 | ⟨h1, h2, e, s, h3, h4, h5⟩
          · exact .inl h1
          · refine .inr ⟨h1, h2, e, s, ?_, by omega, h5⟩
            rw [show n - j = (n - (j + 1)) + 1 by omega]; simpa using h3
      · cases h
    · cases h
  | .map kt vt :: l, j, k, k', h, hσ, hF, ha, n, o, hm => by
    have hh := (packObjs_le _ h).1.σ
    have step : ∀ (xs : List T) (k1 : Pk), k1 = ⟨k.as ++ [.t (.node xs)], k.σ, k.frz, k.held⟩ → packObjs M.P st look (j + 1) l k1 = some k' → aAt as (off + k.as.length) = .t (.node xs) := by
      intro xs k1 hk1 hp
      obtain ⟨lx, hlx⟩ := (packObjs_le l hp).1.as
      subst hk1
      rw [ha _ (by rw [hlx]; simp), hlx]
      simp [aAt, List.getD]
    simp only [packObjs] at h
    split at h
    · rename_i m hs
      split at h
      · rename_i kt' vt' es hl
        have hb := (bif_some h).1
        simp only [Bool.and_eq_true] at hb
        have e1 := beqN hb.1
        have e2 := beqN hb.2
        subst e1; subst e2
        replace h := (bif_some h).2
        have ha1 := step es _ rfl h
        simp only [unOs, unO, List.mem_cons, Prod.mk.injEq, id_eq, Option.some.injEq, ha1, A.tree, T.kids] at hm
        rcases hm with ⟨rfl, rfl⟩ | hm
        · obtain ⟨pl, hpl, w1, ms, clock, w2, w3⟩ := ho m _ hl
          refine .inl ⟨m, _, pl, hσ _ _ (hh _ _ hs), hl, hpl, ⟨w1, ms, clock, by rw [hW _ _ _ (hσ _ _ (hh _ _ hs)) hpl w1]; exact w2, ?_⟩, fun _ => rfl, fun _ => rfl⟩
          have hst : Stay M.ok M'.ok M.W M'.W := ⟨fun b hb => tr.mid.1 b (.inl hb), fun b o hb ho => tr.mid.2 b o (.inl hb) ho⟩
          have : ∀ {es : List T} {ms : List MapEntry}, REnts M kt vt es ms → REnts M' kt vt es ms := by
            intro es
            induction es with
            | nil => intro ms h; cases ms <;> exact h
            | cons e es ih =>
              intro ms h
              cases ms with
              | nil => exact h
              | cons m ms => exact ⟨⟨by rw [tr.P]; exact h.1.1.stay hst, by rw [tr.P]; exact h.1.2.stay hst⟩, ih h.2⟩
          exact this w3
        · rw [show off + k.as.length + 1 = off + (Pk.mk (k.as ++ [.t (.node es)]) k.σ k.frz k.held).as.length by simp; omega] at hm
          rcases packObjs_rep ho tr hW bd l h hσ hF ha n o hm with h1 | ⟨h1, h2, e, s, h3, h4, h5⟩
          · exact .inl h1
          · refine .inr ⟨h1, h2, e, s, ?_, by omega, h5⟩
            rw [show n - j = (n - (j + 1)) + 1 by omega]; simpa using h3
      · cases h
    · cases h
end
end Go.Proofs.YtpfglhjgjfhkjaaDoorVM
/- Over a boundary: one side's state becomes the other side's. -/
namespace Go.Proofs.YtpfglhjgjfhkjaaDoorVM
open Go Go.RowKit
set_option linter.unusedVariables false
set_option linter.unusedSimpArgs false

/-- What is asked of the other side's frame. -/
structure Over (P : Program) (C C' : Ctx) (β : Places) (look look' : Look) (W : World) (st : Bool) (σ : List (Nat × Option Nat)) (frz : List Nat) : Prop where
  keeps : Keeps C' W
  avold : ∀ b, C'.Av b → b < C'.W0.heap.size
  av : ∀ b, C'.Av b → C.Av b ∨ ∃ n pl, look n ≠ none ∧ β n = some pl ∧ pl.virt = false ∧ pl.b = b ∧ n ∉ frz
  own : ∀ j o' n on pl, look' j = some o' → sigma σ j = some (some n) → look n = some on → β n = some pl → pl.virt = false → (st = true → isRo on = isRo o') → (isRo o' = false → isRo on = false) →
    (isRo o' = false → (C'.W0.heap.size ≤ pl.b ∨ C'.S0 pl.b) ∧ ¬ C'.Av pl.b) ∧ (isRo o' = true → C'.Av pl.b)
  fn : ∀ g ps rs v, FnRep P C g ps rs v → FnRep P C' g ps rs v

section
variable {P : Program} {G : Globs} {C C' : Ctx} {β : Places} {free : Nat → Prop} {N : Nat} {regs : Regs} {look : Look} {a : Act} {W : World} {st : Bool} {objs : List OM} {k0 k : Pk}
theorem betaOf_bind (hb : sigBound k.σ objs.length = true) : Bind β (betaOf P β k.σ objs) k.σ id :=
  ⟨fun j n pl h1 h2 => by simp only [id_eq, betaOf, h1]; exact h2, fun j h1 => ⟨blank P objs j, by simp only [id_eq, betaOf, h1], rfl, rfl⟩⟩
/-- Where the other side's live names lie on this side. -/
theorem over_live (h : Rel P G C β free N regs look a W) (hb : sigBound k.σ objs.length = true) (hgo : gonesOk k.σ 0 objs = true) (hobj : packObjs P st look 0 objs k0 = some k)
    {j : Nat} {pl : Place} (hp : betaOf P β k.σ objs j = some pl) (hv : pl.virt = false) : ∃ n on, sigma k.σ j = some (some n) ∧ look n = some on ∧ β n = some pl := by
  unfold betaOf at hp
  split at hp
  · rename_i n hs
    have hj := sigBound_spec hb hs
    have hom : objs[j]? = some objs[j] := List.getElem?_eq_getElem hj
    rcases packObjs_live objs hobj j _ hom with h1 | h1 | ⟨m, on, h1, h2⟩
    · rw [h1] at hom
      have := gonesOk_spec hgo hom
      rw [Nat.zero_add, hs] at this
      cases this
    · rw [Nat.zero_add, hs] at h1; cases h1
    · rw [Nat.zero_add, hs] at h1
      cases h1
      exact ⟨n, on, hs, h2, hp⟩
  · cases hp; cases hv
  · cases hp
theorem over_tr (h : Rel P G C β free N regs look a W) (hb : sigBound k.σ objs.length = true) (hgo : gonesOk k.σ 0 objs = true) (hap : apartB k.σ k.frz = true) (hobj : packObjs P st look 0 objs k0 = some k)
    (hfr : ∀ n, n ∈ k.frz → ∃ e xs, look n = some (.row e xs)) {look' : Look} (ov : Over P C C' β look look' W st k.σ k.frz) :
    Tr (memOf P C β look W) (memOf P C' (betaOf P β k.σ objs) look' W) β k.frz := by
  have key : ∀ b, (okOf C β look b ∨ ∃ n, n ∈ k.frz ∧ ∃ pl, β n = some pl ∧ pl.virt = false ∧ pl.b = b) → okOf C' (betaOf P β k.σ objs) look' b := by
    intro b hb0
    refine ⟨fun hav => ?_, fun j pl hlj hpj hvj hbj => ?_⟩
    · rcases ov.av b hav with h1 | ⟨m, plm, h1, h2, h3, h4, h5⟩
      · rcases hb0 with h6 | ⟨n, hn, pl, h7, h8, h9⟩
        · exact h6.1 h1
        · obtain ⟨e, xs, hl⟩ := hfr n hn
          exact h.own n _ pl hl h7 h8 rfl (h9 ▸ h1)
      · rcases hb0 with h6 | ⟨n, hn, pl, h7, h8, h9⟩
        · exact h6.2 m plm h1 h2 h3 h4
        · obtain ⟨e, xs, hl⟩ := hfr n hn
          have := h.inj m n plm pl h1 (by rw [hl]; simp) h2 h7 h3 h8 (h4.trans h9.symm)
          subst this
          exact h5 hn
    · obtain ⟨m, on, h1, h2, h3⟩ := over_live h hb hgo hobj hpj hvj
      rcases hb0 with h6 | ⟨n, hn, pl', h7, h8, h9⟩
      · exact h6.2 m pl (by rw [h2]; simp) h3 hvj hbj
      · obtain ⟨e, xs, hl⟩ := hfr n hn
        have := h.inj m n pl pl' (by rw [h2]; simp) (by rw [hl]; simp) h3 h7 hvj h8 (hbj.trans h9.symm)
        subst this
        exact apartB_spec hap hn h1
  exact ⟨rfl, ⟨fun b hb => .inl (key b hb), fun _ _ _ ho => ho⟩, ov.fn⟩
theorem Rel.over (h : Rel P G C β free N regs look a W) (hi : SInj k.σ) (hb : sigBound k.σ objs.length = true) (hgo : gonesOk k.σ 0 objs = true) (hap : apartB k.σ k.frz = true) (hobj : packObjs P st look 0 objs k0 = some k)
    (hfr : ∀ n, n ∈ k.frz → ∃ e xs, look n = some (.row e xs)) (ov : Over P C C' β look (lookOf P objs k.as k0.as.length) W st k.σ k.frz)
    {N' : Nat} {regs' : Regs} {a' : Act} (hd : a'.defers = []) (hN : a'.tmps.size = N')
    (hv : ∀ t, RV (memOf P C' (betaOf P β k.σ objs) (lookOf P objs k.as k0.as.length) W) (betaOf P β k.σ objs) (regs' t) (a'.tmps.getD t Go.undef)) (hbd : ∀ t, N' ≤ t → regs' t = .undef) :
    Rel P G C' (betaOf P β k.σ objs) (fun j => objs.length ≤ j) N' regs' (lookOf P objs k.as k0.as.length) a' W := by
  have tr := over_tr h hb hgo hap hobj hfr ov
  have ho := packObjs_rep (as := k.as) (off := 0) (F := k.frz) (σf := k.σ) h.objs tr (fun _ _ _ _ _ _ => rfl) (betaOf_bind (P := P) (β := β) hb) objs hobj (fun _ _ h => h) (fun _ h => h) (fun i _ => by rw [Nat.zero_add])
  have ho' : ∀ n o, lookOf P objs k.as k0.as.length n = some o → _ := fun n o hn => ho n o (by rw [Nat.zero_add]; exact lookOf_mem hn)
  have real : ∀ j o pl, lookOf P objs k.as k0.as.length j = some o → betaOf P β k.σ objs j = some pl → pl.virt = false → ∃ n on, sigma k.σ j = some (some n) ∧ look n = some on ∧ β n = some pl ∧ (st = true → isRo on = isRo o) ∧ (isRo o = false → isRo on = false) := by
    intro j o pl hj hp hv
    rcases ho' j o hj with ⟨m, on, pl', h1, h2, h3, _, h5, h6⟩ | ⟨h1, _⟩
    · have : betaOf P β k.σ objs j = β m := by simp only [betaOf, h1]
      rw [this, h3] at hp
      cases hp
      exact ⟨m, on, h1, h2, h3, h5, h6⟩
    · have : betaOf P β k.σ objs j = some (blank P objs j) := by simp only [betaOf, h1]
      rw [this] at hp
      cases hp
      cases hv
  have fr : ∀ j o pl, lookOf P objs k.as k0.as.length j = some o → betaOf P β k.σ objs j = some pl → pl.virt = false → (isRo o = false → (C'.W0.heap.size ≤ pl.b ∨ C'.S0 pl.b) ∧ ¬ C'.Av pl.b) ∧ (isRo o = true → C'.Av pl.b) := by
    intro j o pl hj hp hv
    obtain ⟨n, on, h1, h2, h3, h4, h5⟩ := real j o pl hj hp hv
    exact ov.own j o n on pl hj h1 h2 h3 hv h4 h5
  refine { keeps := ov.keeps, defers := hd, size := hN, vals := hv, bound := hbd, objs := fun j o hj => ?_, inj := fun i j pl pl' hi' hj' hp hp' hv hv' hbb => ?_, foot := fun j o pl hj hp hv hr => ((fr j o pl hj hp hv).1 hr).1,
           own := fun j o pl hj hp hv hr => ((fr j o pl hj hp hv).1 hr).2, roav := fun j o pl hj hp hv hr => (fr j o pl hj hp hv).2 hr, free := fun j hj => ?_, globs := fun g τ t hg => ?_, avold := ov.avold }
  · rcases ho' j o hj with ⟨m, on, pl, h1, h2, h3, h4, _⟩ | ⟨h1, h2, e, s, h3, _, h5, h6⟩
    · exact ⟨pl, by simp only [betaOf, h1]; exact h3, h4⟩
    · refine ⟨blank P objs j, by simp only [betaOf, h1], ?_⟩
      have h3' : objs[j]? = some (.row e) := by simpa using h3
      have h6' : csz P e = some (s + 1) := h6
      subst h5
      refine ⟨rfl, ?_, ?_, fun _ => rfl, fun hv => by cases hv⟩
      · show csz P e = some (blank P objs j).sz
        simp [blank, h3', h6']
      · show 0 < (blank P objs j).sz
        simp [blank, h3', h6']
  · obtain ⟨o1, ho1⟩ := Option.ne_none_iff_exists'.1 hi'
    obtain ⟨o2, ho2⟩ := Option.ne_none_iff_exists'.1 hj'
    obtain ⟨n, on, h1, h2, h3, _⟩ := real i o1 pl ho1 hp hv
    obtain ⟨m, om, h4, h5, h6, _⟩ := real j o2 pl' ho2 hp' hv'
    have := h.inj n m pl pl' (by rw [h2]; simp) (by rw [h5]; simp) h3 h6 hv hv' hbb
    subst this
    exact hi i j n h1 h4
  · cases hs : sigma k.σ j with
    | none => simp only [betaOf, hs]
    | some x => have := sigBound_spec hb hs; omega
  · obtain ⟨b, o, c, el, fr, s, h1, h2, h3, h4, h5, h6⟩ := h.globs g τ t hg
    refine ⟨b, o, c, el, fr, s, h1, (tr.mid.1 b (.inl h2)).resolve_right (by show ¬ W.heap[b]? = none; rw [show W.heap[b]? = _ from h3]; simp), h3, h4, h5.stay ⟨fun b hb => tr.mid.1 b (.inl hb), fun b o hb ho => tr.mid.2 b o (.inl hb) ho⟩, h6⟩
/-- The same frame goes on. -/
theorem Over.same (h : Rel P G C β free N regs look a W) {look' : Look} : Over P C C β look look' W true k.σ k.frz where
  keeps := h.keeps
  avold := h.avold
  av := fun b hb => .inl hb
  own := fun j o' n on pl h1 h2 h3 h4 h5 h6 h7 => ⟨fun hr => ⟨h.foot n on pl h3 h4 h5 (h7 hr), h.own n on pl h3 h4 h5 (h7 hr)⟩, fun hr => h.roav n on pl h3 h4 h5 ((h6 rfl).trans hr)⟩
  fn := fun _ _ _ _ h => h
/-! ### a call's frame -/
/-- What a callee may write: this side's names that it was handed to keep or to use up. -/
def callS (β : Places) (σ : List (Nat × Option Nat)) (look' : Look) (b : Nat) : Prop := ∃ j o n pl, look' j = some o ∧ isRo o = false ∧ sigma σ j = some (some n) ∧ β n = some pl ∧ pl.virt = false ∧ pl.b = b
/-- What it must leave alone. -/
def callAv (C : Ctx) (β : Places) (look : Look) (σ : List (Nat × Option Nat)) (frz : List Nat) (look' : Look) (b : Nat) : Prop :=
  C.Av b ∨ ∃ n pl, look n ≠ none ∧ β n = some pl ∧ pl.virt = false ∧ pl.b = b ∧ n ∉ frz ∧ ∀ j o, look' j = some o → isRo o = false → sigma σ j ≠ some (some n)
def callC (C : Ctx) (β : Places) (look : Look) (W : World) (σ : List (Nat × Option Nat)) (frz : List Nat) (look' : Look) : Ctx := ⟨W, callS β σ look', callAv C β look σ frz look'⟩
theorem Rel.live_lt (h : Rel P G C β free N regs look a W) {n : Nat} {pl : Place} (hn : look n ≠ none) (hp : β n = some pl) (hv : pl.virt = false) : pl.b < W.heap.size := by
  obtain ⟨o, ho⟩ := Option.ne_none_iff_exists'.1 hn
  obtain ⟨pl', h1, h2⟩ := h.objs n o ho
  rw [hp] at h1; cases h1
  exact h2.real hv
theorem Rel.live_foot (h : Rel P G C β free N regs look a W) {n : Nat} {pl : Place} (hn : look n ≠ none) (hp : β n = some pl) (hv : pl.virt = false) : C.Av pl.b ∨ C.S0 pl.b ∨ C.W0.heap.size ≤ pl.b := by
  obtain ⟨o, ho⟩ := Option.ne_none_iff_exists'.1 hn
  cases hr : isRo o with
  | true => exact .inl (h.roav n o pl ho hp hv hr)
  | false => rcases h.foot n o pl ho hp hv hr with h1 | h1; exact .inr (.inr h1); exact .inr (.inl h1)
/-- A function value is one in a frame further in. -/
theorem FnRep.inner {g : List T → Option (List T)} {ps rs : List TypeId} {v : Value} (h : FnRep P C g ps rs v) (hk : Keeps C W) {S A : Nat → Prop} (hS : ∀ b, S b → C.W0.heap.size ≤ b ∨ C.S0 b) (hA : ∀ b, C.Av b → A b) (hA2 : ∀ b, A b → C.Av b ∨ C.S0 b ∨ C.W0.heap.size ≤ b) :
    FnRep P ⟨W, S, A⟩ g ps rs v := by
  obtain ⟨f, caps, h1, h2, h3⟩ := h
  refine ⟨f, caps, h1, h2, fun W' hk' A' a1 a2 a3 ts o vs => h3 W' ?_ A' (fun b hb => a1 b (hA b hb)) (fun b hb => ?_) a3 ts o vs⟩
  · exact ⟨hk'.os.trans hk.os, hk'.tape.trans hk.tape, hk'.output.trans hk.output, Nat.le_trans hk.size hk'.size, fun b hb hs =>
      (hk'.block b (Nat.lt_of_lt_of_le hb hk.size) (fun hx => by rcases hS b hx with h4 | h4; omega; exact hs h4)).trans (hk.block b hb hs)⟩
  · rcases a2 b hb with h4 | h4 | h4
    · exact hA2 b h4
    · rcases hS b h4 with h5 | h5
      · exact .inr (.inr h5)
      · exact .inr (.inl h5)
    · have := hk.size
      exact .inr (.inr (Nat.le_trans this h4))
theorem Over.call (h : Rel P G C β free N regs look a W) (hi : SInj k.σ) {look' : Look} (hlive : ∀ j n, sigma k.σ j = some (some n) → look n ≠ none)
    (hap : apartB k.σ k.frz = true) (hro : ∀ j o n on, look' j = some o → sigma k.σ j = some (some n) → look n = some on → isRo o = false → isRo on = false) :
    Over P C (callC C β look W k.σ k.frz look') β look look' W false k.σ k.frz := by
  have hS : ∀ b, callS β k.σ look' b → C.W0.heap.size ≤ b ∨ C.S0 b := by
    rintro b ⟨j, o, n, pl, h1, h2, h3, h4, h5, rfl⟩
    obtain ⟨on, hon⟩ := Option.ne_none_iff_exists'.1 (hlive j n h3)
    exact h.foot n on pl hon h4 h5 (hro j o n on h1 h3 hon h2)
  refine { keeps := Keeps.start W _ _, avold := fun b hb => ?_, av := fun b hb => ?_, own := fun j o' n on pl h1 h2 h3 h4 h5 h6 h7 => ⟨fun hr => ⟨.inr ⟨j, o', n, pl, h1, hr, h2, h4, h5, rfl⟩, fun hav => ?_⟩, fun hr => ?_⟩, fn := fun g ps rs v hf => hf.inner h.keeps hS (fun b hb => .inl hb) (fun b hb => ?_) }
  · show b < W.heap.size
    rcases hb with hb | ⟨n, pl, h1, h2, h3, h4, _⟩
    · exact Nat.lt_of_lt_of_le (h.avold b hb) h.keeps.size
    · rw [← h4]; exact h.live_lt h1 h2 h3
  · rcases hb with hb | ⟨n, pl, h1, h2, h3, h4, h5, _⟩
    · exact .inl hb
    · exact .inr ⟨n, pl, h1, h2, h3, h4, h5⟩
  · rcases hav with hav | ⟨m, plm, q1, q2, q3, q4, q5, q6⟩
    · exact h.own n on pl h3 h4 h5 (h7 hr) hav
    · have := h.inj m n plm pl q1 (by rw [h3]; simp) q2 h4 q3 h5 q4
      subst this
      exact q6 j o' h1 hr h2
  · cases hron : isRo on with
    | true => exact .inl (h.roav n on pl h3 h4 h5 hron)
    | false =>
      refine .inr ⟨n, pl, by rw [h3]; simp, h4, h5, rfl, fun hn => apartB_spec hap hn h2, fun i o q1 q2 q3 => ?_⟩
      have := hi i j n q3 h2
      subst this
      rw [h1] at q1; cases q1
      rw [hr] at q2; cases q2
  · rcases hb with hb | ⟨n, pl, h1, h2, h3, h4, _⟩
    · exact .inl hb
    · rw [← h4]; exact h.live_foot h1 h2 h3
end
end Go.Proofs.YtpfglhjgjfhkjaaDoorVM
/- A function's contract; closures as functions of data; arguments. -/
namespace Go.Proofs.YtpfglhjgjfhkjaaDoorVM
open Go Go.RowKit
set_option linter.unusedVariables false
set_option linter.unusedSimpArgs false

/-- The state in which a callee begins, or in which it leaves. -/
def At (P : Program) (G : Globs) (C : Ctx) (β : Places) (sh : Shape) (as : List A) (vs : List Value) (W : World) : Prop :=
  vs.length = sh.regs.length ∧ (∀ p, sh.objs[p]? = some .gone → β p = none) ∧ Rel P G C β (fun j => sh.objs.length ≤ j) vs.length (regsOf (unRs P id as (regRMs sh) 0).1) (lookOf P sh.objs as (unRs P id as (regRMs sh) 0).2) ⟨vs.toArray, []⟩ W
def Kept (σ0 : List (Nat × Option Nat)) (β β' : Places) : Prop := ∀ j pl, sigma σ0 j = some (some j) → β j = some pl → β' j = some pl
/-- A function's contract: entry 'e' answers as F does. -/
def FnOk (P : Program) (G : Globs) (e : Entry) (F : List A → Option (List A)) : Prop :=
  Enters P e.fid ∧ ∀ C β vs as o W, C.W0 = W → F as = some o → At P G C β e.ins as vs W →
    Calls P e.fid vs.toArray W fun x W' => ∃ us β', x = .returned (retVal us) ∧ Kept (stays 0 e.ins.objs e.outs.objs) β β' ∧ At P G C β' e.outs o us W'
structure EnvOk (P : Program) (G : Globs) (E : Env) : Prop where
  ents : ∀ i e, E.ents[i]? = some e → FnOk P G e (E.call i)
  glob : E.G = G

def RVt (M : Mem) (β : Places) : List D → List Value → Prop
  | [], [] => True
  | d :: ds, v :: vs => RV M β d v ∧ RVt M β ds vs
  | _, _ => False
theorem RVt.get {M : Mem} {β : Places} : ∀ {ds : List D} {vs : List Value}, RVt M β ds vs → ∀ t, RV M β (regsOf ds t) (vs.toArray.getD t Go.undef)
  | [], [], h, t => by simp [regsOf]; trivial
  | [], _ :: _, h, t => h.elim
  | _ :: _, [], h, t => h.elim
  | d :: ds, v :: vs, h, 0 => by simpa [regsOf] using h.1
  | d :: ds, v :: vs, h, t + 1 => by
    have := RVt.get h.2 t
    simpa [regsOf] using this
theorem RVt.of_get {M : Mem} {β : Places} : ∀ {ds : List D} {vs : List Value}, ds.length = vs.length → (∀ t, RV M β (regsOf ds t) (vs.toArray.getD t Go.undef)) → RVt M β ds vs
  | [], [], h, hg => trivial
  | [], _ :: _, h, hg => by simp at h
  | _ :: _, [], h, hg => by simp at h
  | d :: ds, v :: vs, h, hg => ⟨by simpa [regsOf] using hg 0, RVt.of_get (by simpa using h) (fun t => by simpa [regsOf] using hg (t + 1))⟩
theorem RVs.toRVt {M : Mem} {β : Places} : ∀ {ds : List D} {vs : List Value}, RVs M β ds vs → RVt M β ds vs
  | [], [], _ => trivial
  | [], _ :: _, h => h.elim
  | _ :: _, [], h => h.elim
  | d :: ds, v :: vs, h => ⟨by
      rcases h.1 with rfl | ⟨cs, h1, h2⟩
      · trivial
      · exact RV_of h1 h2, h.2.toRVt⟩
theorem unRs_length {P : Program} {nm : Nat → Nat} {as : List A} : ∀ (l : List RM) (i : Nat), (unRs P nm as l i).1.length = l.length
  | [], i => rfl
  | c :: l, i => by simp [unRs, unRs_length l]
theorem RVt.length {M : Mem} {β : Places} : ∀ {ds : List D} {vs : List Value}, RVt M β ds vs → ds.length = vs.length
  | [], [], _ => rfl
  | [], _ :: _, h => h.elim
  | _ :: _, [], h => h.elim
  | d :: ds, v :: vs, h => by simp [h.2.length]

/-! ### data read back -/
theorem pv_of_rv {M : Mem} {β : Places} {τ : TypeId} {t : T} {v : Value} (hd : dataTy M.P τ = true) (h : RV M β (ofT M.P τ t) v) : PV M.P M.W M.ok τ t v := by
  unfold dataTy at hd
  split at hd
  case h_1 k hu =>
    simp only [ofT, hu] at h
    have h1 := RV_out h rfl
    simp only [RC] at h1
    exact ⟨[v], by rw [h1]; exact .int hu, by simp [isAggB, hu]⟩
  case h_2 hu =>
    simp only [ofT, hu] at h
    have h1 := RV_out h rfl
    simp only [RC] at h1
    exact ⟨[v], by rw [h1]; exact .bool hu, by simp [isAggB, hu]⟩
  case h_3 hu =>
    simp only [ofT, hu] at h
    have h1 := RV_out h rfl
    simp only [RC] at h1
    exact ⟨[v], by rw [h1]; exact .str hu, by simp [isAggB, hu]⟩
  case h_4 e hu =>
    simp only [ofT, hu] at h
    have h1 := RV_out h rfl
    obtain ⟨a, cap, h2, h3, h4, _⟩ := h1
    exact ⟨[v], by rw [h2]; exact .slice hu h3 h4, by simp [isAggB, hu]⟩
  case h_5 fs hu =>
    simp only [ofT, hu] at h
    obtain ⟨cs, h1, h2, h3, h4⟩ := RV_tree h
    exact ⟨cs.toList, h2, by simp [isAggB, hu, h1]⟩
  case h_6 n e hu =>
    simp only [ofT, hu] at h
    obtain ⟨cs, h1, h2, h3, h4⟩ := RV_tree h
    exact ⟨cs.toList, h2, by simp [isAggB, hu, h1]⟩
  case h_7 => cases hd
theorem rv_of_pv {M : Mem} {β : Places} {τ : TypeId} {t : T} {v : Value} (h : PV M.P M.W M.ok τ t v) : RV M β (ofT M.P τ t) v := by
  obtain ⟨cs, h1, h2⟩ := h
  obtain ⟨h3, h4⟩ := PRep.ofT (β := β) h1
  refine RV_of h3 ?_
  unfold VF
  rw [h4]
  cases hb : isAggB M.P τ <;> rw [hb] at h2 <;> simpa using h2

theorem betaOf_gone {P : Program} {β : Places} {σ : List (Nat × Option Nat)} {objs : List OM} (h : gonesOk σ 0 objs = true) : ∀ p, objs[p]? = some .gone → betaOf P β σ objs p = none := by
  intro p hp
  have := gonesOk_spec h hp
  rw [Nat.zero_add] at this
  simp only [betaOf, this]
/-! ### closures -/
theorem allRo_gones : ∀ {l : List OM} {σ : List (Nat × Option Nat)} {j : Nat}, allRo l = true → gonesOk σ j l = true
  | [], σ, j, h => rfl
  | .var τ c true :: l, σ, j, h => by simp only [gonesOk]; exact allRo_gones (l := l) (by simpa [allRo] using h)
  | .var τ c false :: l, σ, j, h => by simp [allRo] at h
  | .row e :: l, σ, j, h => by simp [allRo] at h
  | .map k v :: l, σ, j, h => by simp [allRo] at h
  | .gone :: l, σ, j, h => by simp [allRo] at h
theorem allRo_un {P : Program} {as : List A} : ∀ {l : List OM} {j i n : Nat} {o : O}, allRo l = true → (n, some o) ∈ unOs P id as l j i → isRo o = true
  | [], j, i, n, o, h, hm => by simp [unOs] at hm
  | .var τ c true :: l, j, i, n, o, h, hm => by
    simp only [unOs, unO, List.mem_cons, Prod.mk.injEq, Option.some.injEq] at hm
    rcases hm with ⟨_, rfl⟩ | hm
    · rfl
    · exact allRo_un (l := l) (by simpa [allRo] using h) hm
  | .var τ c false :: l, j, i, n, o, h, hm => by simp [allRo] at h
  | .row e :: l, j, i, n, o, h, hm => by simp [allRo] at h
  | .map k v :: l, j, i, n, o, h, hm => by simp [allRo] at h
  | .gone :: l, j, i, n, o, h, hm => by simp [allRo] at h
theorem namesOf_mem : ∀ {σ : List (Nat × Option Nat)} {j n : Nat}, sigma σ j = some (some n) → n ∈ namesOf σ
  | [], j, n, h => by simp [sigma] at h
  | (i, x) :: σ, j, n, h => by
    simp only [sigma] at h
    cases hb : Nat.beq i j with
    | true => rw [hb] at h; simp at h; subst h; simp [namesOf]
    | false =>
      rw [hb] at h
      have := namesOf_mem (σ := σ) (by simpa using h)
      cases x <;> simp [namesOf, this]
theorem SInj.nil : SInj [] := fun i j n h => by simp [sigma] at h
theorem takeV_un {M : Mem} {β : Places} {as : List A} : ∀ {ps : List TypeId} {l cs : List RM} {i : Nat} {ts : List T} {vs vs2 : List Value}, takeV l ps = some cs → PVs M.P M.W M.ok ps ts vs → (∀ p t, ts[p]? = some t → aAt as (i + p) = .t t) →
    RVt M β (unRs M.P id as cs (i + ps.length)).1 vs2 → RVt M β (unRs M.P id as l i).1 (vs ++ vs2) ∧ (unRs M.P id as l i).2 = (unRs M.P id as cs (i + ps.length)).2 ∧ l.length = ps.length + cs.length ∧ vs.length = ps.length ∧ ts.length = ps.length
  | [], l, cs, i, ts, vs, vs2, h, hp, ha, hv => by
    simp only [takeV, Option.some.injEq] at h
    subst h
    cases ts with
    | cons => exact hp.elim
    | nil =>
      cases vs with
      | cons => exact hp.elim
      | nil => exact ⟨hv, rfl, by simp, rfl, rfl⟩
  | τ :: ps, [], cs, i, ts, vs, vs2, h, hp, ha, hv => by simp [takeV] at h
  | τ :: ps, c :: l, cs, i, ts, vs, vs2, h, hp, ha, hv => by
    cases c <;> simp only [takeV] at h <;> try (cases h; done)
    case v τ' =>
      have := beqN (bif_some h).1
      subst this
      replace h := (bif_some h).2
      cases ts with
      | nil => exact hp.elim
      | cons t ts =>
        cases vs with
        | nil => exact hp.elim
        | cons v vs =>
          obtain ⟨h1, h2⟩ := hp
          have ih := takeV_un (i := i + 1) (vs2 := vs2) h h2 (fun p t hp => by rw [show i + 1 + p = i + (p + 1) by omega]; exact ha (p + 1) t (by simpa using hp)) (by rw [show i + 1 + ps.length = i + (τ' :: ps).length by simp; omega]; exact hv)
          obtain ⟨i1, i2, i3, i4, i5⟩ := ih
          have hi := ha 0 t (by simp)
          rw [Nat.add_zero] at hi
          simp only [unRs, unR, hi, A.tree, List.cons_append]
          refine ⟨⟨rv_of_pv h1, i1⟩, ?_, by simp; omega, by simp [i4], by simp [i5]⟩
          rw [i2]; congr 2; simp; omega
theorem allV_un {M : Mem} {β : Places} {as : List A} : ∀ {regs : List (Nat × RM)} {rs : List TypeId} {i : Nat} {us : List Value}, allV regs rs = true → allData M.P rs = true → RVt M β (unRs M.P id as (regs.map (·.2)) i).1 us →
    PVs M.P M.W M.ok rs ((List.range' i rs.length).map fun p => (aAt as p).tree) us
  | [], [], i, us, h, hd, hv => by
    cases us with
    | nil => exact trivial
    | cons => exact hv.elim
  | [], τ :: rs, i, us, h, hd, hv => by simp [allV] at h
  | (q, c) :: regs, [], i, us, h, hd, hv => by cases c <;> simp [allV] at h
  | (q, c) :: regs, τ :: rs, i, us, h, hd, hv => by
    cases c <;> simp only [allV, Bool.and_eq_true, Bool.false_eq_true] at h
    case v τ' =>
      have := beqN h.1
      subst this
      simp only [allData, Bool.and_eq_true] at hd
      cases us with
      | nil => exact hv.elim
      | cons u us =>
        simp only [List.map_cons, unRs, unR] at hv
        simp only [List.length_cons, List.range'_succ, List.map_cons]
        exact ⟨pv_of_rv hd.1 hv.1, allV_un h.2 hd.2 hv.2⟩

section
variable {P : Program} {G : Globs} {C C' : Ctx} {β : Places} {free : Nat → Prop} {N : Nat} {regs : Regs} {look : Look} {a : Act} {W : World} {E : Env}
theorem cloTry_rep (h : Rel P G C β free N regs look a W) {e : Entry} {eid : Nat} (hf : FnOk P G e (E.call eid)) {caps : List D} {ps rs : List TypeId} {g : List T → Option (List T)} {l : List Nat} (hc : cloTry P E look caps ps rs eid e = some (g, l))
    (hW : C'.W0 = W) (hS : ∀ b, C'.S0 b → ¬ okOf C β look b) (hA : ∀ b, C'.Av b → ¬ okOf C β look b) (hl : ∀ n pl, n ∈ l → β n = some pl → pl.virt = false → C'.Av pl.b ∧ ¬ C'.S0 pl.b) (hfn : ∀ g ps rs v, FnRep P C g ps rs v → FnRep P C' g ps rs v)
    {vs : Array Value} (hv : RVs (memOf P C β look W) β caps vs.toList) : FnRep P C' g ps rs (.func (.func e.fid) #[] vs) := by
  unfold cloTry at hc
  split at hc
  case h_2 => cases hc
  case h_1 cs htk =>
  split at hc
  case h_2 => cases hc
  case h_1 k hk =>
  split at hc
  case h_2 => cases hc
  case h_1 k' hk' =>
  have hb := (bif_some hc).1
  replace hc := (bif_some hc).2
  simp only [Option.some.injEq, Prod.mk.injEq] at hc
  obtain ⟨hg, hl'⟩ := hc
  subst hl'
  simp only [Bool.and_eq_true] at hb
  obtain ⟨⟨⟨⟨⟨⟨b1, b2⟩, b3⟩, b4⟩, b5⟩, b6⟩, b7⟩ := hb
  have hfrz : k'.frz = [] := by simpa using b4
  obtain ⟨le1, _⟩ := packRs_le cs hk
  obtain ⟨le2, _⟩ := packObjs_le _ hk'
  have hinj : SInj k'.σ := le2.inj (le1.inj SInj.nil)
  have hlive : ∀ {j : Nat} {pl : Place}, betaOf P β k'.σ e.ins.objs j = some pl → pl.virt = false → ∃ n on, sigma k'.σ j = some (some n) ∧ look n = some on ∧ β n = some pl := fun hp hv => over_live h b5 (allRo_gones b3) hk' hp hv
  refine ⟨e.fid, vs, rfl, hf.1, fun W1 hk1 X a1 a2 a3 ts o vs' hpv hgo => ?_⟩
  subst hg
  dsimp only at hgo
  cases hcall : E.call eid (ts.map A.t ++ k'.as) with
  | none => rw [hcall] at hgo; cases hgo
  | some out =>
  rw [hcall] at hgo
  simp only [Option.map_some, Option.some.injEq] at hgo
  subst hgo
  have hlook : ∀ as i j o', lookOf P e.ins.objs as i j = some o' → isRo o' = true := fun as i j o' hm => allRo_un b3 (lookOf_mem hm)
  have nA : ∀ b, okOf C β look b → b < W.heap.size → ¬ X b := by
    intro b hok hlt hb
    rcases a2 b hb with h1 | h1 | h1
    · exact hA b h1 hok
    · exact hS b h1 hok
    · rw [hW] at h1; omega
  have capA : ∀ {j : Nat} {pl : Place}, betaOf P β k'.σ e.ins.objs j = some pl → pl.virt = false → X pl.b := by
    intro j pl hp hv
    obtain ⟨n, on, h1, h2, h3⟩ := hlive hp hv
    exact a1 _ (hl n pl (namesOf_mem h1) h3 hv).1
  let i0 := ts.length + k.as.length
  have tr : Tr (memOf P C β look W) (memOf P ⟨W1, fun _ => False, X⟩ (betaOf P β k'.σ e.ins.objs) (lookOf P e.ins.objs (ts.map A.t ++ k'.as) i0) W1) β k'.frz := by
    have mid : ∀ b, (okOf C β look b ∨ ∃ n, n ∈ k'.frz ∧ ∃ pl, β n = some pl ∧ pl.virt = false ∧ pl.b = b) → okOf C β look b := by
      rintro b (hb | ⟨n, hn, _⟩)
      · exact hb
      · rw [hfrz] at hn; simp at hn
    refine ⟨rfl, ⟨fun b hb => ?_, fun b o hb ho => ?_⟩, fun g ps rs v hf => ?_⟩
    · have hb := mid b hb
      by_cases hn : W.heap[b]? = none
      · exact .inr hn
      · have hlt : b < W.heap.size := by
          rcases Nat.lt_or_ge b W.heap.size with h1 | h1
          · exact h1
          · exact absurd (Array.getElem?_eq_none h1) hn
        refine .inl ⟨nA b hb hlt, fun j pl _ hp hv hbe => nA b hb hlt (hbe ▸ capA hp hv)⟩
    · have hb := mid b hb
      have hlt : b < W.heap.size := by
        rcases Nat.lt_or_ge b W.heap.size with h1 | h1
        · exact h1
        · change W.heap[b]? = some o at ho; rw [Array.getElem?_eq_none h1] at ho; cases ho
      show W1.heap[b]? = some o
      rw [hk1.block b (by rw [hW]; exact hlt) (fun hx => hS b hx hb), hW]
      exact ho
    · have := hfn g ps rs v hf
      exact this.inner hk1 (fun b hb => hb.elim) a1 a2
  have hWW : ∀ j n pl, sigma k'.σ j = some (some n) → β n = some pl → pl.virt = false → W1.heap[pl.b]? = W.heap[pl.b]? := by
    intro j n pl hs hp hv
    have hj := sigBound_spec b5 hs
    have hlt : pl.b < W.heap.size := by
      obtain ⟨n', on, h1, h2, h3⟩ := hlive (j := j) (pl := pl) (by simp only [betaOf, hs]; exact hp) hv
      exact h.live_lt (by rw [h2]; simp) h3 hv
    rw [hk1.block pl.b (by rw [hW]; exact hlt) (hl n pl (namesOf_mem hs) hp hv).2, hW]
  have bd := betaOf_bind (P := P) (β := β) b5
  have hat : ∀ i, i < k'.as.length → aAt (ts.map A.t ++ k'.as) (ts.length + i) = aAt k'.as i := by
    intro i hi
    simp only [aAt, List.getD]
    rw [List.getElem?_append_right (by simp)]
    simp
  obtain ⟨l2, hl2⟩ := le2.as
  have hkl : k.as.length ≤ k'.as.length := by rw [hl2]; simp
  have hvc := packRs_vs (as := ts.map A.t ++ k'.as) (off := ts.length) (nm := id) h.objs tr bd cs hk hv le2.σ (fun n hn => le2.frz n hn) (fun i hi => by
    rw [hat i (by omega), hl2]
    simp only [aAt, List.getD, List.getElem?_append_left hi])
  have hob := packObjs_rep (as := ts.map A.t ++ k'.as) (off := ts.length) (F := k'.frz) (σf := k'.σ) h.objs tr hWW bd e.ins.objs hk' (fun _ _ h => h) (fun _ h => h) hat
  -- the arguments
  have hpv' : PVs P W1 (okOf ⟨W1, fun _ => False, X⟩ (betaOf P β k'.σ e.ins.objs) (lookOf P e.ins.objs (ts.map A.t ++ k'.as) i0)) ps ts vs' := by
    have key : ∀ b, ¬ X b → okOf ⟨W1, fun _ => False, X⟩ (betaOf P β k'.σ e.ins.objs) (lookOf P e.ins.objs (ts.map A.t ++ k'.as) i0) b := fun b hb => ⟨hb, fun j pl _ hp hv hbe => hb (hbe ▸ capA hp hv)⟩
    have : ∀ {ps : List TypeId} {ts : List T} {vs : List Value}, PVs P W1 (fun b => ¬ X b) ps ts vs → ∀ {ok : Nat → Prop}, (∀ b, ¬ X b → ok b) → PVs P W1 ok ps ts vs := by
      intro ps
      induction ps with
      | nil => intro ts vs h ok _; cases ts <;> cases vs <;> first | exact h.elim | exact trivial
      | cons τ ps ih =>
        intro ts vs h ok hok
        cases ts with
        | nil => exact h.elim
        | cons t ts =>
          cases vs with
          | nil => exact h.elim
          | cons v vs => exact ⟨h.1.stay ⟨fun b hb => .inl (hok b hb), fun _ _ _ h => h⟩, ih h.2 hok⟩
    exact this hpv key
  have ht := takeV_un (M := memOf P ⟨W1, fun _ => False, X⟩ (betaOf P β k'.σ e.ins.objs) (lookOf P e.ins.objs (ts.map A.t ++ k'.as) i0) W1) (β := betaOf P β k'.σ e.ins.objs) (as := ts.map A.t ++ k'.as) (i := 0) (vs2 := vs.toList) htk hpv' (fun p t hp => by
      simp only [aAt, List.getD, Nat.zero_add]
      rw [List.getElem?_append_left (by rw [List.length_map]; exact (List.getElem?_eq_some_iff.1 hp).1), List.getElem?_map, hp]
      rfl)
  have hlen : ts.length = ps.length := by
    have : ∀ {ps : List TypeId} {ts : List T} {vs : List Value}, PVs P W1 (fun b => ¬ X b) ps ts vs → ts.length = ps.length := by
      intro ps
      induction ps with
      | nil => intro ts vs h; cases ts <;> cases vs <;> first | exact h.elim | rfl
      | cons τ ps ih =>
        intro ts vs h
        cases ts with
        | nil => exact h.elim
        | cons t ts =>
          cases vs with
          | nil => exact h.elim
          | cons v vs => simp [ih h.2]
    exact this hpv
  simp only [List.length_nil, Nat.add_zero] at hvc
  rw [hlen] at hvc
  obtain ⟨t1, t2, t3, t4, t5⟩ := ht (by rw [Nat.zero_add]; exact hvc.1.toRVt)
  have hi0 : (unRs P id (ts.map A.t ++ k'.as) (regRMs e.ins) 0).2 = i0 := by
    refine t2.trans ?_
    rw [Nat.zero_add]
    exact hvc.2.trans (by rw [← hlen])
  have hAt : At P G ⟨W1, fun _ => False, X⟩ (betaOf P β k'.σ e.ins.objs) e.ins (ts.map A.t ++ k'.as) (vs' ++ vs.toList) W1 := by
    have hlenv := t1.length
    rw [unRs_length] at hlenv
    refine ⟨by rw [← hlenv]; simp [regRMs], betaOf_gone (allRo_gones b3), ?_⟩
    rw [hi0]
    have objs' : ∀ j o, lookOf P e.ins.objs (ts.map A.t ++ k'.as) i0 j = some o → ∃ pl, betaOf P β k'.σ e.ins.objs j = some pl ∧ RO (memOf P ⟨W1, fun _ => False, X⟩ (betaOf P β k'.σ e.ins.objs) (lookOf P e.ins.objs (ts.map A.t ++ k'.as) i0) W1) (betaOf P β k'.σ e.ins.objs) pl o := by
      intro j o hj
      rcases hob j o (lookOf_mem hj) with ⟨m, on, pl, h1, h2, h3, h4, _⟩ | ⟨_, h2, _⟩
      · exact ⟨pl, by simp only [betaOf, h1]; exact h3, h4⟩
      · rw [hlook _ _ _ _ hj] at h2; cases h2
    refine { keeps := Keeps.start W1 _ _, defers := rfl, size := by simp, vals := t1.get, bound := fun t ht => ?_, objs := objs', inj := fun i j pl pl' hi' hj' hp hp' hv hv' hbb => ?_, foot := fun j o pl hj hp hv hr => (by rw [hlook _ _ _ _ hj] at hr; cases hr),
             own := fun j o pl hj hp hv hr => (by rw [hlook _ _ _ _ hj] at hr; cases hr), roav := fun j o pl hj hp hv hr => capA hp hv, free := fun j hj => ?_, globs := fun g τ t hg => ?_, avold := a3 }
    · unfold regsOf
      rw [List.getD, List.getElem?_eq_none (by rw [unRs_length, hlenv]; exact ht)]
      rfl
    · obtain ⟨n, on, h1, h2, h3⟩ := hlive hp hv
      obtain ⟨m, om, h4, h5, h6⟩ := hlive hp' hv'
      have := h.inj n m pl pl' (by rw [h2]; simp) (by rw [h5]; simp) h3 h6 hv hv' hbb
      subst this
      exact hinj i j n h1 h4
    · cases hs : sigma k'.σ j with
      | none => simp only [betaOf, hs]
      | some x => have := sigBound_spec b5 hs; omega
    · obtain ⟨b, o, c, el, fr, s, h1, h2, h3, h4, h5, h6⟩ := h.globs g τ t hg
      exact ⟨b, o, c, el, fr, s, h1, (tr.mid.1 b (.inl h2)).resolve_right (by show ¬ W.heap[b]? = none; rw [show W.heap[b]? = _ from h3]; simp), tr.mid.2 b _ (.inl h2) h3, h4, h5.stay ⟨fun b hb => tr.mid.1 b (.inl hb), fun b o hb ho => tr.mid.2 b o (.inl hb) ho⟩, h6⟩
  have hcalls := hf.2 _ _ _ _ _ W1 rfl hcall hAt
  have hargs : (vs' ++ vs.toList).toArray = vs'.toArray ++ vs := by simp
  rw [hargs] at hcalls
  refine hcalls.mono ?_
  rintro x W2 ⟨us, β', hx, _, hus, _, hrel⟩
  refine ⟨us, hx, ⟨hrel.keeps.os, hrel.keeps.tape, hrel.keeps.output, hrel.keeps.size, fun b hb => hrel.keeps.block b hb (fun hf => hf)⟩, ?_⟩
  have hvt := RVt.of_get (by rw [unRs_length]; simp [regRMs, hus]) hrel.vals
  have hpv2 := allV_un (M := memOf P ⟨W1, fun _ => False, X⟩ β' (lookOf P e.outs.objs out (unRs P id out (regRMs e.outs) 0).2) W2) b1 b2 hvt
  have hts : (List.range rs.length).map (tAtD ((List.range rs.length).map fun i => (aAt out i).tree)) = (List.range' 0 rs.length).map fun p => (aAt out p).tree := by
    rw [← List.range_eq_range']
    refine List.map_congr_left fun i hi => ?_
    simp at hi
    simp [tAtD, hi]
  rw [hts]
  have weak : ∀ {rs : List TypeId} {ts : List T} {vs : List Value} {ok : Nat → Prop}, PVs P W2 ok rs ts vs → (∀ b, ok b → ¬ X b) → PVs P W2 (fun b => ¬ X b) rs ts vs := by
    intro ps
    induction ps with
    | nil => intro ts vs ok h _; cases ts <;> cases vs <;> first | exact h.elim | exact trivial
    | cons τ ps ih =>
      intro ts vs ok h hok
      cases ts with
      | nil => exact h.elim
      | cons t ts =>
        cases vs with
        | nil => exact h.elim
        | cons v vs => exact ⟨h.1.stay ⟨fun b hb => .inl (hok b hb), fun _ _ _ h => h⟩, ih h.2 hok⟩
  exact weak hpv2 (fun b hb => hb.1)
theorem cloFn_rep (h : Rel P G C β free N regs look a W) {f : FuncId} {caps : List D} {ps rs : List TypeId} {g : List T → Option (List T)} {l : List Nat} (hE : ∀ i e, E.ents[i]? = some e → FnOk P G e (E.call i)) :
    ∀ (es : List Entry) (i : Nat), (∀ p e, es[p]? = some e → E.ents[i + p]? = some e) → cloFn P E look f caps ps rs es i = some (g, l) →
    C'.W0 = W → (∀ b, C'.S0 b → ¬ okOf C β look b) → (∀ b, C'.Av b → ¬ okOf C β look b) → (∀ n pl, n ∈ l → β n = some pl → pl.virt = false → C'.Av pl.b ∧ ¬ C'.S0 pl.b) → (∀ g ps rs v, FnRep P C g ps rs v → FnRep P C' g ps rs v) →
    ∀ {v : Value}, RC (memOf P C β look W) β (.clo f caps) [v] → FnRep P C' g ps rs v
  | [], i, _, hc, _, _, _, _, _, v, hv => by simp [cloFn] at hc
  | e :: es, i, hes, hc, h1, h2, h3, h4, h5, v, hv => by
    have hnext : ∀ p e', es[p]? = some e' → E.ents[i + 1 + p]? = some e' := fun p e' hp => by rw [show i + 1 + p = i + (p + 1) by omega]; exact hes (p + 1) e' (by simpa using hp)
    simp only [cloFn] at hc
    cases hb : cloMatch e f caps ps rs with
    | false => rw [hb] at hc; exact cloFn_rep h hE es (i + 1) hnext (by simpa using hc) h1 h2 h3 h4 h5 hv
    | true =>
      rw [hb] at hc
      simp only [cloMatch, Bool.and_eq_true] at hb
      have := beqN hb.1.1
      subst this
      simp only [cond_true] at hc
      obtain ⟨vs, hvs, hr⟩ := hv
      simp only [List.cons.injEq, and_true] at hvs
      subst hvs
      exact cloTry_rep h (hE i e (by have := hes 0 e (by simp); simpa using this)) hc h1 h2 h3 h4 h5 hr
end
end Go.Proofs.YtpfglhjgjfhkjaaDoorVM
/- Arguments over a boundary. -/
namespace Go.Proofs.YtpfglhjgjfhkjaaDoorVM
open Go Go.RowKit
set_option linter.unusedVariables false
set_option linter.unusedSimpArgs false

section
variable {P : Program} {look : Look} {st : Bool} {E : Env}
theorem packTop_cases {c : RM} {d : D} {k k' : Pk} (h : packTop P st E look c d k = some k') : packR P look c d k = some k' ∨
    ∃ ps rs f caps g l, c = .fn ps rs ∧ d = .clo f caps ∧ st = false ∧ cloFn P E look f caps ps rs E.ents 0 = some (g, l) ∧ k' = ⟨k.as ++ [.fn g], k.σ, k.frz, k.held ++ l⟩ := by
  unfold packTop at h
  split at h
  case h_1 ps rs f caps =>
    cases st with
    | true => cases h
    | false =>
      simp only [cond_false] at h
      split at h
      case h_1 g l hc => cases h; exact .inr ⟨ps, rs, f, caps, g, l, rfl, rfl, rfl, hc, rfl⟩
      case h_2 => cases h
  case h_2 => exact .inl h
theorem packTop_le {c : RM} {d : D} {k k' : Pk} (h : packTop P st E look c d k = some k') : k.Le k' := by
  rcases packTop_cases h with h1 | ⟨ps, rs, f, caps, g, l, _, _, _, _, rfl⟩
  · exact (packR_le c h1).1
  · exact ⟨⟨_, rfl⟩, fun _ _ h => h, fun n hn => hn, fun h => h, fun n hn => List.mem_append_left _ hn⟩
theorem packTops_le : ∀ (cs : List RM) {ds : List D} {k k' : Pk}, packTops P st E look cs ds k = some k' → k.Le k'
  | [], ds, k, k', h => by cases ds <;> simp only [packTops] at h <;> cases h; exact .refl _
  | c :: cs, ds, k, k', h => by
    cases ds <;> simp only [packTops] at h
    case nil => cases h
    case cons d ds =>
      split at h
      case h_1 k1 h1 => exact (packTop_le h1).trans (packTops_le cs h)
      case h_2 => cases h
theorem packTops_names : ∀ (cs : List RM) {ds : List D} {k k' : Pk}, packTops P st E look cs ds k = some k' → ∀ n, n ∈ k'.frz → n ∈ k.frz ∨ ∃ e xs, look n = some (.row e xs)
  | [], ds, k, k', h => by cases ds <;> simp only [packTops] at h <;> cases h; exact fun n hn => .inl hn
  | c :: cs, ds, k, k', h => by
    cases ds <;> simp only [packTops] at h
    case nil => cases h
    case cons d ds =>
      split at h
      case h_1 k1 h1 =>
        intro n hn
        rcases packTops_names cs h n hn with h2 | h2
        · rcases packTop_cases h1 with h3 | ⟨ps, rs, f, caps, g, l, _, _, _, _, rfl⟩
          · exact packR_names c h3 n h2
          · exact .inl h2
        · exact .inr h2
      case h_2 => cases h
end
section
variable {M M' : Mem} {β β' : Places} {look : Look} {F : List Nat} {σf : List (Nat × Option Nat)} {nm : Nat → Nat} {as : List A} {off : Nat} {st : Bool} {E : Env}
theorem packTops_vs (ho : Objs M β look) (tr : Tr M M' β F) (bd : Bind β β' σf nm) {H : List Nat}
    (hclo : ∀ f caps ps rs g l v, st = false → cloFn M.P E look f caps ps rs E.ents 0 = some (g, l) → (∀ n, n ∈ l → n ∈ H) → RC M β (.clo f caps) [v] → FnRep M.P M'.C g ps rs v) :
    ∀ (rs : List RM) {ds : List D} {k k' : Pk} {vs : List Value}, packTops M.P st E look rs ds k = some k' → RVt M β ds vs → (∀ j x, sigma k'.σ j = some x → sigma σf j = some x) → (∀ n, n ∈ k'.frz → n ∈ F) → (∀ n, n ∈ k'.held → n ∈ H) →
    (∀ i, i < k'.as.length → aAt as (off + i) = aAt k'.as i) → RVt M' β' (unRs M.P nm as rs (off + k.as.length)).1 vs ∧ (unRs M.P nm as rs (off + k.as.length)).2 = off + k'.as.length
  | [], ds, k, k', vs, h, hv, hσ, hF, hH, ha => by
    cases ds <;> simp only [packTops] at h <;> cases h
    cases vs with
    | nil => exact ⟨trivial, rfl⟩
    | cons => exact hv.elim
  | c :: rs, ds, k, k', vs, h, hv, hσ, hF, hH, ha => by
    cases ds <;> simp only [packTops] at h
    case nil => cases h
    case cons d ds =>
      split at h
      case h_2 => cases h
      case h_1 k1 h1 =>
        cases vs with
        | nil => exact hv.elim
        | cons v vs =>
          obtain ⟨hv1, hv2⟩ := hv
          have le2 := packTops_le rs h
          obtain ⟨l, hl⟩ := le2.as
          have ha1 : ∀ i, i < k1.as.length → aAt as (off + i) = aAt k1.as i := fun i hi => by
            rw [ha i (by rw [hl, List.length_append]; omega), hl]
            simp only [aAt, List.getD, List.getElem?_append_left hi]
          have step : RV M' β' (unR M.P nm as c (off + k.as.length)).1 v ∧ (unR M.P nm as c (off + k.as.length)).2 = off + k1.as.length := by
            rcases packTop_cases h1 with h3 | ⟨ps, rs', f, caps, g, l', rfl, rfl, hst, hc, rfl⟩
            · have hx : ∃ cs, RC M β d cs ∧ VF d cs v := by
                cases d <;> first
                  | exact hv1
                  | (cases c <;> simp [packR, packT] at h3; done)
              obtain ⟨cs, hc, hf⟩ := hx
              obtain ⟨r1, r2, r3, _⟩ := packR_rep ho tr bd c h3 hc (fun j x hx => hσ j x (le2.σ j x hx)) (fun n hn => hF n (le2.frz n hn)) ha1
              exact ⟨RV_of r1 (by unfold VF at hf ⊢; rw [r3]; exact hf), r2⟩
            · have hi : aAt as (off + k.as.length) = .fn g := by
                rw [ha1 _ (by simp)]
                simp [aAt, List.getD]
              simp only [unR, hi, A.fnOf]
              refine ⟨RV_scalar ⟨v, rfl, ?_⟩ rfl, by simp; omega⟩
              rw [tr.P]
              exact hclo f caps ps rs' g l' v hst hc (fun n hn => hH n (le2.held n (List.mem_append_right _ hn))) (RV_out hv1 rfl)
          obtain ⟨s1, s2⟩ := step
          obtain ⟨t1, t2⟩ := packTops_vs ho tr bd hclo rs h hv2 hσ hF hH ha
          simp only [unRs, s2]
          exact ⟨⟨s1, t1⟩, t2⟩
end
theorem meets_spec {m : List Nat} : ∀ {l : List Nat} {n : Nat}, meets l m = false → n ∈ l → n ∉ m
  | [], n, h, hn => by simp at hn
  | x :: l, n, h, hn => by
    simp only [meets, Bool.or_eq_false_iff] at h
    rcases List.mem_cons.1 hn with rfl | hn
    · intro hm; have := memN_iff.2 hm; rw [h.1] at this; cases this
    · exact meets_spec h.2 hn
theorem liveB_spec {look : Look} : ∀ {l : List Nat} {n : Nat}, liveB look l = true → n ∈ l → look n ≠ none
  | [], n, h, hn => by simp at hn
  | x :: l, n, h, hn => by
    simp only [liveB, Bool.and_eq_true] at h
    rcases List.mem_cons.1 hn with rfl | hn
    · intro hm; rw [hm] at h; simp at h
    · exact liveB_spec h.2 hn
section
variable {P : Program} {G : Globs} {C : Ctx} {β : Places} {free : Nat → Prop} {N : Nat} {regs : Regs} {look : Look} {a : Act} {W : World} {E : Env}
/-- What packing tells. -/
structure Packed (P : Program) (st : Bool) (E : Env) (look : Look) (σ0 : List (Nat × Option Nat)) (sh : Shape) (ds : List D) (k0 k : Pk) : Prop where
  tops : packTops P st E look (regRMs sh) ds ⟨[], σ0, [], []⟩ = some k0
  objs : packObjs P st look 0 sh.objs k0 = some k
  apart : apartB k.σ k.frz = true
  apartH : apartB k.σ k.held = true
  meets : meets k.held k.frz = false
  bound : sigBound k.σ sh.objs.length = true
  gones : gonesOk k.σ 0 sh.objs = true
  live : liveB look k.held = true
theorem packShape_spec {st : Bool} {σ0 : List (Nat × Option Nat)} {sh : Shape} {ds : List D} {k : Pk} (h : packShape P st E look σ0 sh ds = some k) : ∃ k0, Packed P st E look σ0 sh ds k0 k := by
  unfold packShape at h
  split at h
  case h_2 => cases h
  case h_1 k0 h1 =>
    split at h
    case h_2 => cases h
    case h_1 k' h2 =>
      have hb := (bif_some h).1
      replace h := (bif_some h).2
      cases h
      simp only [Bool.and_eq_true, Bool.not_eq_true'] at hb
      obtain ⟨⟨⟨⟨⟨b1, b2⟩, b3⟩, b4⟩, b5⟩, b6⟩ := hb
      exact ⟨k0, h1, h2, b1, b2, b3, b4, b5, b6⟩
theorem Packed.frz {st : Bool} {σ0 : List (Nat × Option Nat)} {sh : Shape} {ds : List D} {k0 k : Pk} (p : Packed P st E look σ0 sh ds k0 k) : ∀ n, n ∈ k.frz → ∃ e xs, look n = some (.row e xs) := by
  intro n hn
  rcases packObjs_names _ p.objs n hn with h1 | h1
  · rcases packTops_names _ p.tops n h1 with h2 | h2
    · simp at h2
    · exact h2
  · exact h1
theorem Packed.inj {st : Bool} {σ0 : List (Nat × Option Nat)} {sh : Shape} {ds : List D} {k0 k : Pk} (p : Packed P st E look σ0 sh ds k0 k) (h : SInj σ0) : SInj k.σ := (packObjs_le _ p.objs).1.inj ((packTops_le _ p.tops).inj h)
theorem Packed.sub {st : Bool} {σ0 : List (Nat × Option Nat)} {sh : Shape} {ds : List D} {k0 k : Pk} (p : Packed P st E look σ0 sh ds k0 k) : ∀ j x, sigma σ0 j = some x → sigma k.σ j = some x := fun j x h => (packObjs_le _ p.objs).1.σ j x ((packTops_le _ p.tops).σ j x h)
theorem Packed.liveσ {st : Bool} {σ0 : List (Nat × Option Nat)} {sh : Shape} {ds : List D} {k0 k : Pk} (p : Packed P st E look σ0 sh ds k0 k) {j n : Nat} (h : sigma k.σ j = some (some n)) : look n ≠ none := by
  have hj := sigBound_spec p.bound h
  have hom : sh.objs[j]? = some sh.objs[j] := List.getElem?_eq_getElem hj
  rcases packObjs_live _ p.objs j _ hom with h1 | h1 | ⟨m, on, h1, h2⟩
  · rw [h1] at hom
    have := gonesOk_spec p.gones hom
    rw [Nat.zero_add, h] at this; cases this
  · rw [Nat.zero_add, h] at h1; cases h1
  · rw [Nat.zero_add, h] at h1
    cases h1
    rw [h2]; simp
/-- Into a callee. -/
theorem call_in (h : Rel P G C β free N regs look a W) (hE : EnvOk P G E) {sh : Shape} {ds : List D} {vs : List Value} {k0 k : Pk} (p : Packed P false E look [] sh ds k0 k) (hv : RVt (memOf P C β look W) β ds vs) :
    At P G (callC C β look W k.σ k.frz (lookOf P sh.objs k.as k0.as.length)) (betaOf P β k.σ sh.objs) sh k.as vs W ∧ (unRs P id k.as (regRMs sh) 0).2 = k0.as.length ∧
    (∀ j o n on, lookOf P sh.objs k.as k0.as.length j = some o → sigma k.σ j = some (some n) → look n = some on → isRo o = false → isRo on = false) := by
  have hinj := p.inj SInj.nil
  have bd := betaOf_bind (P := P) (β := β) p.bound
  -- the objects tell whether they may be written, whatever the frame
  have hro : ∀ j o n on, lookOf P sh.objs k.as k0.as.length j = some o → sigma k.σ j = some (some n) → look n = some on → isRo o = false → isRo on = false := by
    intro j o n on hj hs hn hr
    have tr0 : Tr (memOf P C β look W) (memOf P C (betaOf P β k.σ sh.objs) (lookOf P sh.objs k.as k0.as.length) W) β k.frz := by
      refine ⟨rfl, ⟨fun b hb => .inl ⟨fun hav => ?_, fun j pl hlj hpj hvj hbj => ?_⟩, fun _ _ _ ho => ho⟩, fun _ _ _ _ h => h⟩
      · rcases hb with h6 | ⟨n, hn, pl, h7, h8, h9⟩
        · exact h6.1 hav
        · obtain ⟨e, xs, hl⟩ := p.frz n hn
          exact h.own n _ pl hl h7 h8 rfl (h9 ▸ hav)
      · obtain ⟨m, on, h1, h2, h3⟩ := over_live h p.bound p.gones p.objs hpj hvj
        rcases hb with h6 | ⟨n, hn, pl', h7, h8, h9⟩
        · exact h6.2 m pl (by rw [h2]; simp) h3 hvj hbj
        · obtain ⟨e, xs, hl⟩ := p.frz n hn
          have := h.inj m n pl pl' (by rw [h2]; simp) (by rw [hl]; simp) h3 h7 hvj h8 (hbj.trans h9.symm)
          subst this
          exact apartB_spec p.apart hn h1
    rcases packObjs_rep (as := k.as) (off := 0) (F := k.frz) (σf := k.σ) h.objs tr0 (fun _ _ _ _ _ _ => rfl) bd sh.objs p.objs (fun _ _ h => h) (fun _ h => h) (fun i _ => by rw [Nat.zero_add]) j o (by rw [Nat.zero_add]; exact lookOf_mem hj) with ⟨m, on', pl, h1, h2, h3, h4, h5, h6⟩ | ⟨h1, _⟩
    · rw [hs] at h1; cases h1
      rw [hn] at h2; cases h2
      exact h6 hr
    · rw [hs] at h1; cases h1
  have ov : Over P C (callC C β look W k.σ k.frz (lookOf P sh.objs k.as k0.as.length)) β look (lookOf P sh.objs k.as k0.as.length) W false k.σ k.frz := Over.call h hinj (fun j n hs => p.liveσ hs) p.apart hro
  have tr := over_tr h p.bound p.gones p.apart p.objs p.frz ov
  obtain ⟨l, hl⟩ := (packObjs_le _ p.objs).1.as
  have hvs := packTops_vs (as := k.as) (off := 0) (nm := id) (F := k.frz) (σf := k.σ) h.objs tr bd (H := k.held) (st := false) (E := E) (fun f caps ps rs g l' v _ hc hH hr => by
    refine cloFn_rep (C' := callC C β look W k.σ k.frz (lookOf P sh.objs k.as k0.as.length)) h hE.ents E.ents 0 (fun p e hp => by rw [Nat.zero_add]; exact hp) hc rfl (fun b hb hok => ?_) (fun b hb hok => ?_) (fun n pl hn hp hv => ⟨?_, ?_⟩) ov.fn hr
    · obtain ⟨j, o, n, pl, q1, q2, q3, q4, q5, q6⟩ := hb
      exact hok.2 n pl (p.liveσ q3) q4 q5 q6
    · rcases hb with hb | ⟨n, pl, q1, q2, q3, q4, _⟩
      · exact hok.1 hb
      · exact hok.2 n pl q1 q2 q3 q4
    · exact .inr ⟨n, pl, liveB_spec p.live (hH n hn), hp, hv, rfl, meets_spec p.meets (hH n hn), fun j o _ _ hs => apartB_spec p.apartH (hH n hn) hs⟩
    · rintro ⟨j, o, n', pl', q1, q2, q3, q4, q5, q6⟩
      have := h.inj n' n pl' pl (p.liveσ q3) (liveB_spec p.live (hH n hn)) q4 hp q5 hv q6
      subst this
      exact apartB_spec p.apartH (hH n' hn) q3) (regRMs sh) p.tops hv (fun j x hx => (packObjs_le _ p.objs).1.σ j x hx) (fun n hn => (packObjs_le _ p.objs).1.frz n hn) (fun n hn => (packObjs_le _ p.objs).1.held n hn) (fun i hi => by
        rw [Nat.zero_add, hl]
        simp only [aAt, List.getD, List.getElem?_append_left hi])
  simp only [List.length_nil, Nat.add_zero, Nat.zero_add] at hvs
  obtain ⟨v1, v2⟩ := hvs
  have v2' : (unRs P id k.as (regRMs sh) 0).2 = k0.as.length := v2
  have hlen := v1.length
  rw [unRs_length] at hlen
  refine ⟨⟨by rw [← hlen]; simp [regRMs], betaOf_gone p.gones, ?_⟩, v2', hro⟩
  rw [v2']
  exact Rel.over h hinj p.bound p.gones p.apart p.objs p.frz ov rfl (by simp) v1.get (fun t ht => by
    unfold regsOf
    rw [List.getD, List.getElem?_eq_none (by rw [unRs_length, hlen]; exact ht)]
    rfl)
end
end Go.Proofs.YtpfglhjgjfhkjaaDoorVM
/- Back from a callee. -/
namespace Go.Proofs.YtpfglhjgjfhkjaaDoorVM
open Go Go.RowKit
set_option linter.unusedVariables false
set_option linter.unusedSimpArgs false

/-! ### the same data under other names -/
section
variable {M M' : Mem} {β β' : Places} {nm : Nat → Nat} {as : List A}
theorem ofT_ren (hP : M'.P = M.P) (hst : Stay M.ok M'.ok M.W M'.W) {τ : TypeId} {t : T} {cs : List Value} (h : RC M β (ofT M.P τ t) cs) : RC M' β' (ofT M.P τ t) cs := by
  unfold ofT at h ⊢
  split at h
  case h_1 => exact h
  case h_2 => exact h
  case h_3 => exact h
  case h_4 => obtain ⟨a, cap, h1, h2, h3⟩ := h; exact ⟨a, cap, h1, by rw [hP]; exact h2.stay hst, h3⟩
  case h_5 => obtain ⟨h1, h2, h3⟩ := h; exact ⟨by rw [hP]; exact h1.stay hst, by rw [hP]; exact h2, by rw [hP]; exact h3⟩
  case h_6 => obtain ⟨h1, h2, h3⟩ := h; exact ⟨by rw [hP]; exact h1.stay hst, by rw [hP]; exact h2, by rw [hP]; exact h3⟩
  case h_7 => exact h.elim
mutual
theorem unR_snd {P : Program} {nm nm' : Nat → Nat} {as : List A} : ∀ (c : RM) (i : Nat), (unR P nm as c i).2 = (unR P nm' as c i).2 ∧ scalar (unR P nm as c i).1 = scalar (unR P nm' as c i).1 ∧ (∀ τ, fits P τ (unR P nm as c i).1 = fits P τ (unR P nm' as c i).1)
  | .v τ, i => ⟨rfl, rfl, fun _ => rfl⟩
  | .fn ps rs, i => ⟨rfl, rfl, fun _ => rfl⟩
  | .p j τ, i => ⟨rfl, rfl, fun _ => rfl⟩
  | .o j, i => ⟨rfl, rfl, fun _ => rfl⟩
  | .m j, i => ⟨rfl, rfl, fun _ => rfl⟩
  | .np, i => ⟨rfl, rfl, fun _ => rfl⟩
  | .nl, i => ⟨rfl, rfl, fun _ => rfl⟩
  | .nm, i => ⟨rfl, rfl, fun _ => rfl⟩
  | .nf, i => ⟨rfl, rfl, fun _ => rfl⟩
  | .clo f cs, i => ⟨unRs_snd cs i, rfl, fun _ => rfl⟩
  | .agg τ cs, i => ⟨unRs_snd cs i, rfl, fun _ => rfl⟩
theorem unRs_snd {P : Program} {nm nm' : Nat → Nat} {as : List A} : ∀ (l : List RM) (i : Nat), (unRs P nm as l i).2 = (unRs P nm' as l i).2
  | [], i => rfl
  | c :: l, i => by simp only [unRs]; rw [(unR_snd (nm := nm) (nm' := nm') c i).1]; exact unRs_snd l _
end
mutual
theorem unR_ren (hP : M'.P = M.P) (hst : Stay M.ok M'.ok M.W M'.W) (hβ : ∀ p pl, β p = some pl → β' (nm p) = some pl) : ∀ (c : RM) {i : Nat} {cs : List Value}, noFn c = true → RC M β (unR M.P id as c i).1 cs → RC M' β' (unR M.P nm as c i).1 cs
  | .v τ, i, cs, hn, h => ofT_ren hP hst h
  | .fn ps rs, i, cs, hn, h => by simp [noFn] at hn
  | .p j τ, i, cs, hn, h => by obtain ⟨pl, o, h1, h2, h3, h4⟩ := h; exact ⟨pl, o, h1, hβ _ _ h2, h3, by rw [hP]; exact h4⟩
  | .o j, i, cs, hn, h => by obtain ⟨pl, h1, h2⟩ := h; exact ⟨pl, hβ _ _ h1, h2⟩
  | .m j, i, cs, hn, h => by obtain ⟨pl, h1, h2⟩ := h; exact ⟨pl, hβ _ _ h1, h2⟩
  | .np, i, cs, hn, h => h
  | .nl, i, cs, hn, h => h
  | .nm, i, cs, hn, h => h
  | .nf, i, cs, hn, h => h
  | .clo f l, i, cs, hn, h => by
    obtain ⟨vs, h1, h2⟩ := h
    exact ⟨vs, h1, unRs_renV hP hst hβ l (by simpa [noFn] using hn) h2⟩
  | .agg τ l, i, cs, hn, h => by
    obtain ⟨h1, h2, fs, h3, h4⟩ := h
    exact ⟨by rw [hP]; exact h1, by rw [hP]; exact h2, fs, by rw [hP]; exact h3, unRs_renC hP hst hβ l (by simpa [noFn] using hn) h4⟩
theorem unRs_renV (hP : M'.P = M.P) (hst : Stay M.ok M'.ok M.W M'.W) (hβ : ∀ p pl, β p = some pl → β' (nm p) = some pl) : ∀ (l : List RM) {i : Nat} {vs : List Value}, noFns l = true → RVs M β (unRs M.P id as l i).1 vs → RVs M' β' (unRs M.P nm as l i).1 vs
  | [], i, vs, hn, h => by cases vs <;> first | exact h.elim | exact trivial
  | c :: l, i, vs, hn, h => by
    cases vs with
    | nil => exact h.elim
    | cons v vs =>
      simp only [noFns, Bool.and_eq_true] at hn
      obtain ⟨h1, h2⟩ := h
      obtain ⟨e1, e2, _⟩ := unR_snd (P := M.P) (nm := nm) (nm' := id) (as := as) c i
      simp only [unRs]
      refine ⟨?_, by rw [e1]; exact unRs_renV hP hst hβ l hn.2 h2⟩
      rcases h1 with h1 | ⟨cs, h3, h4⟩
      · refine .inl ?_
        cases c <;> simp only [unR] at h1 ⊢ <;> first | exact h1 | cases h1
      · exact .inr ⟨cs, unR_ren hP hst hβ c hn.1 h3, by unfold VF at h4 ⊢; rw [e2]; exact h4⟩
theorem unRs_renC (hP : M'.P = M.P) (hst : Stay M.ok M'.ok M.W M'.W) (hβ : ∀ p pl, β p = some pl → β' (nm p) = some pl) : ∀ (l : List RM) {i : Nat} {fs : List (TypeId × Nat)} {cs : List Value}, noFns l = true → RCs M β fs (unRs M.P id as l i).1 cs → RCs M' β' fs (unRs M.P nm as l i).1 cs
  | [], i, fs, cs, hn, h => by cases fs <;> first | exact h.elim | exact h
  | c :: l, i, fs, cs, hn, h => by
    cases fs with
    | nil => exact h.elim
    | cons f fs =>
      simp only [noFns, Bool.and_eq_true] at hn
      obtain ⟨c1, c2, h1, h2, h3, h4, h5⟩ := h
      obtain ⟨e1, e2, e3⟩ := unR_snd (P := M.P) (nm := nm) (nm' := id) (as := as) c i
      simp only [unRs]
      exact ⟨c1, c2, h1, h2, unR_ren hP hst hβ c hn.1 h3, by rw [hP, e3]; exact h4, by rw [e1]; exact unRs_renC hP hst hβ l hn.2 h5⟩
end
theorem unR_tup {P : Program} {nm : Nat → Nat} {as : List A} (c : RM) (i : Nat) (ds : List D) : (unR P nm as c i).1 ≠ .tup ds := by
  cases c <;> simp only [unR] <;> try (intro h; cases h; done)
  intro h
  unfold ofT at h
  split at h <;> cases h
theorem unRs_renT (hP : M'.P = M.P) (hst : Stay M.ok M'.ok M.W M'.W) (hβ : ∀ p pl, β p = some pl → β' (nm p) = some pl) : ∀ (l : List RM) {i : Nat} {vs : List Value}, noFns l = true → RVt M β (unRs M.P id as l i).1 vs → RVs M' β' (unRs M.P nm as l i).1 vs
  | [], i, vs, hn, h => by cases vs <;> first | exact h.elim | exact trivial
  | c :: l, i, vs, hn, h => by
    cases vs with
    | nil => exact h.elim
    | cons v vs =>
      simp only [noFns, Bool.and_eq_true] at hn
      obtain ⟨h1, h2⟩ := h
      obtain ⟨e1, e2, _⟩ := unR_snd (P := M.P) (nm := nm) (nm' := id) (as := as) c i
      simp only [unRs]
      refine ⟨?_, by rw [e1]; exact unRs_renT hP hst hβ l hn.2 h2⟩
      have hx : (unR M.P id as c i).1 = .undef ∨ ∃ cs, RC M β (unR M.P id as c i).1 cs ∧ VF (unR M.P id as c i).1 cs v := by
        cases hd : (unR M.P id as c i).1 <;> rw [hd] at h1 <;> first
          | exact .inl rfl
          | exact absurd hd (unR_tup c i _)
          | exact .inr h1
      rcases hx with h1 | ⟨cs, h3, h4⟩
      · refine .inl ?_
        cases c <;> simp only [unR] at h1 ⊢ <;> first | exact h1 | cases h1
      · exact .inr ⟨cs, unR_ren hP hst hβ c hn.1 h3, by unfold VF at h4 ⊢; rw [e2]; exact h4⟩
theorem tupD_rep {ds : List D} {us : List Value} (h : RVs M β ds us) : RV M β (tupD ds) (retVal us) := by
  match ds, us, h with
  | [], [], h => exact ⟨#[], rfl, trivial⟩
  | [d], [v], h =>
    rcases h.1 with rfl | ⟨cs, h1, h2⟩
    · exact trivial
    · exact RV_of h1 h2
  | d :: d' :: ds, v :: v' :: us, h => exact ⟨(v :: v' :: us).toArray, rfl, by simpa using h⟩
  | [], _ :: _, h => exact h.elim
  | _ :: _, [], h => exact h.elim
  | [_], _ :: _ :: _, h => exact h.2.elim
  | _ :: _ :: _, [_], h => exact h.2.elim
/-- One object. -/
theorem unO_ren (hP : M'.P = M.P) (hW : M'.W = M.W) (hok : ∀ b, M.ok b → M'.ok b ∨ M.W.heap[b]? = none) (hβ : ∀ p pl, β p = some pl → β' (nm p) = some pl) {om : OM} {i : Nat} {pl : Place} {o : O} (hn : noFnO [om] = true) (hro : ∀ o, (unO M.P id as om i).1 = some o → isRo o = false)
    (h : (unO M.P nm as om i).1 = some o) : ∃ o', (unO M.P id as om i).1 = some o' ∧ (RO M β pl o' → RO M' β' pl o) ∧ isRo o = false := by
  have hst : Stay M.ok M'.ok M.W M'.W := ⟨hok, fun b o _ ho => by rw [hW]; exact ho⟩
  cases om with
  | gone => simp [unO] at h
  | var τ c ro =>
    simp only [unO, Option.some.injEq] at h
    subst h
    have hr := hro _ (by simp only [unO]; rfl)
    simp only [isRo] at hr
    subst hr
    obtain ⟨_, _, e3⟩ := unR_snd (P := M.P) (nm := nm) (nm' := id) (as := as) c i
    refine ⟨_, rfl, fun hR => ?_, rfl⟩
    obtain ⟨h2, cc, el, fr, h3, h4, h5, h6, h7⟩ := hR
    exact ⟨h2, cc, el, fr, by rw [hW]; exact h3, h4, by rw [hP]; exact h5, unR_ren hP hst hβ c (by simpa [noFnO] using hn) h6, by rw [hP, e3]; exact h7⟩
  | row e =>
    simp only [unO, Option.some.injEq] at h
    subst h
    refine ⟨_, rfl, fun hR => ?_, rfl⟩
    obtain ⟨h2, h3, h4, h5, h6⟩ := hR
    refine ⟨h2, by rw [hP]; exact h3, h4, h5, fun hv => ?_⟩
    obtain ⟨c, el, fr, h7, h8, h9, h10⟩ := h6 hv
    exact ⟨c, el, fr, by rw [hW]; exact h7, h8, h9, fun i x hx => by rw [hP]; exact (h10 i x hx).stay hst⟩
  | map kt vt =>
    simp only [unO, Option.some.injEq] at h
    subst h
    refine ⟨_, rfl, fun hR => ?_, rfl⟩
    obtain ⟨h2, ms, clock, h3, h4⟩ := hR
    refine ⟨h2, ms, clock, by rw [hW]; exact h3, ?_⟩
    have : ∀ {es : List T} {ms : List MapEntry}, REnts M kt vt es ms → REnts M' kt vt es ms := by
      intro es
      induction es with
      | nil => intro ms h; cases ms <;> exact h
      | cons e es ih =>
        intro ms h
        cases ms with
        | nil => exact h
        | cons m ms => exact ⟨⟨by rw [hP]; exact h.1.1.stay hst, by rw [hP]; exact h.1.2.stay hst⟩, ih h.2⟩
    exact this h4
end

/-! ### lists of objects, place by place -/
theorem unOs_at {P : Program} {nm : Nat → Nat} {as : List A} : ∀ {l : List OM} {j i n : Nat} {x : Option O}, (n, x) ∈ unOs P nm as l j i → ∃ p om i', l[p]? = some om ∧ n = nm (j + p) ∧ x = (unO P nm as om i').1 ∧ (j + p, (unO P id as om i').1) ∈ unOs P id as l j i
  | [], j, i, n, x, h => by simp [unOs] at h
  | om :: l, j, i, n, x, h => by
    simp only [unOs, List.mem_cons, Prod.mk.injEq] at h
    rcases h with ⟨rfl, rfl⟩ | h
    · exact ⟨0, om, i, by simp, by simp, rfl, by simp [unOs]⟩
    · obtain ⟨p, om', i', h1, h2, h3, h4⟩ := unOs_at h
      have hs : (unO P nm as om i).2 = (unO P id as om i).2 := by
        cases om <;> simp only [unO]
        exact (unR_snd _ i).1
      refine ⟨p + 1, om', i', by simpa using h1, by rw [h2]; congr 1; omega, h3, ?_⟩
      rw [hs] at h4
      rw [show j + (p + 1) = j + 1 + p by omega]
      simp only [unOs, List.mem_cons]
      exact .inr h4
theorem unOs_get {P : Program} {nm : Nat → Nat} {as : List A} : ∀ {l : List OM} {j i p n : Nat} {x : Option O}, (unOs P nm as l j i)[p]? = some (n, x) → ∃ om i', l[p]? = some om ∧ n = nm (j + p) ∧ x = (unO P nm as om i').1 ∧ (j + p, (unO P id as om i').1) ∈ unOs P id as l j i
  | [], j, i, p, n, x, h => by simp [unOs] at h
  | om :: l, j, i, 0, n, x, h => by
    simp only [unOs, List.getElem?_cons_zero, Option.some.injEq, Prod.mk.injEq] at h
    obtain ⟨rfl, rfl⟩ := h
    exact ⟨om, i, by simp, by simp, rfl, by simp [unOs]⟩
  | om :: l, j, i, p + 1, n, x, h => by
    simp only [unOs, List.getElem?_cons_succ] at h
    obtain ⟨om', i', h1, h2, h3, h4⟩ := unOs_get h
    have hs : (unO P nm as om i).2 = (unO P id as om i).2 := by
      cases om <;> simp only [unO]
      exact (unR_snd _ i).1
    refine ⟨om', i', by simpa using h1, by rw [h2]; congr 1; omega, h3, ?_⟩
    rw [hs] at h4
    rw [show j + (p + 1) = j + 1 + p by omega]
    simp only [unOs, List.mem_cons]
    exact .inr h4
theorem unOs_len {P : Program} {nm : Nat → Nat} {as : List A} : ∀ (l : List OM) (j i : Nat), (unOs P nm as l j i).length = l.length
  | [], j, i => rfl
  | om :: l, j, i => by simp [unOs, unOs_len l]
theorem lookL_of_mem : ∀ {l : List (Nat × O)} {n : Nat} {o : O}, (n, o) ∈ l → (∀ o', (n, o') ∈ l → o' = o) → lookL l n = some o
  | [], n, o, h, hu => by simp at h
  | (m, o1) :: l, n, o, h, hu => by
    simp only [lookL]
    cases hb : Nat.beq m n with
    | true => have := beqN hb; subst this; simp; exact hu o1 (List.mem_cons_self ..)
    | false =>
      simp only [cond_false]
      rcases List.mem_cons.1 h with h1 | h1
      · cases h1; simp at hb
      · exact lookL_of_mem h1 (fun o' ho' => hu o' (List.mem_cons_of_mem _ ho'))
theorem mem_someL : ∀ {l : List (Nat × Option O)} {n : Nat} {o : O}, (n, some o) ∈ l → (n, o) ∈ someL l
  | [], n, o, h => by simp at h
  | (m, x) :: l, n, o, h => by
    rcases List.mem_cons.1 h with h1 | h1
    · cases h1; simp [someL]
    · cases x <;> simp only [someL] <;> first | exact List.mem_cons_of_mem _ (mem_someL h1) | exact mem_someL h1
theorem unOs_uniq {P : Program} {as : List A} : ∀ {l : List OM} {j i n : Nat} {x y : Option O}, (n, x) ∈ unOs P id as l j i → (n, y) ∈ unOs P id as l j i → x = y
  | [], j, i, n, x, y, h, h' => by simp [unOs] at h
  | om :: l, j, i, n, x, y, h, h' => by
    simp only [unOs, List.mem_cons, Prod.mk.injEq, id_eq] at h h'
    rcases h with ⟨rfl, rfl⟩ | h <;> rcases h' with ⟨h1, h2⟩ | h'
    · exact h2.symm
    · obtain ⟨p, h1, _, h3⟩ := unOs_ge h'; simp at h3; omega
    · obtain ⟨p, h3, _, h4⟩ := unOs_ge h; simp at h4; omega
    · exact unOs_uniq h h'
theorem lookOf_of_mem {P : Program} {objs : List OM} {as : List A} {i n : Nat} {o : O} (h : (n, some o) ∈ unOs P id as objs 0 i) : lookOf P objs as i n = some o :=
  lookL_of_mem (mem_someL h) (fun o' ho' => by have := unOs_uniq h (someL_mem ho'); cases this; rfl)
theorem unOs_all {P : Program} {nm : Nat → Nat} {as : List A} : ∀ {l : List OM} {j i p : Nat} {om : OM}, l[p]? = some om → ∃ i', (nm (j + p), (unO P nm as om i').1) ∈ unOs P nm as l j i
  | [], j, i, p, om, h => by simp at h
  | om' :: l, j, i, 0, om, h => by simp at h; subst h; exact ⟨i, by simp [unOs]⟩
  | om' :: l, j, i, p + 1, om, h => by
    obtain ⟨i', h1⟩ := unOs_all (j := j + 1) (i := (unO P nm as om' i).2) (nm := nm) (as := as) (P := P) (p := p) (by simpa using h)
    refine ⟨i', ?_⟩
    rw [show j + (p + 1) = j + 1 + p by omega]
    simp only [unOs, List.mem_cons]
    exact .inr h1

/-! ### what is put back -/
theorem updF_append (look : Look) (u v : List (Nat × Option O)) : updF look (u ++ v) = updF (updF look u) v := by
  induction u generalizing look with
  | nil => rfl
  | cons x u ih => obtain ⟨n, o⟩ := x; simp only [List.cons_append, updF]; exact ih _
theorem updF_mem : ∀ (u : List (Nat × Option O)) (look : Look) (n : Nat), (n, updF look u n) ∈ u ∨ ((∀ x, (n, x) ∉ u) ∧ updF look u n = look n)
  | [], look, n => .inr ⟨fun x h => by simp at h, rfl⟩
  | (m, o) :: u, look, n => by
    simp only [updF]
    rcases updF_mem u (setF look m o) n with h | ⟨h1, h2⟩
    · exact .inl (List.mem_cons_of_mem _ h)
    · by_cases he : n = m
      · subst he
        refine .inl ?_
        rw [h2]
        simp [setF]
      · refine .inr ⟨fun x hx => ?_, ?_⟩
        · rcases List.mem_cons.1 hx with h3 | h3
          · cases h3; exact he rfl
          · exact h1 x h3
        · rw [h2]; simp [setF, he]
theorem virt_none {α : Type} {b : Bool} {x : Option α} {z : α} (h : (bif b then none else x) = some z) : x = some z := by cases b <;> first | exact h | cases h
theorem updOf_virt {σ : List (Nat × Option Nat)} : ∀ {ims oms : List OM} {u r : List (Nat × Option O)} {j p : Nat}, updOf σ ims oms u j = some r → p < ims.length → Go.Proofs.YtpfglhjgjfhkjaaDoorVM.virt σ (j + p) = true → oms[p]? = some .gone
  | [], oms, u, r, j, p, h, hp, hv => by simp at hp
  | im :: ims, [], u, r, j, p, h, hp, hv => by simp [updOf] at h
  | im :: ims, om :: oms, [], r, j, p, h, hp, hv => by simp [updOf] at h
  | im :: ims, om :: oms, (n, o) :: u, r, j, p, h, hp, hv => by
    simp only [updOf] at h
    cases hr : updOf σ ims oms u (j + 1) with
    | none => rw [hr] at h; cases h
    | some r1 =>
      rw [hr] at h
      cases p with
      | zero =>
        rw [Nat.add_zero] at hv
        simp only [hv, cond_true] at h
        split at h <;> first | rfl | cases h
      | succ p =>
        have := updOf_virt hr (p := p) (by simpa using hp) (by rw [show j + 1 + p = j + (p + 1) by omega]; exact hv)
        simpa using this
/-- What 'updOf' lets through. -/
theorem updOf_mem {σ : List (Nat × Option Nat)} : ∀ {ims oms : List OM} {u r : List (Nat × Option O)} {j : Nat}, updOf σ ims oms u j = some r → okOuts ims oms = true →
    (∀ n x, (n, x) ∈ r → ∃ p, u[p]? = some (n, x) ∧ (ims.length ≤ p ∨ (Go.Proofs.YtpfglhjgjfhkjaaDoorVM.virt σ (j + p) = false ∧ ∃ im om, ims[p]? = some im ∧ oms[p]? = some om ∧ ∀ τ c, im ≠ .var τ c true)) ∨ (x = none ∧ p < ims.length ∧ Go.Proofs.YtpfglhjgjfhkjaaDoorVM.virt σ (j + p) = false ∧ ∃ y, u[p]? = some (n, y))) ∧
    (∀ p im, ims[p]? = some im → (∀ τ c, im ≠ .var τ c true) → Go.Proofs.YtpfglhjgjfhkjaaDoorVM.virt σ (j + p) = false → ∃ n x y, u[p]? = some (n, y) ∧ (n, x) ∈ r) ∧
    (∀ p om, ims.length ≤ p → oms[p]? = some om → ∀ x, u[p]? = some x → x ∈ r)
  | [], oms, u, r, j, h, hk => by
    simp only [updOf, Option.some.injEq] at h
    subst h
    exact ⟨fun n x hm => by obtain ⟨p, hp⟩ := List.mem_iff_getElem?.1 hm; exact ⟨p, .inl ⟨hp, .inl (Nat.zero_le _)⟩⟩, fun p im hp => by simp at hp, fun p om _ _ x hx => List.mem_of_getElem? hx⟩
  | im :: ims, oms, u, r, j, h, hk => by
    cases oms with
    | nil => simp [updOf] at h
    | cons om oms =>
      cases u with
      | nil => simp [updOf] at h
      | cons x0 u =>
        obtain ⟨n0, o0⟩ := x0
        have hk' : okOuts ims oms = true := by
          cases im <;> cases om <;> simp only [okOuts, Bool.and_eq_true, Bool.false_eq_true] at hk <;> first | exact hk.2 | exact hk
        simp only [updOf] at h
        cases hr : updOf σ ims oms u (j + 1) with
        | none => rw [hr] at h; cases h
        | some r' =>
          rw [hr] at h
          obtain ⟨i1, i2, i3⟩ := updOf_mem hr hk'
          have tail1 : ∀ n x, (n, x) ∈ r' → ∃ p, ((n0, o0) :: u)[p]? = some (n, x) ∧ ((im :: ims).length ≤ p ∨ (Go.Proofs.YtpfglhjgjfhkjaaDoorVM.virt σ (j + p) = false ∧ ∃ im' om', (im :: ims)[p]? = some im' ∧ (om :: oms)[p]? = some om' ∧ ∀ τ c, im' ≠ .var τ c true)) ∨ (x = none ∧ p < (im :: ims).length ∧ Go.Proofs.YtpfglhjgjfhkjaaDoorVM.virt σ (j + p) = false ∧ ∃ y, ((n0, o0) :: u)[p]? = some (n, y)) := by
            intro n x hm
            obtain ⟨p, hp⟩ := i1 n x hm
            refine ⟨p + 1, ?_⟩
            rw [show j + (p + 1) = j + 1 + p by omega]
            rcases hp with ⟨h1, h2⟩ | ⟨h1, h2, h3, h4⟩
            · exact .inl ⟨by simpa using h1, h2.imp (fun h => by simp; omega) (fun ⟨a, im', om', b, c, d⟩ => ⟨a, im', om', by simpa using b, by simpa using c, d⟩)⟩
            · exact .inr ⟨h1, by simp; omega, h3, by simpa using h4⟩
          have hlast : ∀ p om', (im :: ims).length ≤ p → (om :: oms)[p]? = some om' → ∀ x, ((n0, o0) :: u)[p]? = some x → x ∈ r' := by
            intro p om' h1 h2 x h3
            cases p with
            | zero => simp at h1
            | succ p => exact i3 p om' (by simpa using h1) (by simpa using h2) x (by simpa using h3)
          have mid : ∀ p im', (im :: ims)[p + 1]? = some im' → (∀ τ c, im' ≠ .var τ c true) → Go.Proofs.YtpfglhjgjfhkjaaDoorVM.virt σ (j + (p + 1)) = false → ∃ n x y, ((n0, o0) :: u)[p + 1]? = some (n, y) ∧ (n, x) ∈ r' := by
            intro p im' h1 h2 h3
            obtain ⟨n, x, y, h4, h5⟩ := i2 p im' (by simpa using h1) h2 (by rw [show j + 1 + p = j + (p + 1) by omega]; exact h3)
            exact ⟨n, x, y, by simpa using h4, h5⟩
          dsimp only at h
          split at h
          · -- lent: nothing is put back
            replace h := virt_none h
            cases h
            refine ⟨tail1, fun p im' h1 h2 h3 => ?_, hlast⟩
            cases p with
            | zero => simp at h1; subst h1; exact absurd rfl (h2 _ _)
            | succ p => exact mid p im' h1 h2 h3
          · -- used up
            cases hv : Go.Proofs.YtpfglhjgjfhkjaaDoorVM.virt σ j with
            | true =>
              rw [hv] at h
              simp only [cond_true, Option.some.injEq] at h
              subst h
              refine ⟨tail1, fun p im' h1 h2 h3 => ?_, hlast⟩
              cases p with
              | zero => rw [Nat.add_zero, hv] at h3; cases h3
              | succ p => exact mid p im' h1 h2 h3
            | false =>
              rw [hv] at h
              simp only [cond_false, Option.some.injEq] at h
              subst h
              refine ⟨fun n x hm => ?_, fun p im' h1 h2 h3 => ?_, fun p om' h1 h2 x h3 => List.mem_cons_of_mem _ (hlast p om' h1 h2 x h3)⟩
              · rcases List.mem_cons.1 hm with h4 | h4
                · cases h4
                  exact ⟨0, .inr ⟨rfl, by simp, by simpa using hv, o0, by simp⟩⟩
                · exact tail1 n x h4
              · cases p with
                | zero => exact ⟨n0, none, o0, by simp, List.mem_cons_self ..⟩
                | succ p =>
                  obtain ⟨n, x, y, h4, h5⟩ := mid p im' h1 h2 h3
                  exact ⟨n, x, y, h4, List.mem_cons_of_mem _ h5⟩
          · -- kept
            rename_i hx1 hx2
            cases hv : Go.Proofs.YtpfglhjgjfhkjaaDoorVM.virt σ j with
            | true => rw [hv] at h; cases h
            | false =>
              rw [hv] at h
              simp only [cond_false, Option.some.injEq] at h
              subst h
              have hne : ∀ τ c, im ≠ .var τ c true := by
                intro τ c he
                subst he
                cases om <;> simp only [okOuts, Bool.and_eq_true, Bool.false_eq_true] at hk
                rename_i τ' c' ro'
                have : ro' = true := by have := hk.1.2; simpa using this.symm
                subst this
                exact hx2 _ _ _ _ rfl rfl
              refine ⟨fun n x hm => ?_, fun p im' h1 h2 h3 => ?_, fun p om' h1 h2 x h3 => List.mem_cons_of_mem _ (hlast p om' h1 h2 x h3)⟩
              · rcases List.mem_cons.1 hm with h4 | h4
                · cases h4
                  exact ⟨0, .inl ⟨by simp, .inr ⟨by simpa using hv, im, om, by simp, by simp, hne⟩⟩⟩
                · exact tail1 n x h4
              · cases p with
                | zero => exact ⟨n0, o0, o0, by simp, List.mem_cons_self ..⟩
                | succ p =>
                  obtain ⟨n, x, y, h4, h5⟩ := mid p im' h1 h2 h3
                  exact ⟨n, x, y, h4, List.mem_cons_of_mem _ h5⟩
theorem updOf_some {σ : List (Nat × Option Nat)} : ∀ {ims oms : List OM} {u u' r : List (Nat × Option O)} {j : Nat}, updOf σ ims oms u j = some r → u.length = u'.length → ∃ r', updOf σ ims oms u' j = some r'
  | [], oms, u, u', r, j, h, hl => ⟨u', by simp [updOf]⟩
  | im :: ims, [], u, u', r, j, h, hl => by simp [updOf] at h
  | im :: ims, om :: oms, [], u', r, j, h, hl => by simp [updOf] at h
  | im :: ims, om :: oms, (n, o) :: u, [], r, j, h, hl => by simp at hl
  | im :: ims, om :: oms, (n, o) :: u, (n', o') :: u', r, j, h, hl => by
    simp only [updOf] at h
    cases hr : updOf σ ims oms u (j + 1) with
    | none => rw [hr] at h; cases h
    | some r1 =>
      obtain ⟨r2, hr2⟩ := updOf_some hr (u' := u') (by simpa using hl)
      rw [hr] at h
      simp only [updOf, hr2]
      split <;> first
        | exact ⟨_, rfl⟩
        | (cases hv : Go.Proofs.YtpfglhjgjfhkjaaDoorVM.virt σ j <;> first | exact ⟨_, rfl⟩ | (rw [hv] at h; split at h <;> first | cases h | simp_all))
end Go.Proofs.YtpfglhjgjfhkjaaDoorVM
