/- The machine: functions of the library that are told by hand. -/
import Derived.Test.YtbejhhoakeapgaaVmC
import Derived.Test.YtbejhhoakeapgaaVmZq
import Derived.Test.YtbejhhoakeapgaaVmA
import Derived.Shelf.SlLaysE0
import Derived.Shelf.SlicesE.Clone
import Derived.Shelf.RegionOpenPlain
import Derived.WalkKit
import Derived.Deep.LoopGhost
import Derived.Lib.Walk
import Derived.Lib.SliceRun
namespace Go.Proofs.YtbejhhoakeapgaaVM
open Go Go.Shelf Go.RowKit Go.Proofs
set_option linter.unusedVariables false
set_option linter.unusedSimpArgs false
set_option maxHeartbeats 1000000 in
set_option maxRecDepth 100000 in
theorem clone_calls {P : Program} {ρ : Ren} (L : SlLaysE0.n41 P ρ) {i0 : TypeInfo} {z : Value} (hi : P.info? (ρ.t 23) = some i0) (hz0 : i0.zero = some z) (hzs : z.cells.size = i0.size) (hsz : 0 < i0.size)
    (z23 : ∀ w, (Go.sizeOf (ρ.t 23)).run P w = .ok i0.size w) (ad : Addr) (n c : Nat) (news : List Value) (w : World) (hl : news.length = n * i0.size) (hn : n ≤ maxLen) (hbig : n * i0.bytes ≤ 140737488355328)
    (hc : Aside (∀ j u, news[j]? = some u → w.cell? (ad.add j) = some u)) (h1 : ∀ u ∈ news, u.oneCell' = true) :
    Calls P (ρ.f 41) #[.slice (some ad) n c] w fun e w' => ∃ v', e = .returned v' ∧ w'.ownsRow w.heap.size (ρ.t 23) i0.size v' n news ∧ v' ≠ .slice none 0 0 ∧ Below w.heap.size w w' := by
  have mixed := L.mixed; have t4 := L.t4; have a4 := L.a4; have z4 := L.z4; have v4 := L.v4; have t22 := L.t22; have a22 := L.a22; have z22 := L.z22; have v22 := L.v22
  have q22 : ∀ (w : World) (a : Option Addr) (n c n' c' : Nat), (binOp .eql (ρ.t 22) (.slice a n c) (.slice none n' c')).run P w = .ok (.bool a.isNone) w := fun w a n c n' c' => Lib.run_eql_slice_nil w _ _ a n c n' c' L.t22
  have u22 : ∀ w, Sem.run P (underlying (ρ.t 22)) w = .ok (TypeDesc.slice (ρ.t 23)) w := run_underlying t22
  obtain ⟨_, _, FG⟩ := L.f41
  go_enter FG, SlBodyN.n41_ntmps ρ
  go_wp2_with (at_builtin; refine wpList_append_own _ rfl _ _ (ρ.t 22) rfl w.heap.size (ρ.t 23) i0 z i0.size i0.bytes t22 hi hz0 rfl rfl hzs hsz _ _ _ rfl (World.ownsRow_made w #[] 0 (Nat.le_refl _) (Nat.zero_le _) (by simp)) ad n c news rfl ?k1 ?k2 ?k3 ?k4 ?k5 ?k6 ?_)
  case k1 => exact hl
  case k2 =>
    intro j u hj
    exact Lib.cell?_alloc_some _ (hc.out j u hj)
  case k3 => exact h1
  case k4 => rw [Nat.zero_add]; exact hn
  case k5 => rw [Nat.zero_add]; exact hbig
  case k6 => simp
  intro v' w1 hown hgrow hnil
  go_wp2
  go_ret
  refine ⟨v', rfl, by simpa using hown, hnil, ?_⟩
  exact ((Below.refl _ w).alloc (Nat.le_refl _) _).grown hgrow (by simp) (by intro k hk; simp [Value.ownBlock] at hk; omega)
theorem nxt_own {P : Program} {G : Globs} {C : Ctx} {β : Places} {free : Nat → Prop} {N : Nat} {regs : Regs} {look : Look} {a : Act} {W W' : World} {nm : Nat} (h : Rel P G C β free N regs look a W) (hfr : free nm) {te : TypeId} {s : Nat} (hcs : csz P te = some s) (hs : 0 < s)
    {xs : List T} {news : List Value} (hseg : ∀ i x, xs[i]? = some x → PRep P W (okOf C β look) te x ((news.drop (i * s)).take s)) {v : Value} (hown : W'.ownsRow W.heap.size te s v xs.length news) (hnn : v ≠ .slice none 0 0) (hb : Below W.heap.size W W') {dst : Option Tmp} {touch : List Nat} :
    Nxt P G C β free N regs look dst nm { d := .own nm, upd := (nm, some (.row te xs)) :: goneAll [], touch := touch, fresh := 1 } (a.put dst v) W' := by
  obtain ⟨h1, h2⟩ := hown
  rcases h2 with h2 | ⟨g, cap, cur, rfl, hg, hh, hn, hcap, hsz, htake⟩
  · exact absurd h2.1 hnn
  refine nxt_new h hfr (frz := []) (Wr.of_below hb) (pl := { b := g, off := 0, len := xs.length, sz := s, lim := cap * s }) rfl (.inr hg) (fun hle => ?_) (fun hle => ?_)
  · refine ⟨rfl, hcs, hs, (fun hv => by cases hv), fun _ => ⟨cur, _, (0, 0), hh, hsz, ⟨fun o _ hx => by have := hx.2; omega, .inr ⟨rfl, by rw [hsz]; exact Nat.mul_le_mul_right s hcap⟩⟩, fun i x hi => ?_⟩⟩
    have hp := (hseg i x hi).stay hle.stay
    obtain ⟨hlt, _⟩ := List.getElem?_eq_some_iff.1 hi
    have e : (news.drop (i * s)).take s = (cur.toList.drop (0 + i * s)).take s := by
      rw [← htake, List.drop_take, List.take_take, Nat.zero_add]
      congr 1
      have : (i + 1) * s ≤ xs.length * s := Nat.mul_le_mul_right s hlt
      rw [Nat.add_mul, Nat.one_mul] at this
      omega
    rw [← e]
    exact hp
  · exact RV_scalar ⟨_, by simp [setP]; rfl, by simp only [Bool.false_eq_true, if_false]; exact ⟨cap, rfl, hn, by simp⟩⟩ rfl
theorem clone_lies {P : Program} {G : Globs} {C : Ctx} {β : Places} {free : Nat → Prop} {N : Nat} {regs : Regs} {look : Look} {a : Act} {W : World} {nm : Nat} (h : Rel P G C β free N regs look a W) (hfr : free nm) {ρ : Ren} (L : SlLaysE0.n41 P ρ) {te : TypeId} (hte : ρ.t 23 = te) {i0 : TypeInfo} {z : Value} (hi : P.info? te = some i0) (hz0 : i0.zero = some z) (hzs : z.cells.size = i0.size)
    (hcs : csz P te = some i0.size) (hsz : 0 < i0.size) (hby : i0.bytes ≤ 65536) (z23 : ∀ w, (Go.sizeOf te).run P w = .ok i0.size w) {xs : List T} (hx : xs.length ≤ 1000000000) {ad : Option Addr} {cap : Nat} (hlies : Lies P W (okOf C β look) te xs ad) {dst : Option Tmp} {touch : List Nat} :
    Calls P (ρ.f 41) #[.slice ad xs.length cap] W fun x W' => ∃ v, x = .returned v ∧ Nxt P G C β free N regs look dst nm { d := .own nm, upd := (nm, some (.row te xs)) :: goneAll [], touch := touch, fresh := 1 } (a.put dst v) W' := by
  have hn : xs.length ≤ maxLen := by unfold maxLen; omega
  have hbig : xs.length * i0.bytes ≤ 140737488355328 := by
    calc xs.length * i0.bytes ≤ 1000000000 * 65536 := Nat.mul_le_mul hx hby
      _ ≤ 140737488355328 := by decide
  subst hte
  rcases hlies with rfl | ⟨b, off, s', c, el, fr, rfl, h2, h3, h4, h5, h6⟩
  · cases ad with
    | none =>
      refine (AnyE.slices_Clone_nil L 0 cap W).mono ?_
      rintro x W' ⟨rfl, rfl⟩
      refine ⟨_, rfl, nxt_new h hfr (frz := []) (Wr.refl _ W') (pl := { b := 0, off := 0, len := 0, sz := i0.size, lim := 0, virt := true }) rfl (.inl rfl) (fun hle => ?_) (fun hle => ?_)⟩
      · exact ⟨rfl, hcs, hsz, fun _ => rfl, fun hv => by cases hv⟩
      · exact RV_scalar ⟨{ b := 0, off := 0, len := 0, sz := i0.size, lim := 0, virt := true }, by simp [setP], by simp⟩ rfl
    | some ad =>
      refine (clone_calls L hi hz0 hzs hsz z23 ad 0 cap [] W (by simp) (by unfold maxLen; omega) (by simp) (fun j u hj => by simp at hj) (by simp)).mono ?_
      rintro x W' ⟨v', rfl, hown, hnn, hb⟩
      exact ⟨v', rfl, nxt_own h hfr hcs hsz (xs := []) (fun i x hx => by simp at hx) hown hnn hb⟩
  · rw [hcs] at h2; cases h2
    have hcl : c.toList.length = c.size := Array.length_toList
    have hl : ((c.toList.drop off).take (xs.length * i0.size)).length = xs.length * i0.size := by rw [List.length_take, List.length_drop, hcl]; omega
    have hseg : ∀ i x, xs[i]? = some x → PRep P W (okOf C β look) (ρ.t 23) x ((((c.toList.drop off).take (xs.length * i0.size)).drop (i * i0.size)).take i0.size) := fun i x hx => by
      have hi : i < xs.length := (List.getElem?_eq_some_iff.1 hx).1
      have : (i + 1) * i0.size ≤ xs.length * i0.size := Nat.mul_le_mul_right _ hi
      rw [Nat.add_mul, Nat.one_mul] at this
      rw [drop_take_drop_take _ _ _ _ _ this]
      exact h5 i x hx
    refine (clone_calls L hi hz0 hzs hsz z23 ⟨b, off, none⟩ xs.length cap ((c.toList.drop off).take (xs.length * i0.size)) W hl hn hbig (fun j u hj => ?_) (fun v hv => ?_)).mono ?_
    · rw [add_none, cell_of h4]
      have hjs : j < xs.length * i0.size := by have := (List.getElem?_eq_some_iff.1 hj).1; omega
      rw [List.getElem?_take, if_pos hjs, List.getElem?_drop] at hj
      simpa using hj
    · obtain ⟨j, hj, hjv⟩ := List.getElem_of_mem hv
      rw [hl] at hj
      have hdiv := Nat.div_add_mod j i0.size
      have hmod := Nat.mod_lt j h3
      have hi : j / i0.size < xs.length := by rw [Nat.div_lt_iff_lt_mul h3]; exact hj
      have := (hseg (j / i0.size) _ (tAtD_some hi)).one
      refine this v ?_
      rw [List.mem_iff_getElem?]
      refine ⟨j % i0.size, ?_⟩
      rw [List.getElem?_take, if_pos hmod, List.getElem?_drop, show j / i0.size * i0.size + j % i0.size = j by rw [Nat.mul_comm]; exact hdiv, List.getElem?_eq_getElem (by rw [hl]; exact hj), hjv]
    · rintro x W' ⟨v', rfl, hown, hnn, hb⟩
      exact ⟨v', rfl, nxt_own h hfr hcs hsz hseg hown hnn hb⟩
def cloneF (zs : List A) : Option (List A) := bif decide ((aAt zs 0).tree.kids.length ≤ 1000000000) then some [.t (.node (aAt zs 0).tree.kids)] else none
def cloneE (f ts te : Nat) : Entry := { fid := f, ins := ⟨[(0, .v ts)], []⟩, outs := ⟨[(0, .o 0)], [.row te]⟩, cuts := [], prim := some cloneF }
theorem clone_ok {P : Program} {G : Globs} {ρ : Ren} (L : SlLaysE0.n41 P ρ) {ts te : TypeId} (hts : ρ.t 22 = ts) (hte : ρ.t 23 = te) {i0 : TypeInfo} {z : Value} (hi : P.info? te = some i0) (hz0 : i0.zero = some z) (hzs : z.cells.size = i0.size)
    (hcs : csz P te = some i0.size) (hsz : 0 < i0.size) (hby : i0.bytes ≤ 65536) (z23 : ∀ w, (Go.sizeOf te).run P w = .ok i0.size w) (hen : Enters P (ρ.f 41)) : FnOk P G (cloneE (ρ.f 41) ts te) cloneF := by
  have hts' : P.underlying ts = some (.slice te) := by rw [← hts, ← hte]; exact L.t22
  refine FnOk.of_step (E := { call := fun _ _ => none, loop := fun _ _ => none, ents := [], cuts := [], σ0 := [], G := [] }) hen (by simp [cloneE]) ?_
  intro C β vs zs o W hW hF hl hrel
  unfold cloneF at hF
  obtain ⟨hF1, hF2⟩ := bif_some hF
  rw [decide_eq_true_eq] at hF1
  cases hF2
  refine ⟨{ d := .own 0, upd := (0, some (.row te (aAt zs 0).tree.kids)) :: goneAll [], touch := [], fresh := 1 }, ⟨[.t (.node (aAt zs 0).tree.kids)], [(0, some 0)], [], []⟩, by simp [packShape, cloneE, regRMs, packTops, packTop, packR, packObjs, bindN, sigma, stays, hasName, updF, setF, goneAll, apartB, meets, sigBound, gonesOk, liveB]; rfl, rfl, ?_⟩
  have hu : unRs P id zs (regRMs (cloneE (ρ.f 41) ts te).ins) 0 = ([.row (aAt zs 0).tree.kids te false], 1) := by
    simp [cloneE, regRMs, unRs, unR, ofT, hts']
  rw [hu] at hrel ⊢
  have h0 := hrel.vals 0
  have hl' : vs.length = 1 := hl
  generalize hxs : (aAt zs 0).tree.kids = xs at *
  match vs, hl' with
  | [v0], _ =>
    obtain ⟨c0, ⟨a, cap, e0, hrow, hcap, _⟩, hv0⟩ := h0
    have e1 : v0 = .slice a xs.length cap := by
      subst e0
      simp [VF, scalar, regsOf, Array.getD] at hv0
      exact hv0.symm
    subst e1
    have hfree : ([] : List OM).length ≤ 0 := Nat.le_refl _
    have hlies : Lies P W (okOf C β (lookOf P (cloneE (ρ.f 41) ts te).ins.objs zs 1)) te xs a := PRow.lies hrow
    exact clone_lies hrel hfree L hte hi hz0 hzs hcs hsz hby z23 hF1 hlies
def cloneOF (zs : List A) : Option (List A) := bif decide ((aAt zs 0).tree.kids.length ≤ 1000000000) then some [.t (.node (aAt zs 0).tree.kids), .t (.node (aAt zs 0).tree.kids)] else none
def cloneOE (f te : Nat) : Entry := { fid := f, ins := ⟨[(0, .o 0)], [.row te]⟩, outs := ⟨[(0, .o 1)], [.row te, .row te]⟩, cuts := [], prim := some cloneOF }
theorem cloneO_ok {P : Program} {G : Globs} {ρ : Ren} (L : SlLaysE0.n41 P ρ) {te : TypeId} (hte : ρ.t 23 = te) {i0 : TypeInfo} {z : Value} (hi : P.info? te = some i0) (hz0 : i0.zero = some z) (hzs : z.cells.size = i0.size)
    (hcs : csz P te = some i0.size) (hsz : 0 < i0.size) (hby : i0.bytes ≤ 65536) (z23 : ∀ w, (Go.sizeOf te).run P w = .ok i0.size w) (hen : Enters P (ρ.f 41)) : FnOk P G (cloneOE (ρ.f 41) te) cloneOF := by
  refine FnOk.of_step (E := { call := fun _ _ => none, loop := fun _ _ => none, ents := [], cuts := [], σ0 := [], G := [] }) hen (by simp [cloneOE]) ?_
  intro C β vs zs o W hW hF hl hrel
  unfold cloneOF at hF
  obtain ⟨hF1, hF2⟩ := bif_some hF
  rw [decide_eq_true_eq] at hF1
  cases hF2
  have hu : unRs P id zs (regRMs (cloneOE (ρ.f 41) te).ins) 0 = ([.own 0], 0) := by
    simp [cloneOE, regRMs, unRs, unR]
  rw [hu] at hrel ⊢
  have hlk : lookOf P (cloneOE (ρ.f 41) te).ins.objs zs 0 = fun n => if n = 0 then some (.row te (aAt zs 0).tree.kids) else none := by
    funext n
    cases n with
    | zero => rfl
    | succ n => cases n <;> rfl
  refine ⟨{ d := .own 1, upd := (1, some (.row te (aAt zs 0).tree.kids)) :: goneAll [], touch := [], fresh := 1 }, ⟨[.t (.node (aAt zs 0).tree.kids), .t (.node (aAt zs 0).tree.kids)], [(1, some 1), (0, some 0)], [], []⟩, ?_, rfl, ?_⟩
  · rw [show ([D.own 0], 0).2 = 0 from rfl, hlk]
    simp [packShape, cloneOE, regRMs, packTops, packTop, packR, packObjs, bindN, sigma, stays, hasName, updF, setF, goneAll, apartB, meets, sigBound, gonesOk, liveB]
    have hb : Nat.beq te te = true := Nat.beq_refl te
    have h01 : Nat.beq 0 1 = false := rfl
    have h10 : Nat.beq 1 0 = false := rfl
    simp [h01, h10, sigma, hb, apartB, meets, sigBound, liveB]
    rfl
  have h0 := hrel.vals 0
  have hl' : vs.length = 1 := hl
  match vs, hl' with
  | [v0], _ =>
    obtain ⟨ad, cap, e1, hlies⟩ := elems_lie hrel h0 (xs := (aAt zs 0).tree.kids) (e := te) (tc := [0]) (by simp [elemsD, regsOf, hlk])
    have e2 : v0 = .slice ad (aAt zs 0).tree.kids.length cap := by simpa [Array.getD] using e1
    subst e2
    exact clone_lies hrel (Nat.le_refl 1) L hte hi hz0 hzs hcs hsz hby z23 hF1 hlies
end Go.Proofs.YtbejhhoakeapgaaVM
