/- An abstract machine for Go's code, proved right. -/
import Derived.Test.YtbejhhoakeapgaaVmB
import Derived.LoopN
import Derived.Orders
import Derived.ChangeArms
import Derived.DataReads
import Derived.OpenShut
import Derived.Carry
import Derived.WideShapes
import Derived.ChangeOld
namespace Go.Proofs.YtbejhhoakeapgaaVM
open Go Go.RowKit
set_option linter.unusedVariables false
set_option linter.unusedSimpArgs false

def CutPost (P : Program) (G : Globs) (C : Ctx) (σ0 : List (Nat × Option Nat)) (β0 : Places) (N : Nat) (ct : Cut) (n : Nat) (o : List A) : Exit → Act → World → Prop :=
  fun e a' W' => ecode e = some n ∧ ∃ sh, exitShape ct.exits n = some sh ∧ St P G C σ0 β0 N (initSt P N sh o) a' W'
def CutN (P : Program) (G : Globs) (σ0 : List (Nat × Option Nat)) (N : Nat) (d : Nat) (c : Code) (ct : Cut) (F : List A → Option (Nat × List A)) : Prop :=
  ∀ C β0 as n o a W, F as = some (n, o) → St P G C σ0 β0 N (initSt P N ct.head as) a W →
    match c with
    | .loop c1 => Code.rounds P c1 (CutPost P G C σ0 β0 N ct n o) d a W
    | c => c.wp P (CutPost P G C σ0 β0 N ct n o) a W
section
variable {P : Program} {G : Globs} {C : Ctx} {σ0 : List (Nat × Option Nat)} {β0 : Places} {N : Nat} {E : Env}
theorem CutN.ok {d : Nat} {c : Code} {ct : Cut} {F : List A → Option (Nat × List A)} (h : CutN P G σ0 N d c ct F) : CutOk P G σ0 N c ct F := by
  intro C β0 as n o a W hF hst
  have := h C β0 as n o a W hF hst
  cases c <;> first
    | exact wp_loop_rounds d this
    | exact this
theorem insOk_map {f : Nat → Value} : ∀ {l : List (Nat × RM)} {i : Nat}, insOk l i = true → l.map (fun r => f r.1) = (List.range' i l.length).map f
  | [], i, h => rfl
  | (r, c) :: l, i, h => by
    simp only [insOk, Bool.and_eq_true] at h
    have := beqN h.1; subst this
    simp only [List.map_cons, List.length_cons, List.range'_succ, insOk_map h.2]
theorem At.enter {e : Shape} {as : List A} {vs : List Value} {W : World} {β : Places} (h : At P G C β e as vs W) (hi : insOk e.regs 0 = true) (hl : e.regs.length ≤ N) :
    St P G C σ0 β N (initSt P N e as) { tmps := vs.toArray ++ Array.replicate (N - vs.toArray.size) Go.undef, defers := [] } W := by
  obtain ⟨h1, _, hr⟩ := h
  refine ⟨by simp [initSt, putRegs_len], β, fun _ _ _ h => h, ?_⟩
  have hv := RVt.of_get (by rw [unRs_length]; simp [regRMs, h1]) hr.vals
  have hget : ∀ t, t < vs.length → (vs.toArray ++ Array.replicate (N - vs.toArray.size) Go.undef).getD t Go.undef = vs.toArray.getD t Go.undef := by
    intro t ht
    rw [Array.getD_eq_getD_getElem?, Array.getD_eq_getD_getElem?, Array.getElem?_append_left (by simpa using ht)]
  have hmap : (e.regs.map fun r => (vs.toArray ++ Array.replicate (N - vs.toArray.size) Go.undef).getD r.1 Go.undef) = vs := by
    rw [insOk_map (f := fun t => (vs.toArray ++ Array.replicate (N - vs.toArray.size) Go.undef).getD t Go.undef) hi, ← h1]
    apply List.ext_getElem
    · simp
    · intro i h2 h3
      rw [List.getElem_map, List.getElem_range', Nat.one_mul, Nat.zero_add, hget i h3]
      simp [h3]
  exact { keeps := hr.keeps, defers := rfl, size := by simp; omega,
          vals := by
            refine putRegs_rv (f := fun t => (vs.toArray ++ Array.replicate (N - vs.toArray.size) Go.undef).getD t Go.undef) e.regs _ _ (fun t => ?_) (by rw [hmap]; exact hv)
            have : regsOf (List.replicate N .undef) t = .undef := by
              unfold regsOf
              rw [List.getD, List.getElem?_replicate]
              split <;> rfl
            rw [this]; trivial
          bound := fun t ht => by
            unfold regsOf
            rw [List.getD, List.getElem?_eq_none (by simp [initSt, putRegs_len]; exact ht)]
            rfl
          objs := hr.objs, inj := hr.inj, foot := hr.foot, own := hr.own, roav := hr.roav, free := hr.free, globs := hr.globs, avold := hr.avold }
theorem St.leave {fn : Func} {st : Store} {a : Act} {W : World} (h : St P G C σ0 β0 N st a W) (hσ : ∀ j x, sigma σ0 j = some x → x = some j) {ds : List D} (hr : resVals (regsOf st.regs) (lookL st.objs) fn.results.toList = some ds) {sh : Shape} {pk : Pk}
    (hp : packShape P true E (lookL st.objs) σ0 sh ds = some pk) :
    ∃ us β', a.defers = [] ∧ (results fn a.tmps).run P W = .ok (retVal us) W ∧ Kept σ0 β0 β' ∧ At P G C β' sh pk.as us W := by
  obtain ⟨hl, β, hk, hrel⟩ := h
  obtain ⟨us, h1, h2⟩ := results_run hrel hr
  have hinj : SInj σ0 := fun i j n h1 h2 => by
    have e1 := hσ _ _ h1
    have e2 := hσ _ _ h2
    simp at e1 e2
    rw [← e1, ← e2]
  obtain ⟨β', q1, q2, q3, q4⟩ := pack_same hrel hinj hp h2
  have hlen := q3.length
  rw [unRs_length] at hlen
  refine ⟨us, β', hrel.defers, h1, fun j pl hs hb => by rw [q1 j j hs]; exact hk j pl hs hb, by rw [← hlen]; simp [regRMs], q2, ?_⟩
  refine q4 rfl (by simp) q3.get (fun t ht => ?_)
  unfold regsOf
  rw [List.getD, List.getElem?_eq_none (by rw [unRs_length, hlen]; exact ht)]
  rfl
end
theorem den_ok {P : Program} {G : Globs} {ents : List Entry} (hd : DrawOk P) (hen : ∀ (i : Nat) (e : Entry), ents[i]? = some e → Enters P e.fid) (hprim : ∀ (i : Nat) (e : Entry) F, ents[i]? = some e → e.prim = some F → FnOk P G e F) :
    ∀ d, (∀ (i : Nat) (e : Entry), ents[i]? = some e → FnOk P G e (fun a => (den P G ents d i none a).map (·.2))) ∧
      (∀ (i : Nat) (e : Entry) fn body q ct c, ents[i]? = some e → P.funcs[e.fid]? = some fn → fn.body = some body → cutAt e.cuts q = some ct → subCode body q.reverse = some c →
        CutN P G (stays 0 e.ins.objs e.outs.objs) fn.ntmps d c ct (fun a => den P G ents d i (some q) a))
  | 0 => ⟨fun i e he => ⟨hen i e he, fun C β vs as o W _ hF => by simp [den] at hF⟩, fun i e fn body q ct c he hf hb hct hs C β0 as n o a W hF => by simp [den] at hF⟩
  | d + 1 => by
    obtain ⟨ih1, ih2⟩ := den_ok hd hen hprim d
    have hσ : ∀ (e : Entry) j x, sigma (stays 0 e.ins.objs e.outs.objs) j = some x → x = some j := fun e j x h => stays_id h
    have hEnv : ∀ (i : Nat) (e : Entry), EnvOk P G { call := fun i a => (den P G ents d i none a).map (·.2), loop := fun q a => den P G ents d i (some q) a, ents := ents, cuts := e.cuts, σ0 := stays 0 e.ins.objs e.outs.objs, G := G, lit := e.lit, mv := e.mv } := fun i e => ⟨ih1, rfl⟩
    refine ⟨fun i e he => ?_, fun i e fn body q ct c he hf hb hct hs => ?_⟩
    · cases hpr : e.prim with
      | some F =>
        have hF := hprim i e F he hpr
        refine ⟨hF.1, fun C β vs as o W hW hden hat => hF.2 C β vs as o W hW ?_ hat⟩
        simp only [den, he, hpr, Option.map_map] at hden
        cases hFa : F as with
        | none => rw [hFa] at hden; cases hden
        | some o' => rw [hFa] at hden; simpa using hden
      | none =>
        refine ⟨hen i e he, fun C β vs as o W hW hden hat => ?_⟩
        obtain ⟨fn, hfn, _, hbody⟩ := hen i e he
        cases hb : fn.body with
        | none => rw [hb] at hbody; cases hbody
        | some body =>
          simp only [den, he, hpr, hfn, hb] at hden
          cases hc : (insOk e.ins.regs 0 && Nat.ble e.ins.regs.length fn.ntmps) with
          | false => rw [hc] at hden; simp at hden
          | true =>
            rw [hc] at hden
            simp only [Bool.not_true, cond_false] at hden
            obtain ⟨⟨n, o'⟩, h1, h2⟩ := Option.map_eq_some_iff.1 hden
            simp only at h2
            subst h2
            simp only [Bool.and_eq_true] at hc
            have hst : St P G C (stays 0 e.ins.objs e.outs.objs) β fn.ntmps (initSt P fn.ntmps e.ins as) _ W := hat.enter hc.1 (Nat.le_of_ble_eq_true hc.2)
            refine calls_of_wp hfn hb (arun_ok (hEnv i e) hd (hσ e) rfl (fun p ct c h3 h4 => (ih2 i e fn body p ct c he hfn hb h3 h4).ok) body (p := []) (by simp [subCode]) hst h1 ?_)
            intro x n' st' a' W' h3 h4 h5
            cases hbb : (Nat.beq n' 0 || Nat.beq n' 1) with
            | false => rw [hbb] at h5; cases h5
            | true =>
              rw [hbb] at h5
              simp only [cond_true] at h5
              split at h5
              case h_2 => cases h5
              case h_1 ds hds =>
                split at h5
                case h_2 => cases h5
                case h_1 k hk =>
                  simp only [Option.some.injEq, Prod.mk.injEq] at h5
                  obtain ⟨_, rfl⟩ := h5
                  obtain ⟨us, β', q1, q2, q3, q4⟩ := h4.leave (hσ e) hds hk
                  cases x <;> simp only [ecode, Option.some.injEq, reduceCtorEq] at h3
                  case normal => exact ⟨q1, _, q2, us, β', rfl, q3, q4⟩
                  case ret => exact ⟨q1, _, q2, us, β', rfl, q3, q4⟩
                  case exit id => subst h3; simp at hbb
    · intro C β0 as n o a W hden hst
      have hcut : ∀ p ct c, cutAt e.cuts p = some ct → subCode body p.reverse = some c → CutOk P G (stays 0 e.ins.objs e.outs.objs) fn.ntmps c ct (fun a => den P G ents d i (some p) a) := fun p ct c h3 h4 => (ih2 i e fn body p ct c he hf hb h3 h4).ok
      cases hpr : e.prim with
      | some F => simp [den, he, hpr] at hden
      | none =>
        simp only [den, he, hpr, hf, hb, hct, hs] at hden
        cases c with
        | loop c1 =>
          simp only at hden ⊢
          have s1 : subCode body (false :: q).reverse = some c1 := by rw [List.reverse_cons, subCode_snoc _ _ _ _ hs]; simp [subCode]
          refine arun_ok (hEnv i e) hd (hσ e) rfl hcut c1 s1 hst hden ?_
          intro x n' st' a' W' h3 h4 h5
          cases hbb : Nat.beq n' 0 with
          | true =>
            have := beqN hbb; subst this
            rw [hbb] at h5
            simp only [cond_true] at h5
            split at h5
            case h_2 => cases h5
            case h_1 k hk =>
              have h6 := h4.pack (hσ e) hk
              cases x <;> simp only [ecode, Option.some.injEq, reduceCtorEq] at h3
              case normal => exact ih2 i e fn body q ct (.loop c1) he hf hb hct hs C β0 k.as n o a' W' h5 h6
          | false =>
            rw [hbb] at h5
            simp only [cond_false] at h5
            split at h5
            case h_2 => cases h5
            case h_1 sh hsh =>
              split at h5
              case h_2 => cases h5
              case h_1 k hk =>
                simp only [Option.some.injEq, Prod.mk.injEq] at h5
                obtain ⟨rfl, rfl⟩ := h5
                have h6 : CutPost P G C (stays 0 e.ins.objs e.outs.objs) β0 fn.ntmps ct n' k.as x a' W' := ⟨h3, sh, hsh, h4.pack (hσ e) hk⟩
                cases x <;> simp only [ecode, Option.some.injEq, reduceCtorEq] at h3
                case normal => subst h3; simp at hbb
                case exit id => exact h6
                case ret => exact h6
        | block id c1 =>
          simp only at hden ⊢
          have s1 : subCode body (false :: q).reverse = some c1 := by rw [List.reverse_cons, subCode_snoc _ _ _ _ hs]; simp [subCode]
          refine wp_block (arun_ok (hEnv i e) hd (hσ e) rfl hcut c1 s1 hst hden ?_)
          intro x n' st' a' W' h3 h4 h5
          split at h5
          case h_2 => cases h5
          case h_1 sh hsh =>
            split at h5
            case h_2 => cases h5
            case h_1 k hk =>
              simp only [Option.some.injEq, Prod.mk.injEq] at h5
              obtain ⟨h7, rfl⟩ := h5
              have h6 := h4.pack (hσ e) hk
              rw [h7] at hsh
              cases x <;> simp only [ecode, Option.some.injEq, reduceCtorEq] at h3 <;> subst h3
              case normal =>
                have : n = 0 := by rw [← h7]; cases Nat.beq 0 (id + 2) <;> rfl
                subst this
                exact ⟨rfl, sh, hsh, h6⟩
              case exit id' =>
                simp only [Exit.inBlock]
                by_cases hee : id' = id
                · subst hee
                  rw [if_pos rfl]
                  have : n = 0 := by rw [← h7]; simp
                  subst this
                  exact ⟨rfl, sh, hsh, h6⟩
                · rw [if_neg hee]
                  have hb2 : Nat.beq (id' + 2) (id + 2) = false := by
                    cases hx : Nat.beq (id' + 2) (id + 2) with
                    | false => rfl
                    | true => have := beqN hx; omega
                  rw [hb2] at h7
                  simp only [cond_false] at h7
                  subst h7
                  exact ⟨rfl, sh, hsh, h6⟩
              case ret =>
                have hb2 : Nat.beq 1 (id + 2) = false := by
                  cases hx : Nat.beq 1 (id + 2) with
                  | false => rfl
                  | true => have := beqN hx; omega
                rw [hb2] at h7
                simp only [cond_false] at h7
                subst h7
                exact ⟨rfl, sh, hsh, h6⟩
        | _ => simp at hden
theorem sem_ok {P : Program} {G : Globs} {ents : List Entry} (hd : DrawOk P) (hen : ∀ (i : Nat) (e : Entry), ents[i]? = some e → Enters P e.fid) (hprim : ∀ (i : Nat) (e : Entry) F, ents[i]? = some e → e.prim = some F → FnOk P G e F) (n i : Nat) {e : Entry} (he : ents[i]? = some e) :
    FnOk P G e (sem P G ents n i) := (den_ok hd hen hprim n).1 i e he
end Go.Proofs.YtbejhhoakeapgaaVM
namespace Go.Proofs.YtbejhhoakeapgaaVM
open Go Go.RowKit
set_option linter.unusedVariables false
set_option linter.unusedSimpArgs false

section
variable {P : Program} {look look' : Nat → Option O}
mutual
theorem packT_congr : ∀ {d : D} {τ : TypeId} {t : T} {f : List Nat}, packT P look τ d = some (t, f) → (∀ n, n ∈ f → look' n = look n) → packT P look' τ d = some (t, f)
  | .int .., _, _, _, h, hl => by simpa only [packT] using h
  | .bool _, _, _, _, h, hl => by simpa only [packT] using h
  | .str _, _, _, _, h, hl => by simpa only [packT] using h
  | .row .., _, _, _, h, hl => by simpa only [packT] using h
  | .nils, _, _, _, h, hl => by simpa only [packT] using h
  | .emp, _, _, _, h, hl => by simpa only [packT] using h
  | .own n, τ, t, f, h, hl => by
    simp only [packT] at h ⊢
    split at h
    case h_2 => cases h
    case h_1 hr hlk =>
      have hf : f = [n] := by replace h := (bif_some h).2; cases h; rfl
      rw [hl n (by rw [hf]; simp), hr, hlk]
      exact h
  | .sub n lo len, τ, t, f, h, hl => by
    simp only [packT] at h ⊢
    split at h
    case h_2 => cases h
    case h_1 hr hlk =>
      have hf : f = [n] := by replace h := (bif_some h).2; cases h; rfl
      rw [hl n (by rw [hf]; simp), hr, hlk]
      exact h
  | .tree .., _, _, _, h, hl => by simpa only [packT] using h
  | .agg τ' ds, τ, t, f, h, hl => by
    simp only [packT] at h ⊢
    have hb := (bif_some h).1
    replace h := (bif_some h).2
    rw [hb]
    simp only [cond_true]
    split at h
    case h_2 => cases h
    case h_1 fs hfs =>
      split at h
      case h_2 => cases h
      case h_1 l g hts =>
        cases h
        rw [packTs_congr ds hts hl]
  | .tup _, _, _, _, h, hl => by simp [packT] at h
  | .undef, _, _, _, h, hl => by simp [packT] at h
  | .ptr .., _, _, _, h, hl => by simp [packT] at h
  | .pel .., _, _, _, h, hl => by simp [packT] at h
  | .oel .., _, _, _, h, hl => by simp [packT] at h
  | .nilp, _, _, _, h, hl => by simp [packT] at h
  | .nilf, _, _, _, h, hl => by simp [packT] at h
  | .nilm, _, _, _, h, hl => by simp [packT] at h
  | .fnv .., _, _, _, h, hl => by simp [packT] at h
  | .clo .., _, _, _, h, hl => by simp [packT] at h
  | .map _, _, _, _, h, hl => by simp [packT] at h
theorem packTs_congr : ∀ (ds : List D) {fs : List (TypeId × Nat)} {l : List T} {f : List Nat}, packTs P look fs ds = some (l, f) → (∀ n, n ∈ f → look' n = look n) → packTs P look' fs ds = some (l, f)
  | [], [], _, _, h, hl => by simpa only [packTs] using h
  | d :: ds, (τ, s) :: fs, l, f, h, hl => by
    simp only [packTs] at h ⊢
    split at h
    case h_2 => cases h
    case h_1 h1 h2 =>
      cases h
      rw [packT_congr h1 (fun n hn => hl n (List.mem_append_left _ hn)), packTs_congr ds h2 (fun n hn => hl n (List.mem_append_right _ hn))]
  | [], _ :: _, _, _, h, hl => by simp [packTs] at h
  | _ :: _, [], _, _, h, hl => by simp [packTs] at h
end
theorem packArgs_congr : ∀ (ds : List D) {τs : List TypeId} {l : List T} {f : List Nat}, packArgs P look τs ds = some (l, f) → (∀ n, n ∈ f → look' n = look n) → packArgs P look' τs ds = some (l, f)
  | [], [], _, _, h, hl => by simpa only [packArgs] using h
  | d :: ds, τ :: τs, l, f, h, hl => by
    simp only [packArgs] at h ⊢
    split at h
    case h_2 => cases h
    case h_1 h1 h2 =>
      cases h
      rw [packT_congr h1 (fun n hn => hl n (List.mem_append_left _ hn)), packArgs_congr ds h2 (fun n hn => hl n (List.mem_append_right _ hn))]
  | [], _ :: _, _, _, h, hl => by simp [packArgs] at h
  | _ :: _, [], _, _, h, hl => by simp [packArgs] at h
mutual
theorem packR_congr : ∀ (c : RM) {d : D} {k k' : Pk}, packR P look c d k = some k' → (∀ n, n ∈ k'.frz → look' n = look n) → packR P look' c d k = some k'
  | .v τ, d, k, k', h, hl => by
    unfold packR at h ⊢
    split at h
    case h_2 => cases h
    case h_1 t f hp =>
      cases h
      rw [packT_congr hp (fun n hn => hl n (List.mem_append_right _ hn))]
  | .fn ps rs, d, k, k', h, hl => by cases d <;> simpa only [packR] using h
  | .p j τ, d, k, k', h, hl => by
    cases d <;> try (simpa only [packR] using h)
    case ptr n τ' path => cases path <;> simpa only [packR] using h
  | .o j, d, k, k', h, hl => by cases d <;> simpa only [packR] using h
  | .m j, d, k, k', h, hl => by cases d <;> simpa only [packR] using h
  | .np, d, k, k', h, hl => by cases d <;> simpa only [packR] using h
  | .nl, d, k, k', h, hl => by cases d <;> simpa only [packR] using h
  | .nm, d, k, k', h, hl => by cases d <;> simpa only [packR] using h
  | .nf, d, k, k', h, hl => by cases d <;> simpa only [packR] using h
  | .clo f cs, d, k, k', h, hl => by
    cases d <;> simp only [packR] at h ⊢ <;> try (cases h; done)
    have hb := (bif_some h).1
    replace h := (bif_some h).2
    rw [hb]
    exact packRs_congr cs h hl
  | .agg τ cs, d, k, k', h, hl => by
    cases d <;> simp only [packR] at h ⊢ <;> try (cases h; done)
    case agg =>
      have hb := (bif_some h).1
      replace h := (bif_some h).2
      rw [hb]
      exact packRs_congr cs h hl
    case tree =>
      have hb := (bif_some h).1
      replace h := (bif_some h).2
      rw [hb]
      simp only [cond_true]
      split at h
      case h_2 => cases h
      case h_1 ds hds => exact packRs_congr cs h hl
theorem packRs_congr : ∀ (cs : List RM) {ds : List D} {k k' : Pk}, packRs P look cs ds k = some k' → (∀ n, n ∈ k'.frz → look' n = look n) → packRs P look' cs ds k = some k'
  | [], ds, k, k', h, hl => by cases ds <;> simpa only [packRs] using h
  | c :: cs, ds, k, k', h, hl => by
    cases ds <;> simp only [packRs] at h ⊢
    case nil => cases h
    case cons d ds =>
      split at h
      case h_2 => cases h
      case h_1 k1 h1 =>
        have le := (packRs_le cs h).1
        rw [packR_congr c h1 (fun n hn => hl n (le.frz n hn))]
        exact packRs_congr cs h hl
end
theorem packObjs_congr {st : Bool} : ∀ (l : List OM) {j : Nat} {k k' : Pk}, packObjs P st look j l k = some k' → (∀ n, n ∈ k'.frz → look' n = look n) → (∀ i n, sigma k'.σ i = some (some n) → look' n = look n) → packObjs P st look' j l k = some k'
  | [], j, k, k', h, hl, hs => by simpa only [packObjs] using h
  | .gone :: l, j, k, k', h, hl, hs => by simp only [packObjs] at h ⊢; exact packObjs_congr l h hl hs
  | .var τ c ro :: l, j, k, k', h, hl, hs => by
    have hh := (packObjs_le _ h).1.σ
    simp only [packObjs] at h ⊢
    split at h
    case h_2 => cases h
    case h_1 n hn =>
      rw [hs j n (hh _ _ hn)]
      split at h
      case h_2 => cases h
      case h_1 τ' d ro' hlk =>
        have hb := (bif_some h).1
        replace h := (bif_some h).2
        rw [hb]
        simp only [cond_true]
        split at h
        case h_2 => cases h
        case h_1 k1 h1 =>
          have le := (packObjs_le l h).1
          rw [packR_congr c h1 (fun n hn => hl n (le.frz n hn))]
          exact packObjs_congr l h hl hs
  | .row e :: l, j, k, k', h, hl, hs => by
    have hh := (packObjs_le _ h).1.σ
    simp only [packObjs] at h ⊢
    split at h
    case h_1 n hn =>
      rw [hs j n (hh _ _ hn)]
      split at h
      case h_2 => cases h
      case h_1 e' xs hlk =>
        have hb := (bif_some h).1
        replace h := (bif_some h).2
        rw [hb]
        exact packObjs_congr l h hl hs
    case h_2 =>
      split at h
      case h_2 => cases h
      case h_1 hc => exact packObjs_congr l h hl hs
    case h_3 => cases h
  | .map kt vt :: l, j, k, k', h, hl, hs => by
    have hh := (packObjs_le _ h).1.σ
    simp only [packObjs] at h ⊢
    split at h
    case h_2 => cases h
    case h_1 n hn =>
      rw [hs j n (hh _ _ hn)]
      split at h
      case h_2 => cases h
      case h_1 hlk =>
        have hb := (bif_some h).1
        replace h := (bif_some h).2
        rw [hb]
        exact packObjs_congr l h hl hs
variable {E : Env}
theorem cloTry_congr {caps : List D} {ps rs : List TypeId} {eid : Nat} {e : Entry} {g : List T → Option (List T)} {l : List Nat} (h : cloTry P E look caps ps rs eid e = some (g, l)) (hl : ∀ n, n ∈ l → look' n = look n) : cloTry P E look' caps ps rs eid e = some (g, l) := by
  unfold cloTry at h ⊢
  split at h
  case h_2 => cases h
  case h_1 cs hcs =>
  split at h
  case h_2 => cases h
  case h_1 k hk =>
  split at h
  case h_2 => cases h
  case h_1 k' hk' =>
  have hb := (bif_some h).1
  have h' := (bif_some h).2
  simp only [Option.some.injEq, Prod.mk.injEq] at h'
  obtain ⟨hg, hll⟩ := h'
  have hfe : k'.frz = [] := by
    have hb2 := hb
    simp only [Bool.and_eq_true] at hb2
    simpa using hb2.1.1.1.2
  have le := (packObjs_le _ hk').1
  have hfk : k.frz = [] := by
    cases hx : k.frz with
    | nil => rfl
    | cons n t => have := le.frz n (by rw [hx]; simp); rw [hfe] at this; simp at this
  rw [packRs_congr cs hk (fun n hn => by rw [hfk] at hn; simp at hn)]
  simp only []
  rw [packObjs_congr _ hk' (fun n hn => by rw [hfe] at hn; simp at hn) (fun i n hn => hl n (by rw [← hll]; exact namesOf_mem hn))]
  exact h
theorem cloFn_congr {f : FuncId} {caps : List D} {ps rs : List TypeId} {g : List T → Option (List T)} {l : List Nat} : ∀ {es : List Entry} {i : Nat}, cloFn P E look f caps ps rs es i = some (g, l) → (∀ n, n ∈ l → look' n = look n) → cloFn P E look' f caps ps rs es i = some (g, l)
  | [], i, h, hl => by simp [cloFn] at h
  | e :: es, i, h, hl => by
    simp only [cloFn] at h ⊢
    cases hb : (cloMatch e f caps ps rs && !boundB P f caps.length) with
    | true => rw [hb] at h; exact cloTry_congr (by simpa using h) hl
    | false => rw [hb] at h; exact cloFn_congr (by simpa using h) hl
theorem packTops_congr {st : Bool} : ∀ (cs : List RM) {ds : List D} {k k' : Pk}, packTops P st E look cs ds k = some k' → (∀ n, n ∈ k'.frz → look' n = look n) → (∀ n, n ∈ k'.held → look' n = look n) → packTops P st E look' cs ds k = some k'
  | [], ds, k, k', h, hl, hh => by cases ds <;> simpa only [packTops] using h
  | c :: cs, ds, k, k', h, hl, hh => by
    cases ds <;> simp only [packTops] at h ⊢
    case nil => cases h
    case cons d ds =>
      split at h
      case h_2 => cases h
      case h_1 k1 h1 =>
        have le := packTops_le cs h
        have : packTop P st E look' c d k = some k1 := by
          unfold packTop at h1 ⊢
          split at h1
          case h_1 ps rs f caps =>
            cases st with
            | true => cases h1
            | false =>
              simp only [cond_false] at h1 ⊢
              split at h1
              case h_2 => cases h1
              case h_1 g l hc =>
                cases h1
                rw [cloFn_congr hc (fun n hn => hh n (le.held n (List.mem_append_right _ hn)))]
          case h_2 hne =>
            exact packR_congr c h1 (fun n hn => hl n (le.frz n hn))
        rw [this]
        exact packTops_congr cs h hl hh
theorem packShape_congr {st : Bool} {σ0 : List (Nat × Option Nat)} {sh : Shape} {ds : List D} {k : Pk} (h : packShape P st E look σ0 sh ds = some k) (hl : ∀ n, n ∈ namesOf k.σ ++ k.frz ++ k.held → look' n = look n) : packShape P st E look' σ0 sh ds = some k := by
  unfold packShape at h ⊢
  split at h
  case h_2 => cases h
  case h_1 k0 h1 =>
    split at h
    case h_2 => cases h
    case h_1 k' h2 =>
      have hb := (bif_some h).1
      replace h := (bif_some h).2
      cases h
      have le := (packObjs_le _ h2).1
      rw [packTops_congr _ h1 (fun n hn => hl n (by simp [le.frz n hn])) (fun n hn => hl n (by simp [le.held n hn]))]
      simp only []
      rw [packObjs_congr _ h2 (fun n hn => hl n (by simp [hn])) (fun i n hn => hl n (by simp [namesOf_mem hn]))]
      simp only []
      have hlive : liveB look' k.held = liveB look k.held := by
        have : ∀ (l : List Nat), (∀ n, n ∈ l → look' n = look n) → liveB look' l = liveB look l := by
          intro l
          induction l with
          | nil => intro _; rfl
          | cons n l ih => intro h; simp only [liveB, h n (by simp), ih (fun m hm => h m (by simp [hm]))]
        exact this _ (fun n hn => hl n (by simp [hn]))
      rw [hlive, hb]
      rfl
end
end Go.Proofs.YtbejhhoakeapgaaVM
namespace Go.Proofs.YtbejhhoakeapgaaVM
open Go Go.RowKit
set_option linter.unusedVariables false
set_option linter.unusedSimpArgs false

section
variable {P : Program} {E : Env} {look look' : Nat → Option O} {nm : Nat} {ρ ρ' : Operand → D}
theorem map_rho {l : List Operand} (h : ∀ x, x ∈ l → ρ' x = ρ x) : l.map ρ' = l.map ρ := List.map_congr_left h
theorem evalParts_rho : ∀ {l : List (Nat × Operand)}, (∀ x, x ∈ l.map (·.2) → ρ' x = ρ x) → evalParts ρ' l = evalParts ρ l
  | [], h => rfl
  | (i, x) :: l, h => by simp only [evalParts]; rw [h x (by simp), evalParts_rho (fun y hy => h y (by simp only [List.map_cons]; exact List.mem_cons_of_mem _ hy))]
theorem loOf_rho {lo : Option Operand} (h : ∀ x, lo = some x → ρ' x = ρ x) : loOf ρ' lo = loOf ρ lo := by
  cases lo with
  | none => rfl
  | some x => simp only [loOf, h x rfl]
theorem hiOf_rho {hi : Option Operand} {d : Nat} (h : ∀ x, hi = some x → ρ' x = ρ x) : hiOf ρ' d hi = hiOf ρ d hi := by
  cases hi with
  | none => rfl
  | some x => simp only [hiOf, h x rfl]
theorem sliceD_rho {t : TypeId} {x : D} {lo hi mx : Option Operand} (h1 : ∀ x, lo = some x → ρ' x = ρ x) (h2 : ∀ x, hi = some x → ρ' x = ρ x) (h3 : ∀ x, mx = some x → ρ' x = ρ x) : sliceD P look ρ' t x lo hi mx = sliceD P look ρ t x lo hi mx := by
  have e1 := loOf_rho h1
  have e2 : ∀ d, hiOf ρ' d hi = hiOf ρ d hi := fun d => hiOf_rho h2
  have s1 : ∀ s, sliceStr ρ' s lo hi = sliceStr ρ s lo hi := fun s => by simp only [sliceStr, e1, e2]
  have s2 : ∀ e y, sliceRow look ρ' e lo hi mx y = sliceRow look ρ e lo hi mx y := fun e y => by
    cases mx with
    | none => cases y <;> simp only [sliceRow, e1, e2]
    | some m => cases y <;> simp only [sliceRow, e1, e2, h3 m rfl]
  have s3 : ∀ y, sliceArr P look ρ' t lo hi y = sliceArr P look ρ t lo hi y := fun y => by
    cases y <;> try rfl
    rename_i n τ p
    cases p <;> simp only [sliceArr, e1, e2]
  simp only [sliceD, s1, s2, s3]
theorem opv_rho {o : Oper} (h : ∀ x, x ∈ o.op.operands.toList → ρ' x = ρ x) : opv P E ρ' look nm o = opv P E ρ look nm o := by
  obtain ⟨dst, op, ty, pos, after, guard⟩ := o
  cases op <;> try rfl
  case move x => simp only [opv, h x (by simp [Op.operands])]
  case assign x => simp only [opv, h x (by simp [Op.operands])]
  case pick c a b => simp only [opv, h c (by simp [Op.operands]), h a (by simp [Op.operands]), h b (by simp [Op.operands])]
  case box τ x => simp only [opv, h x (by simp [Op.operands])]
  case build t ps => simp only [opv]; rw [evalParts_rho (fun x hx => h x (by simpa [Op.operands] using hx))]
  case buildSlice t n ps => simp only [opv]; rw [evalParts_rho (fun x hx => h x (by simpa [Op.operands] using hx))]
  case load t x => simp only [opv, h x (by simp [Op.operands])]
  case store t x y => simp only [opv, h x (by simp [Op.operands]), h y (by simp [Op.operands])]
  case nilCheck x => simp only [opv, h x (by simp [Op.operands])]
  case binOp p t x y yt => simp only [opv, h x (by simp [Op.operands]), h y (by simp [Op.operands])]
  case unOp p t x => simp only [opv, h x (by simp [Op.operands])]
  case convert s t x => simp only [opv, h x (by simp [Op.operands])]
  case makeFunc f first cap =>
    have : cap.toList.map ρ' = cap.toList.map ρ := map_rho (fun x hx => h x (by simp [Op.operands]; exact .inr (by simpa using hx)))
    have this2 : first.toList.map ρ' = first.toList.map ρ := map_rho (fun x hx => h x (by simp [Op.operands]; exact .inl (by simpa using hx)))
    cases f <;> simp only [opv, this, this2]
  case makeMap t r => cases r <;> rfl
  case slice t x lo hi mx =>
    simp only [opv, h x (by simp [Op.operands])]
    have e1 : sliceMv P look ρ' nm t (ρ x) hi = sliceMv P look ρ nm t (ρ x) hi := by
      unfold sliceMv
      simp only [hiOf_rho (d := 0) (hi := hi) (fun y hy => h y (by subst hy; simp [Op.operands]))]
    rw [e1]
    congr 1
    exact sliceD_rho (fun y hy => h y (by subst hy; simp [Op.operands])) (fun y hy => h y (by subst hy; simp [Op.operands])) (fun y hy => h y (by subst hy; simp [Op.operands]))
  case fieldAddr s x f => simp only [opv, h x (by simp [Op.operands])]
  case field s x f => simp only [opv, h x (by simp [Op.operands])]
  case indexAddr t x ix => simp only [opv, h x (by simp [Op.operands]), h ix (by simp [Op.operands])]
  case index t x ix => simp only [opv, h x (by simp [Op.operands]), h ix (by simp [Op.operands])]
  case extract t i => simp only [opv, h t (by simp [Op.operands])]
  case lookup t x ix ok => simp only [opv, h x (by simp [Op.operands]), h ix (by simp [Op.operands])]
  case mapUpdate t m k x => simp only [opv, h m (by simp [Op.operands]), h k (by simp [Op.operands]), h x (by simp [Op.operands])]
  case insert t m k x => simp only [opv, h m (by simp [Op.operands]), h k (by simp [Op.operands]), h x (by simp [Op.operands])]
  case mapEntry t m k => simp only [opv, h m (by simp [Op.operands]), h k (by simp [Op.operands])]
  case entryStore t m k x => simp only [opv, h m (by simp [Op.operands]), h k (by simp [Op.operands]), h x (by simp [Op.operands])]
  case call c =>
    have ha : ∀ x, x ∈ c.args.toList → ρ' x = ρ x := fun x hx => h x (by
      simp only [Op.operands, Call.operands]
      cases c.callee <;> simp <;> first | exact hx | exact .inr (by simpa using hx) | (simpa using hx))
    have hm := map_rho ha
    simp only [opv, hm]
    cases hc : c.callee with
    | builtin b => rfl
    | value f =>
      have : ρ' f = ρ f := h f (by simp only [Op.operands, Call.operands, hc]; simp)
      simp only [this]
    | invoke r n => rfl
variable {r : OR} {u : OpOut}
theorem outT_get {d : D} {n : Nat} (h : outT d n = some r) (hu : r.get = some u) : n ∈ u.touch := by
  simp only [outT, Option.some.injEq] at h; subst h
  simp only [OR.get, OR.run, Option.some.injEq] at hu; subst hu; simp
theorem one_of {x : Option O} {y : Option O} (h : x = y) : y = x := h.symm
theorem elemsD_look {d : D} {q : List T × TypeId × List Nat} (h : elemsD look d = some q) (hl : ∀ n, n ∈ q.2.2 → look' n = look n) : elemsD look' d = some q := by
  cases d <;> simp only [elemsD] at h ⊢ <;> try (first | exact h | cases h; done)
  case own n =>
    split at h
    case h_2 => cases h
    case h_1 hlk => cases h; rw [hl n (by simp), hlk]
  case sub n lo len =>
    split at h
    case h_2 => cases h
    case h_1 hlk => cases h; rw [hl n (by simp), hlk]
theorem convD_look {src dst : TypeId} {x : D} (h : convD P look nm src dst x = some r) (hu : r.get = some u) (hl : ∀ n, n ∈ u.touch → look' n = look n) : convD P look' nm src dst x = some r := by
  unfold convD at h ⊢
  split at h
  case h_1 => exact h
  case h_2 => exact h
  case h_3 =>
    rename_i y _ _ _ e _ _
    split at h
    case h_2 => cases h
    case h_1 =>
      cases hb : isNilRow y <;> rw [hb] at h
      · simp only [cond_false] at h ⊢
        split at h
        case h_2 => cases h
        case h_1 xs e' touch hel =>
          have h2 := (bif_some h).2
          cases h2
          simp only [OR.get, OR.run, Option.some.injEq] at hu
          subst hu
          rw [elemsD_look hel (fun n hn => hl n hn)]
          exact h
      · exact h
  case h_4 => exact h
  case h_5 => cases h
theorem loadD_look {τ : TypeId} {x : D} (h : loadD P look τ x = some r) (hu : r.get = some u) (hl : ∀ n, n ∈ u.touch → look' n = look n) : loadD P look' τ x = some r := by
  cases x <;> simp only [loadD] at h ⊢ <;> try (first | exact h | cases h; done)
  case ptr n τ' path =>
    split at h
    case h_2 => cases h
    case h_1 hlk =>
      have hn : n ∈ u.touch := by
        have h2 := (bif_some h).2
        split at h2
        case h_2 => cases h2
        case h_1 => exact outT_get (bif_some h2).2 hu
      rw [hl n hn, hlk]
      exact h
  case oel n e i path =>
    split at h
    case h_2 => cases h
    case h_1 hlk hty =>
      have hn : n ∈ u.touch := by
        have h2 := (bif_some h).2
        cases h2
        obtain ⟨_, rfl⟩ := need_get hu
        simp
      rw [hl n hn, hlk, hty]
      exact h
theorem storeD_look {τ : TypeId} {a x : D} (h : storeD P look τ a x = some r) (hu : r.get = some u) (hl : ∀ n, n ∈ u.touch → look' n = look n) : storeD P look' τ a x = some r := by
  cases a <;> simp only [storeD] at h ⊢ <;> try (first | exact h | cases h; done)
  case ptr n τ' path =>
    split at h
    case h_2 => cases h
    case h_1 hlk =>
      have hn : n ∈ u.touch := by
        have h2 := (bif_some h).2
        split at h2
        case h_2 => cases h2
        case h_1 =>
          have h3 := (bif_some h2).2
          cases h3
          simp only [OR.get, OR.run, Option.some.injEq] at hu
          subst hu
          simp
      rw [hl n hn, hlk]
      exact h
  case oel n e i path =>
    split at h
    case h_2 => cases h
    case h_1 e' xs τ' tx frz hlk hty hp =>
      split at h
      case h_2 => cases h
      case h_1 x' hst =>
        have h2 := (bif_some h).2
        have ht : n ∈ u.touch ∧ ∀ m, m ∈ frz → m ∈ u.touch := by
          cases h2
          obtain ⟨_, rfl⟩ := need_get hu
          exact ⟨by simp, fun m hm => by simp [hm]⟩
        rw [hl n ht.1, hlk, hty, packT_congr hp (fun m hm => hl m (ht.2 m hm))]
        simp only [hst]
        exact h
theorem indexAddrD_look {t : TypeId} {x ix : D} (h : indexAddrD P look t x ix = some r) (hu : r.get = some u) (hl : ∀ n, n ∈ u.touch → look' n = look n) : indexAddrD P look' t x ix = some r := by
  unfold indexAddrD at h ⊢
  split at h
  case h_2 => cases h
  case h_1 k i =>
    simp only at h ⊢
    split at h
    case h_1 e he =>
      cases x <;> simp only at h ⊢ <;> try (first | exact h | cases h; done)
      case own n =>
        split at h
        case h_2 => cases h
        case h_1 hlk =>
          have hn : n ∈ u.touch := by
            have h2 := (bif_some h).2
            cases h2
            obtain ⟨_, rfl⟩ := need_get hu
            simp
          rw [hl n hn, hlk]
          exact h
      case sub n lo len =>
        split at h
        case h_2 => cases h
        case h_1 hlk =>
          have hn : n ∈ u.touch := by
            have h2 := (bif_some h).2
            cases h2
            obtain ⟨_, rfl⟩ := need_get hu
            simp
          rw [hl n hn, hlk]
          exact h
    case h_2 he => exact h
    case h_3 => cases h
theorem lenD_look {x : D} (h : lenD look x = some r) (hu : r.get = some u) (hl : ∀ n, n ∈ u.touch → look' n = look n) : lenD look' x = some r := by
  cases x <;> simp only [lenD] at h ⊢ <;> try (first | exact h | cases h; done)
  case own n =>
    split at h
    case h_2 => cases h
    case h_1 hlk => rw [hl n (outT_get h hu), hlk]; exact h
  case map n =>
    split at h
    case h_2 => cases h
    case h_1 hlk => rw [hl n (outT_get h hu), hlk]; exact h
theorem sliceMv_look {t : TypeId} {x : D} {hi : Option Operand} (h : sliceMv P look ρ nm t x hi = some r) (hu : r.get = some u) (hl : ∀ n, n ∈ u.touch → look' n = look n) : sliceMv P look' ρ nm t x hi = some r := by
  unfold sliceMv at h ⊢
  split at h
  case h_2 => cases h
  case h_1 n e ht =>
    split at h
    case h_2 => cases h
    case h_1 e' xs hh hlk hhi =>
      have h2 := (bif_some h).2
      have hn : n ∈ u.touch := by
        cases h2
        obtain ⟨_, rfl⟩ := need_get hu
        simp
      simp only [ht, hl n hn, hlk, hhi]
      exact h
theorem lookupD_look {t : TypeId} {m ix : D} {ok : Bool} (h : lookupD P look t m ix ok = some r) (hu : r.get = some u) (hl : ∀ n, n ∈ u.touch → look' n = look n) : lookupD P look' t m ix ok = some r := by
  unfold lookupD at h ⊢
  split at h
  case h_2 => cases h
  case h_1 kt vt ht =>
    split at h
    case h_2 => cases h
    case h_1 eq z k f hk hz hp =>
      cases m <;> try (first | exact h | cases h; done)
      case map n =>
        simp only at h ⊢
        split at h
        case h_2 => cases h
        case h_1 kt' vt' es hlk =>
          rw [hl n (outT_get (bif_some h).2 hu), hlk]
          exact h
theorem mapUpdateD_look {t : TypeId} {m ix x : D} (h : mapUpdateD P look t m ix x = some r) (hu : r.get = some u) (hl : ∀ n, n ∈ u.touch → look' n = look n) : mapUpdateD P look' t m ix x = some r := by
  unfold mapUpdateD at h ⊢
  split at h
  case h_2 => cases h
  case h_1 kt vt n ht =>
    split at h
    case h_2 => cases h
    case h_1 eq k f tv frz kt' vt' es hk hp hpv hlk =>
      have h2 := (bif_some h).2
      have ht2 : n ∈ u.touch ∧ ∀ m, m ∈ frz → m ∈ u.touch := by
        cases h2
        simp only [OR.get, OR.run, Option.some.injEq] at hu
        subst hu
        exact ⟨by simp, fun m hm => by simp [hm]⟩
      simp only [ht, hk, hp, packT_congr hpv (fun m hm => hl m (ht2.2 m hm)), hl n ht2.1, hlk]
      exact h
theorem mapEntryD_look {t : TypeId} {m ix : D} (h : mapEntryD P look nm t m ix = some r) (hu : r.get = some u) (hl : ∀ n, n ∈ u.touch → look' n = look n) : mapEntryD P look' nm t m ix = some r := by
  unfold mapEntryD at h ⊢
  split at h
  case h_2 => cases h
  case h_1 kt vt n ht =>
    split at h
    case h_2 => cases h
    case h_1 eq z k f kt' vt' es hk hz hp hlk =>
      have h2 := (bif_some h).2
      have ht2 : n ∈ u.touch := by
        cases h2
        simp only [OR.get, OR.run, Option.some.injEq] at hu
        subst hu
        simp
      simp only [ht, hk, hz, hp, hl n ht2, hlk]
      exact h
theorem entryStoreD_look {t : TypeId} {m s x : D} (h : entryStoreD P look t m s x = some r) (hu : r.get = some u) (hl : ∀ n, n ∈ u.touch → look' n = look n) : entryStoreD P look' t m s x = some r := by
  unfold entryStoreD at h ⊢
  split at h
  case h_2 => cases h
  case h_1 kt vt n s ht =>
    split at h
    case h_2 => cases h
    case h_1 eq tv frz kt' vt' es s' k hk hpv hlk =>
      have h2 := (bif_some h).2
      have ht2 : n ∈ u.touch ∧ ∀ m, m ∈ frz → m ∈ u.touch := by
        cases h2
        simp only [OR.get, OR.run, Option.some.injEq] at hu
        subst hu
        exact ⟨by simp, fun m hm => by simp [hm]⟩
      simp only [ht, hk, packT_congr hpv (fun m hm => hl m (ht2.2 m hm)), hl n ht2.1, hlk]
      exact h
theorem deleteD_look {t : TypeId} {m ix : D} (h : deleteD P look t m ix = some r) (hu : r.get = some u) (hl : ∀ n, n ∈ u.touch → look' n = look n) : deleteD P look' t m ix = some r := by
  unfold deleteD at h ⊢
  split at h
  case h_2 => cases h
  case h_1 kt vt n ht =>
    split at h
    case h_2 => cases h
    case h_1 eq k f kt' vt' es hk hp hlk =>
      have h2 := (bif_some h).2
      have ht2 : n ∈ u.touch := by
        cases h2
        simp only [OR.get, OR.run, Option.some.injEq] at hu
        subst hu
        simp
      simp only [ht, hk, hp, hl n ht2, hlk]
      exact h
end
end Go.Proofs.YtbejhhoakeapgaaVM
namespace Go.Proofs.YtbejhhoakeapgaaVM
open Go Go.RowKit
set_option linter.unusedVariables false
set_option linter.unusedSimpArgs false

section
variable {P : Program} {E : Env} {look look' : Nat → Option O} {nm : Nat} {ρ : Operand → D} {r : OR} {u : OpOut}
theorem sliceNil_look {e : TypeId} {x : D} (h : sliceNil look e x = some r) (hu : r.get = some u) (hl : ∀ n, n ∈ u.touch → look' n = look n) : sliceNil look' e x = some r := by
  cases x <;> simp only [sliceNil] at h ⊢ <;> try (first | exact h | cases h; done)
  case own n =>
    split at h
    case h_2 => cases h
    case h_1 hlk => rw [hl n (outT_get (bif_some h).2 hu), hlk]; exact h
  case sub n lo len =>
    split at h
    case h_2 => cases h
    case h_1 hlk => rw [hl n (outT_get (bif_some h).2 hu), hlk]; exact h
theorem sliceRow_look {e : TypeId} {lo hi mx : Option Operand} {x : D} (h : sliceRow look ρ e lo hi mx x = some r) (hu : r.get = some u) (hl : ∀ n, n ∈ u.touch → look' n = look n) : sliceRow look' ρ e lo hi mx x = some r := by
  cases x <;> simp only [sliceRow] at h ⊢ <;> try (first | exact h | cases h; done)
  case own n =>
    split at h
    case h_2 => cases h
    case h_1 e' xs hlk =>
      have hn : n ∈ u.touch := by
        split at h
        case h_2 => cases h
        case h_1 =>
          have h2 := (bif_some h).2
          cases h2
          obtain ⟨_, rfl⟩ := need_get hu
          simp
      rw [hl n hn, hlk]
      exact h
  case sub n lo0 len =>
    split at h
    case h_2 => cases h
    case h_1 e' xs hlk =>
      have hn : n ∈ u.touch := by
        split at h
        case h_2 => cases h
        case h_1 =>
          have h2 := (bif_some h).2
          cases h2
          obtain ⟨_, rfl⟩ := need_get hu
          simp
      rw [hl n hn, hlk]
      exact h
theorem sliceArr_look {t : TypeId} {lo hi : Option Operand} {x : D} (h : sliceArr P look ρ t lo hi x = some r) (hu : r.get = some u) (hl : ∀ n, n ∈ u.touch → look' n = look n) : sliceArr P look' ρ t lo hi x = some r := by
  cases x <;> try (simp only [sliceArr] at h ⊢; cases h; done)
  case ptr n τ path =>
    cases path with
    | cons => simp [sliceArr] at h
    | nil =>
      simp only [sliceArr] at h ⊢
      split at h
      case h_2 => cases h
      case h_1 hn0 hlk =>
        have hn : n ∈ u.touch := by
          split at h
          case h_2 => cases h
          case h_1 =>
            have h2 := (bif_some h).2
            cases h2
            obtain ⟨_, rfl⟩ := need_get hu
            simp
        rw [hl n hn, hn0, hlk]
        exact h
theorem sliceD_look {t : TypeId} {x : D} {lo hi mx : Option Operand} (h : sliceD P look ρ t x lo hi mx = some r) (hu : r.get = some u) (hl : ∀ n, n ∈ u.touch → look' n = look n) : sliceD P look' ρ t x lo hi mx = some r := by
  unfold sliceD at h ⊢
  split at h
  case h_1 ht => exact h
  case h_2 e ht =>
    have hb := (bif_some h).1
    replace h := (bif_some h).2
    rw [hb]
    simp only [cond_true]
    cases hc : (zeroOp hi && zeroOp mx && (zeroOp lo || lo.isNone)) <;> rw [hc] at h
    · simp only [cond_false] at h ⊢; exact sliceRow_look h hu hl
    · simp only [cond_true] at h ⊢; exact sliceNil_look h hu hl
  case h_3 ht =>
    cases mx with
    | some m => cases h
    | none => exact sliceArr_look h hu hl
  case h_4 => cases h
theorem fullRow_look {e : TypeId} : ∀ {l : List (Nat × D)} {i : Nat} {q : List T × List Nat}, fullRow P look e i l = some q → (∀ n, n ∈ q.2 → look' n = look n) → fullRow P look' e i l = some q
  | [], i, q, h, hl => h
  | (j, d) :: l, i, q, h, hl => by
    simp only [fullRow] at h ⊢
    split at h
    case h_2 => cases h
    case h_1 t f r g h1 h2 =>
      have hb := (bif_some h).1
      replace h := (bif_some h).2
      cases h
      rw [packT_congr h1 (fun n hn => hl n (List.mem_append_left _ hn)), fullRow_look h2 (fun n hn => hl n (List.mem_append_right _ hn))]
      simp only [hb]; rfl
theorem buildSliceD_look {lit : Bool} {t : TypeId} {len : Nat} {ps : List (Nat × D)} (h : buildSliceD P lit look nm t len ps = some r) (hu : r.get = some u) (hl : ∀ n, n ∈ u.touch → look' n = look n) : buildSliceD P lit look' nm t len ps = some r := by
  unfold buildSliceD at h ⊢
  split at h
  case h_2 => cases h
  case h_1 e s hs =>
    split at h
    case h_2 => cases h
    case h_1 ts frz z h1 h2 =>
      have ht : ∀ m, m ∈ frz → m ∈ u.touch := by
        have h3 := (bif_some h).2
        cases h3
        simp only [OR.get, OR.run, Option.some.injEq] at hu
        subst hu
        cases lit <;> exact fun m hm => by simp [hm]
      rw [fullRow_look h1 (fun n hn => hl n (ht n hn)), h2]
      exact h
theorem addsD_look {e : TypeId} {d : D} {q : List T × List Nat} (h : addsD P look e d = some q) (hl : ∀ n, n ∈ q.2 → look' n = look n) : addsD P look' e d = some q := by
  cases d <;> simp only [addsD] at h ⊢ <;> try (first | exact h | cases h; done)
  case own n =>
    split at h
    case h_2 => cases h
    case h_1 hlk => have h2 := (bif_some h).2; cases h2; rw [hl n (by simp), hlk]; exact h
  case sub n lo len =>
    split at h
    case h_2 => cases h
    case h_1 hlk => have h2 := (bif_some h).2; cases h2; rw [hl n (by simp), hlk]; exact h
theorem appendTo_look {e : TypeId} {ys : List T} {tx : List Nat} {d : D} (h : appendTo look nm e ys tx d = some r) (hu : r.get = some u) (hl : ∀ n, n ∈ u.touch → look' n = look n) : appendTo look' nm e ys tx d = some r := by
  cases d <;> try (simp only [appendTo] at h ⊢; first | exact h | cases h; done)
  case row xs e' c => cases c <;> simp only [appendTo] at h ⊢ <;> exact h
  case own n =>
    simp only [appendTo] at h ⊢
    split at h
    case h_2 => cases h
    case h_1 hlk =>
      have hn : n ∈ u.touch := by
        have h2 := (bif_some h).2
        cases h2
        obtain ⟨_, rfl⟩ := need_get hu
        simp
      rw [hl n hn, hlk]; exact h
  case sub n lo len =>
    simp only [appendTo] at h ⊢
    split at h
    case h_2 => cases h
    case h_1 hlk =>
      have hn : n ∈ u.touch := by
        have h2 := (bif_some h).2
        cases h2
        obtain ⟨_, rfl⟩ := need_get hu
        simp
      rw [hl n hn, hlk]; exact h
theorem appendTo_tx {e : TypeId} {ys : List T} {tx : List Nat} {d : D} (h : appendTo look nm e ys tx d = some r) (hu : r.get = some u) : ∀ n, n ∈ tx → n ∈ u.touch := by
  intro m hm
  cases d <;> try (simp only [appendTo] at h; cases h; done)
  case nils => simp only [appendTo, Option.some.injEq] at h; subst h; obtain ⟨_, rfl⟩ := need_get hu; simp [hm]
  case emp => simp only [appendTo, Option.some.injEq] at h; subst h; obtain ⟨_, rfl⟩ := need_get hu; simp [hm]
  case row xs e' c =>
    cases c <;> simp only [appendTo] at h
    · cases h
    · have h2 := (bif_some h).2
      cases h2
      obtain ⟨_, rfl⟩ := need_get hu
      exact hm
  case own n =>
    simp only [appendTo] at h
    split at h
    case h_2 => cases h
    case h_1 =>
      have h2 := (bif_some h).2
      cases h2
      obtain ⟨_, rfl⟩ := need_get hu
      simp [hm]
  case sub n lo len =>
    simp only [appendTo] at h
    split at h
    case h_2 => cases h
    case h_1 =>
      have h2 := (bif_some h).2
      cases h2
      obtain ⟨_, rfl⟩ := need_get hu
      simp [hm]
theorem appendD_look {t t2 : TypeId} {s x : D} (h : appendD P look nm t t2 s x = some r) (hu : r.get = some u) (hl : ∀ n, n ∈ u.touch → look' n = look n) : appendD P look' nm t t2 s x = some r := by
  unfold appendD at h ⊢
  split at h
  case h_2 => cases h
  case h_1 e sz hs =>
    split at h
    case h_2 => cases h
    case h_1 i ys tx z h1 h2 h3 =>
      have hb := (bif_some h).1
      have h' := (bif_some h).2
      rw [h1, addsD_look h2 (fun n hn => hl n (appendTo_tx h' hu n hn)), h3]
      simp only [hb, cond_true]
      exact appendTo_look h' hu hl
theorem builtinD_look {b : Builtin} {ts : List TypeId} {args : List D} (h : builtinD P look nm b ts args = some r) (hu : r.get = some u) (hl : ∀ n, n ∈ u.touch → look' n = look n) : builtinD P look' nm b ts args = some r := by
  unfold builtinD at h ⊢
  split at h
  case h_1 t x =>
    have hb := (bif_some h).1
    replace h := (bif_some h).2
    simp only [hb, cond_true]
    exact lenD_look h hu hl
  case h_2 => exact h
  case h_3 => exact h
  case h_4 t t2 s x => exact appendD_look h hu hl
  case h_5 t ts m k => exact deleteD_look h hu hl
  case h_6 => cases h
theorem callTry_look {args : List D} {eid : Nat} {e : Entry} (h : callTry P E look nm args eid e = some r) (hu : r.get = some u) (hl : ∀ n, n ∈ u.touch → look' n = look n) : callTry P E look' nm args eid e = some r := by
  unfold callTry at h ⊢
  split at h
  case h_2 => cases h
  case h_1 k hk =>
    have ht : ∀ n, n ∈ namesOf k.σ ++ k.frz ++ k.held → n ∈ u.touch := by
      dsimp only at h
      split at h
      case h_2 => cases h
      case h_1 =>
        have h2 := (bif_some h).2
        simp only [Option.some.injEq] at h2
        subst h2
        simp only [OR.get, OR.run] at hu
        cases hc : E.call eid k.as with
        | none => rw [hc] at hu; cases hu
        | some o' =>
          rw [hc] at hu
          simp only [Option.bind_some, Option.some.injEq] at hu
          subst hu
          exact fun n hn => List.mem_append_left _ hn
    rw [packShape_congr hk (fun n hn => hl n (ht n hn))]
    exact h
mutual
def ptrsD : D → List Nat
  | .ptr n _ [] => [n]
  | .clo _ ds => ptrsDs ds
  | _ => []
def ptrsDs : List D → List Nat
  | [] => []
  | d :: l => ptrsD d ++ ptrsDs l
end
mutual
theorem packR_ptr : ∀ (c : RM) {d : D} {k k' : Pk}, packR P look c d k = some k' → matchR c d = true → ∀ n, n ∈ ptrsD d → ∃ j, sigma k'.σ j = some (some n)
  | .p j τ', d, k, k', h, hm, n, hn => by
    cases d <;> try (simp [ptrsD] at hn; done)
    case clo => simp [matchR] at hm
    case ptr m τ p =>
      cases p with
      | cons => simp [ptrsD] at hn
      | nil =>
        simp [ptrsD] at hn
        subst hn
        unfold packR at h
        replace h := (bif_some h).2
        split at h
        case h_2 => cases h
        case h_1 σ hb => cases h; exact ⟨j, (bindN_spec hb).1⟩
  | .clo f cs, d, k, k', h, hm, n, hn => by
    cases d <;> try (simp [ptrsD] at hn; done)
    case ptr => simp [matchR] at hm
    case clo f' ds =>
      simp only [matchR, Bool.and_eq_true] at hm
      simp only [packR] at h
      exact packRs_ptr cs (bif_some h).2 hm.2 n (by simpa [ptrsD] using hn)
  | .v τ, d, k, k', h, hm, n, hn => by cases d <;> first | (simp [matchR] at hm; done) | (simp [ptrsD] at hn; done)
  | .fn ps rs, d, k, k', h, hm, n, hn => by
    cases d <;> try (first | (simp [matchR] at hm; done) | (simp [ptrsD] at hn; done))
    case clo => simp [packR] at h
  | .o j, d, k, k', h, hm, n, hn => by cases d <;> first | (simp [matchR] at hm; done) | (simp [ptrsD] at hn; done)
  | .m j, d, k, k', h, hm, n, hn => by cases d <;> first | (simp [matchR] at hm; done) | (simp [ptrsD] at hn; done)
  | .np, d, k, k', h, hm, n, hn => by cases d <;> first | (simp [matchR] at hm; done) | (simp [ptrsD] at hn; done)
  | .nl, d, k, k', h, hm, n, hn => by cases d <;> first | (simp [matchR] at hm; done) | (simp [ptrsD] at hn; done)
  | .nm, d, k, k', h, hm, n, hn => by cases d <;> first | (simp [matchR] at hm; done) | (simp [ptrsD] at hn; done)
  | .nf, d, k, k', h, hm, n, hn => by cases d <;> first | (simp [matchR] at hm; done) | (simp [ptrsD] at hn; done)
  | .agg τ cs, d, k, k', h, hm, n, hn => by cases d <;> first | (simp [matchR] at hm; done) | (simp [ptrsD] at hn; done)
theorem packRs_ptr : ∀ (cs : List RM) {ds : List D} {k k' : Pk}, packRs P look cs ds k = some k' → matchRs cs ds = true → ∀ n, n ∈ ptrsDs ds → ∃ j, sigma k'.σ j = some (some n)
  | [], ds, k, k', h, hm, n, hn => by cases ds <;> first | (simp [ptrsDs] at hn; done) | (simp [matchRs] at hm; done)
  | c :: cs, ds, k, k', h, hm, n, hn => by
    cases ds with
    | nil => simp [ptrsDs] at hn
    | cons d ds =>
      simp only [matchRs, Bool.and_eq_true] at hm
      simp only [packRs] at h
      split at h
      case h_2 => cases h
      case h_1 k1 h1 =>
        simp only [ptrsDs, List.mem_append] at hn
        rcases hn with hn | hn
        · obtain ⟨j, hj⟩ := packR_ptr c h1 hm.1 n hn
          exact ⟨j, (packRs_le cs h).1.σ j _ hj⟩
        · exact packRs_ptr cs h hm.2 n hn
end
theorem cloFn_ptr {f : FuncId} {caps : List D} {ps rs : List TypeId} {g : List T → Option (List T)} {l : List Nat} : ∀ {es : List Entry} {i : Nat}, cloFn P E look f caps ps rs es i = some (g, l) → ∀ n, n ∈ ptrsDs caps → n ∈ l
  | [], i, h, n, hn => by simp [cloFn] at h
  | e :: es, i, h, n, hn => by
    simp only [cloFn] at h
    cases hb : (cloMatch e f caps ps rs && !boundB P f caps.length) with
    | false => rw [hb] at h; exact cloFn_ptr (by simpa using h) n hn
    | true =>
      rw [hb] at h
      simp only [cond_true] at h
      unfold cloMatch at hb
      unfold cloTry at h
      split at h
      case h_2 => cases h
      case h_1 cs hcs =>
        rw [hcs] at hb
        simp only [Bool.and_eq_true] at hb
        split at h
        case h_2 => cases h
        case h_1 k hk =>
          obtain ⟨j, hj⟩ := packRs_ptr cs hk hb.1.2 n hn
          split at h
          case h_2 => cases h
          case h_1 k' hk' =>
            have h2 := (bif_some h).2
            simp only [Option.some.injEq, Prod.mk.injEq] at h2
            rw [← h2.2]
            exact namesOf_mem ((packObjs_le _ hk').1.σ j _ hj)
theorem packTops_ptr {st : Bool} : ∀ (cs : List RM) {ds : List D} {k k' : Pk}, packTops P st E look cs ds k = some k' → matchRs cs ds = true → ∀ n, n ∈ ptrsDs ds → (∃ j, sigma k'.σ j = some (some n)) ∨ n ∈ k'.held
  | [], ds, k, k', h, hm, n, hn => by cases ds <;> first | (simp [ptrsDs] at hn; done) | (simp [matchRs] at hm; done)
  | c :: cs, ds, k, k', h, hm, n, hn => by
    cases ds with
    | nil => simp [ptrsDs] at hn
    | cons d ds =>
      simp only [matchRs, Bool.and_eq_true] at hm
      simp only [packTops] at h
      split at h
      case h_2 => cases h
      case h_1 k1 h1 =>
        simp only [ptrsDs, List.mem_append] at hn
        have hle := packTops_le cs h
        rcases hn with hn | hn
        · rcases packTop_cases h1 with h2 | ⟨ps, rs, f, caps, g, l, rfl, rfl, _, hc, rfl⟩
          · obtain ⟨j, hj⟩ := packR_ptr c h2 hm.1 n hn
            exact .inl ⟨j, hle.σ j _ hj⟩
          · exact .inr (hle.held n (List.mem_append_right _ (cloFn_ptr hc n (by simpa [ptrsD] using hn))))
        · exact packTops_ptr cs h hm.2 n hn
theorem callTry_ptr {args : List D} {eid : Nat} {e : Entry} (h : callTry P E look nm args eid e = some r) (hu : r.get = some u) (hm : matchRs (regRMs e.ins) args = true) : ∀ n, n ∈ ptrsDs args → n ∈ u.touch := by
  intro n hn
  unfold callTry at h
  split at h
  case h_2 => cases h
  case h_1 k hk =>
    have hs : n ∈ namesOf k.σ ∨ n ∈ k.held := by
      unfold packShape at hk
      split at hk
      case h_2 => cases hk
      case h_1 k1 h1 =>
        have hj := packTops_ptr _ h1 hm n hn
        split at hk
        case h_2 => cases hk
        case h_1 k2 h2 =>
          have h3 := (bif_some hk).2
          simp only [Option.some.injEq] at h3
          subst h3
          have hle := packObjs_le _ h2
          rcases hj with ⟨j, hj⟩ | hj
          · exact .inl (namesOf_mem (hle.1.σ j _ hj))
          · exact .inr (by rw [hle.2]; exact hj)
    dsimp only at h
    split at h
    case h_2 => cases h
    case h_1 =>
      have h2 := (bif_some h).2
      simp only [Option.some.injEq] at h2
      subst h2
      simp only [OR.get, OR.run] at hu
      cases hc : E.call eid k.as with
      | none => rw [hc] at hu; cases hu
      | some o' =>
        rw [hc] at hu
        simp only [Option.bind_some, Option.some.injEq] at hu
        subst hu
        rcases hs with hs | hs
        · exact List.mem_append_left _ (List.mem_append_left _ (List.mem_append_left _ hs))
        · exact List.mem_append_left _ (List.mem_append_right _ hs)
theorem callD_ptr {f : FuncId} {args : List D} : ∀ {es : List Entry} {i : Nat}, callD P E look nm f args es i = some r → r.get = some u → ∀ n, n ∈ ptrsDs args → n ∈ u.touch
  | [], i, h, hu => by simp [callD] at h
  | e :: es, i, h, hu => by
    simp only [callD] at h
    cases hb : (Nat.beq e.fid f && matchRs (regRMs e.ins) args && matchOs look e.ins.objs (regRMs e.ins) args) with
    | true =>
      rw [hb] at h
      simp only [cond_true] at h
      simp only [Bool.and_eq_true] at hb
      exact callTry_ptr h hu hb.1.2
    | false => rw [hb] at h; simp only [cond_false] at h; exact callD_ptr h hu
mutual
theorem matchO_congr {objs : List OM} : ∀ (c : RM) (d : D), (∀ n, n ∈ ptrsD d → look' n = look n) → matchO look' objs c d = matchO look objs c d
  | .p j τ, d, h => by
    cases d <;> try rfl
    case ptr n τ' p =>
      cases p with
      | nil => simp only [matchO]; rw [h n (by simp [ptrsD])]
      | cons q p => simp only [matchO]
  | .clo f cs, d, h => by
    cases d <;> try rfl
    case clo f' ds =>
      simp only [matchO]
      exact matchOs_congr cs ds fun n hn => h n (by simpa [ptrsD] using hn)
  | .v τ, d, h => by simp only [matchO]
  | .fn ps rs, d, h => by simp only [matchO]
  | .o j, d, h => by simp only [matchO]
  | .m j, d, h => by simp only [matchO]
  | .np, d, h => by simp only [matchO]
  | .nl, d, h => by simp only [matchO]
  | .nm, d, h => by simp only [matchO]
  | .nf, d, h => by simp only [matchO]
  | .agg τ cs, d, h => by simp only [matchO]
theorem matchOs_congr {objs : List OM} : ∀ (cs : List RM) (ds : List D), (∀ n, n ∈ ptrsDs ds → look' n = look n) → matchOs look' objs cs ds = matchOs look objs cs ds
  | [], ds, h => by simp only [matchOs]
  | c :: cs, [], h => by simp only [matchOs]
  | c :: cs, d :: ds, h => by
    simp only [matchOs]
    rw [matchO_congr c d fun n hn => h n (by simp [ptrsDs, hn]), matchOs_congr cs ds fun n hn => h n (by simp [ptrsDs, hn])]
end
theorem callD_look {f : FuncId} {args : List D} : ∀ {es : List Entry} {i : Nat}, callD P E look nm f args es i = some r → r.get = some u → (∀ n, n ∈ u.touch → look' n = look n) → callD P E look' nm f args es i = some r
  | [], i, h, hu, hl => by simp [callD] at h
  | e :: es, i, h, hu, hl => by
    have hm := matchOs_congr (look := look) (look' := look') (objs := e.ins.objs) (regRMs e.ins) args fun n hn => hl n (callD_ptr h hu n hn)
    simp only [callD] at h ⊢
    rw [hm]
    cases hb : (Nat.beq e.fid f && matchRs (regRMs e.ins) args && matchOs look e.ins.objs (regRMs e.ins) args) with
    | true => rw [hb] at h; simp only [cond_true] at h ⊢; exact callTry_look h hu hl
    | false => rw [hb] at h; simp only [cond_false] at h ⊢; exact callD_look h hu hl
theorem opv_look {o : Oper} (h : opv P E ρ look nm o = some r) (hu : r.get = some u) (hl : ∀ n, n ∈ u.touch → look' n = look n) : opv P E ρ look' nm o = some r := by
  obtain ⟨dst, op, ty, pos, after, guard⟩ := o
  cases op <;> try exact h
  case buildSlice t n ps => exact buildSliceD_look h hu hl
  case load t x => exact loadD_look h hu hl
  case store t x y => exact storeD_look h hu hl
  case convert s t x => exact convD_look h hu hl
  case makeFunc f first cap => cases f <;> exact h
  case makeMap t r0 => cases r0 <;> exact h
  case slice t x lo hi mx =>
    simp only [opv] at h ⊢
    cases hmv : (E.mv && mvB P t (ρ x) lo hi mx) with
    | true => rw [hmv] at h; exact sliceMv_look h hu hl
    | false => rw [hmv] at h; exact sliceD_look h hu hl
  case indexAddr t x ix => exact indexAddrD_look h hu hl
  case lookup t x ix ok => exact lookupD_look h hu hl
  case mapUpdate t m k x => exact mapUpdateD_look h hu hl
  case insert t m k x => exact mapUpdateD_look h hu hl
  case mapEntry t m k => exact mapEntryD_look h hu hl
  case entryStore t m s x => exact entryStoreD_look h hu hl
  case call c =>
    simp only [opv] at h ⊢
    split at h
    case h_1 b hc => exact builtinD_look h hu hl
    case h_2 f hc =>
      split at h
      case h_1 g caps hf => rw [(bif_some h).1]; exact callD_look (bif_some h).2 hu hl
      case h_2 g ps rs hf =>
        split at h
        case h_2 => cases h
        case h_1 ts frz hp =>
          have ht : ∀ n, n ∈ frz → n ∈ u.touch := by
            cases h
            simp only [OR.get, OR.run] at hu
            cases hg : g ts with
            | none => rw [hg] at hu; cases hu
            | some o' =>
              rw [hg] at hu
              simp only [Option.bind_some, Option.some.injEq] at hu
              subst hu
              exact fun n hn => hn
          rw [packArgs_congr _ hp (fun n hn => hl n (ht n hn))]
          exact h
      case h_3 => cases h
    case h_3 => cases h
end
end Go.Proofs.YtbejhhoakeapgaaVM
namespace Go.Proofs.YtbejhhoakeapgaaVM
open Go Go.RowKit
set_option linter.unusedVariables false
set_option linter.unusedSimpArgs false

def GYes (all : List Oper) (regs : Regs) (o : Oper) : Prop := o.guard = none ∨ ∃ j want t, o.guard = some (j, want) ∧ dstAt all j = some t ∧ regs t = .bool want
def GNo (all : List Oper) (regs : Regs) (o : Oper) : Prop := ∃ j want t, o.guard = some (j, want) ∧ dstAt all j = some t ∧ (regs t = .bool (!want) ∨ regs t = .tup [])
def outD : Option OpOut → D
  | some u => u.d
  | none => .tup []
def outU : Option OpOut → List (Nat × Option O)
  | some u => u.upd
  | none => []
def outT' : Option OpOut → List Nat
  | some u => u.touch
  | none => []
def outN : Option OpOut → Nat
  | some u => u.fresh + 1
  | none => 0
def didOf (x : Option OpOut) : Did := ⟨outT' x, firstsOf (outU x)⟩
section
variable (P : Program) (E : Env) (all : List Oper) (N : Nat)
inductive DTrace : List Oper → Regs → Look → Nat → List (Option OpOut) → Regs → Look → Prop
  | nil {regs : Regs} {look : Look} {nm : Nat} : DTrace [] regs look nm [] regs look
  | done {o : Oper} {l : List Oper} {regs : Regs} {look : Look} {nm : Nat} {r : OR} {u : OpOut} {us : List (Option OpOut)} {regs' : Regs} {look' : Look} : GYes all regs o → opv P E (evalD E.G regs) look nm o = some r → r.get = some u →
      DTrace l (upd1 N regs o.dst u.d) (updF look u.upd) (nm + u.fresh + 1) us regs' look' → DTrace (o :: l) regs look nm (some u :: us) regs' look'
  | skip {o : Oper} {l : List Oper} {regs : Regs} {look : Look} {nm : Nat} {us : List (Option OpOut)} {regs' : Regs} {look' : Look} : GNo all regs o → DTrace l (upd1 N regs o.dst (.tup [])) look nm us regs' look' → DTrace (o :: l) regs look nm (none :: us) regs' look'
end
section
variable {P : Program} {E : Env} {all : List Oper} {N : Nat}
theorem lit_regs {st : Store} {t : Nat} {b : Bool} (hb : regsOf st.regs t = .bool b) : regsOf (st.lit (.tmp t) b).regs = regsOf st.regs := by
  funext i
  simp only [Store.lit, regsOf_putL]
  split
  · rename_i he; rw [← he.1, hb]
  · rfl
theorem guarded_trace {o : Oper} {st : Store} {R : Type} {yes no : Store → Option R} {x : R} (hg : guarded all o st yes no = some x) :
    ∃ st', regsOf st'.regs = regsOf st.regs ∧ st'.objs = st.objs ∧ st'.next = st.next ∧ st'.regs.length = st.regs.length ∧ ((GYes all (regsOf st.regs) o ∧ yes st' = some x) ∨ (GNo all (regsOf st.regs) o ∧ no (st'.put o.dst (.tup [])) = some x)) := by
  unfold guarded at hg
  split at hg
  case h_1 hn => exact ⟨st, rfl, rfl, rfl, rfl, .inl ⟨.inl hn, hg⟩⟩
  case h_2 j want hgd =>
    split at hg
    case h_2 => cases hg
    case h_1 t ht =>
      split at hg
      case h_3 => cases hg
      case h_2 hb => exact ⟨_, rfl, rfl, rfl, rfl, .inr ⟨⟨j, want, t, hgd, ht, .inr hb⟩, hg⟩⟩
      case h_1 b hb =>
        cases hbw : b == want with
        | true =>
          rw [hbw] at hg
          have : b = want := by simpa using hbw
          subst this
          exact ⟨_, lit_regs hb, rfl, rfl, by simp [Store.lit, putL_len], .inl ⟨.inr ⟨j, b, t, hgd, ht, hb⟩, hg⟩⟩
        | false =>
          rw [hbw] at hg
          have : b = !want := by cases b <;> cases want <;> simp_all
          subst this
          exact ⟨_, lit_regs hb, rfl, rfl, by simp [Store.lit, putL_len], .inr ⟨⟨j, want, t, hgd, ht, .inl hb⟩, hg⟩⟩
theorem drawRun_trace {R : Type} {k : List Did → Store → Option R} {x : R} : ∀ (l : List Oper) {st : Store} {tr : List Did}, drawRun P E all l st tr k = some x → st.regs.length = N →
    ∃ us st', DTrace P E all N l (regsOf st.regs) (lookL st.objs) st.next us (regsOf st'.regs) (lookL st'.objs) ∧ st'.regs.length = N ∧ us.length = l.length ∧ k (tr ++ us.map didOf) st' = some x ∧ st'.next = st.next + (us.map outN).sum
  | [], st, tr, h, hN => ⟨[], st, .nil, hN, rfl, by simpa [drawRun] using h, by simp⟩
  | o :: l, st, tr, h, hN => by
    simp only [drawRun, forceSt_eq] at h
    obtain ⟨st1, e1, e2, e3, e4, hc⟩ := guarded_trace h
    rcases hc with ⟨hg, hc⟩ | ⟨hg, hc⟩
    · unfold runOp at hc
      split at hc
      case h_2 => cases hc
      case h_1 r hr =>
        obtain ⟨u, h1, h2⟩ := OR.run_get hc
        obtain ⟨us, st', q1, q2, q3, q4, q5⟩ := drawRun_trace l h2 (by simp only [Store.step, put_regs_len]; omega)
        rw [e1, e2, e3] at hr
        have hst : regsOf (st1.step o.dst u).regs = upd1 N (regsOf st.regs) o.dst u.d := by simp only [Store.step]; rw [regsOf_put (N := N) (by omega), e1]
        have hsl : lookL (st1.step o.dst u).objs = updF (lookL st.objs) u.upd := by simp only [Store.step, lookL_upd, e2]
        have hsn : (st1.step o.dst u).next = st.next + u.fresh + 1 := by simp only [Store.step, e3]
        rw [hst, hsl, hsn] at q1
        refine ⟨some u :: us, st', .done hg hr h1 q1, q2, by simp [q3], ?_, ?_⟩
        · simpa [didOf, outT', outU] using q4
        · rw [q5, hsn]; simp [outN]; omega
    · obtain ⟨us, st', q1, q2, q3, q4, q5⟩ := drawRun_trace l hc (by rw [put_regs_len]; omega)
      rw [regsOf_put (N := N) (by omega), e1] at q1
      have ho : (st1.put o.dst (.tup [])).objs = st.objs := by cases o.dst <;> exact e2
      have hn : (st1.put o.dst (.tup [])).next = st.next := by cases o.dst <;> exact e3
      rw [ho, hn] at q1
      refine ⟨none :: us, st', .skip hg q1, q2, by simp [q3], ?_, ?_⟩
      · simpa [didOf, outT', outU, firstsOf] using q4
      · rw [q5, hn]; simp [outN]

section
variable (N : Nat) (ops : List Oper) (us : List (Option OpOut)) (regs0 : Regs) (look0 : Look)
def usAt (i : Nat) : Option OpOut := (us[i]?).getD none
def Rsel (sel : Nat → Bool) : Nat → Regs
  | 0 => regs0
  | i + 1 => if sel i then upd1 N (Rsel sel i) (dstAt ops i) (outD (usAt us i)) else Rsel sel i
def Ksel (sel : Nat → Bool) : Nat → Look
  | 0 => look0
  | i + 1 => if sel i then updF (Ksel sel i) (outU (usAt us i)) else Ksel sel i
end
theorem Rsel_congr {ops : List Oper} {us : List (Option OpOut)} {regs0 : Regs} {sel sel' : Nat → Bool} {t : Nat} : ∀ (m : Nat), (∀ j, j < m → dstAt ops j = some t → sel j = sel' j) → Rsel N ops us regs0 sel m t = Rsel N ops us regs0 sel' m t
  | 0, h => rfl
  | m + 1, h => by
    have ih := Rsel_congr (us := us) (regs0 := regs0) m (fun j hj => h j (by omega))
    simp only [Rsel]
    by_cases hd : dstAt ops m = some t
    · rw [h m (by omega) hd]
      split
      · unfold upd1; rw [ih]
      · exact ih
    · have e1 : ∀ (r : Regs) (d : D), upd1 N r (dstAt ops m) d t = r t := fun r d => by unfold upd1; rw [if_neg (fun hx => hd hx.1)]
      split <;> split <;> simp only [e1, ih]
theorem updF_other : ∀ (u : List (Nat × Option O)) (look : Look) (n : Nat), n ∉ firstsOf u → updF look u n = look n
  | [], look, n, h => rfl
  | (m, o) :: u, look, n, h => by
    simp only [firstsOf, List.mem_cons, not_or] at h
    simp only [updF]
    rw [updF_other u _ n h.2]
    unfold setF
    rw [if_neg h.1]
theorem updF_at (u : List (Nat × Option O)) : ∀ (look look' : Look) (n : Nat), look n = look' n → updF look u n = updF look' u n := by
  induction u with
  | nil => intro look look' n h; exact h
  | cons x u ih =>
    intro look look' n h
    obtain ⟨m, o⟩ := x
    simp only [updF]
    refine ih _ _ n ?_
    unfold setF
    split <;> first | rfl | exact h
theorem Ksel_congr {us : List (Option OpOut)} {look0 : Look} {sel sel' : Nat → Bool} {n : Nat} : ∀ (m : Nat), (∀ j, j < m → n ∈ firstsOf (outU (usAt us j)) → sel j = sel' j) → Ksel us look0 sel m n = Ksel us look0 sel' m n
  | 0, h => rfl
  | m + 1, h => by
    have ih := Ksel_congr (us := us) (look0 := look0) m (fun j hj => h j (by omega))
    simp only [Ksel]
    by_cases hd : n ∈ firstsOf (outU (usAt us m))
    · rw [h m (by omega) hd]
      split
      · exact updF_at _ _ _ _ ih
      · exact ih
    · have e1 : ∀ (r : Look), updF r (outU (usAt us m)) n = r n := fun r => updF_other _ r n hd
      split <;> split <;> simp only [e1, ih]
theorem Rsel_cut {ops : List Oper} {us : List (Option OpOut)} {regs0 : Regs} {i : Nat} : ∀ (m : Nat), i ≤ m → Rsel N ops us regs0 (fun j => decide (j < i)) m = Rsel N ops us regs0 (fun _ => true) i
  | 0, h => by have : i = 0 := by omega
               subst this; rfl
  | m + 1, h => by
    by_cases he : i = m + 1
    · subst he
      have : ∀ q, q ≤ m + 1 → Rsel N ops us regs0 (fun j => decide (j < m + 1)) q = Rsel N ops us regs0 (fun _ => true) q := by
        intro q
        induction q with
        | zero => intro _; rfl
        | succ q ih => intro hq; simp only [Rsel, ih (by omega)]; simp [show q < m + 1 by omega]
      exact this _ (Nat.le_refl _)
    · simp only [Rsel]
      rw [if_neg (by simp; omega)]
      exact Rsel_cut m (by omega)
theorem Ksel_cut {us : List (Option OpOut)} {look0 : Look} {i : Nat} : ∀ (m : Nat), i ≤ m → Ksel us look0 (fun j => decide (j < i)) m = Ksel us look0 (fun _ => true) i
  | 0, h => by have : i = 0 := by omega
               subst this; rfl
  | m + 1, h => by
    by_cases he : i = m + 1
    · subst he
      have : ∀ q, q ≤ m + 1 → Ksel us look0 (fun j => decide (j < m + 1)) q = Ksel us look0 (fun _ => true) q := by
        intro q
        induction q with
        | zero => intro _; rfl
        | succ q ih => intro hq; simp only [Ksel, ih (by omega)]; simp [show q < m + 1 by omega]
      exact this _ (Nat.le_refl _)
    · simp only [Ksel]
      rw [if_neg (by simp; omega)]
      exact Ksel_cut m (by omega)
end
end Go.Proofs.YtbejhhoakeapgaaVM
namespace Go.Proofs.YtbejhhoakeapgaaVM
open Go Go.RowKit
set_option linter.unusedVariables false
set_option linter.unusedSimpArgs false

section
variable {P : Program} {E : Env} {all : List Oper} {N : Nat}
def OpAt (P : Program) (E : Env) (all : List Oper) (R : Regs) (K : Look) (M : Nat) (o : Oper) : Option OpOut → Prop
  | some u => GYes all R o ∧ ∃ r, opv P E (evalD E.G R) K M o = some r ∧ r.get = some u
  | none => GNo all R o
def Mat (nm : Nat) (us : List (Option OpOut)) (i : Nat) : Nat := nm + ((us.take i).map outN).sum
theorem Rsel_cons {o : Oper} {l : List Oper} {x : Option OpOut} {us : List (Option OpOut)} {regs : Regs} : ∀ i, Rsel N (o :: l) (x :: us) regs (fun _ => true) (i + 1) = Rsel N l us (upd1 N regs o.dst (outD x)) (fun _ => true) i
  | 0 => by simp [Rsel, dstAt, usAt]
  | i + 1 => by
    have ih := Rsel_cons (o := o) (l := l) (x := x) (us := us) (regs := regs) i
    rw [Rsel, ih]
    simp only [Rsel, if_true, dstAt, usAt, List.getElem?_cons_succ]
theorem Ksel_cons {x : Option OpOut} {us : List (Option OpOut)} {look : Look} : ∀ i, Ksel (x :: us) look (fun _ => true) (i + 1) = Ksel us (updF look (outU x)) (fun _ => true) i
  | 0 => by simp [Ksel, usAt]
  | i + 1 => by
    have ih := Ksel_cons (x := x) (us := us) (look := look) i
    rw [Ksel, ih]
    simp only [Ksel, if_true, usAt, List.getElem?_cons_succ]
theorem DTrace.at {l : List Oper} {regs regs' : Regs} {look look' : Look} {nm : Nat} {us : List (Option OpOut)} (h : DTrace P E all N l regs look nm us regs' look') :
    (∀ i o, l[i]? = some o → OpAt P E all (Rsel N l us regs (fun _ => true) i) (Ksel us look (fun _ => true) i) (Mat nm us i) o (usAt us i)) ∧
    regs' = Rsel N l us regs (fun _ => true) l.length ∧ look' = Ksel us look (fun _ => true) l.length := by
  induction h with
  | nil => exact ⟨fun i o hi => by simp at hi, rfl, rfl⟩
  | @done o l regs look nm r u us regs' look' hg hr hu _ ih =>
    obtain ⟨i1, i2, i3⟩ := ih
    refine ⟨fun i o' hi => ?_, ?_, ?_⟩
    · cases i with
      | zero =>
        simp only [List.getElem?_cons_zero, Option.some.injEq] at hi
        subst hi
        exact ⟨hg, r, by simpa [Rsel, Ksel, Mat] using hr, hu⟩
      | succ i =>
        have := i1 i o' (by simpa using hi)
        rw [Rsel_cons, Ksel_cons]
        simp only [usAt, List.getElem?_cons_succ]
        have hm : Mat nm (some u :: us) (i + 1) = Mat (nm + u.fresh + 1) us i := by simp [Mat, outN]; omega
        rw [hm]
        exact this
    · rw [List.length_cons, Rsel_cons]; exact i2
    · rw [List.length_cons, Ksel_cons]; exact i3
  | @skip o l regs look nm us regs' look' hg _ ih =>
    obtain ⟨i1, i2, i3⟩ := ih
    refine ⟨fun i o' hi => ?_, ?_, ?_⟩
    · cases i with
      | zero =>
        simp only [List.getElem?_cons_zero, Option.some.injEq] at hi
        subst hi
        exact hg
      | succ i =>
        have := i1 i o' (by simpa using hi)
        rw [Rsel_cons, Ksel_cons]
        simp only [usAt, List.getElem?_cons_succ]
        have hm : Mat nm (none :: us) (i + 1) = Mat nm us i := by simp [Mat, outN]
        rw [hm]
        exact this
    · rw [List.length_cons, Rsel_cons]; exact i2
    · rw [List.length_cons, Ksel_cons]; exact i3
end
end Go.Proofs.YtbejhhoakeapgaaVM
namespace Go.Proofs.YtbejhhoakeapgaaVM
open Go Go.RowKit
set_option linter.unusedVariables false
set_option linter.unusedSimpArgs false

theorem fold_or {α : Type} (b : α → Bool) (f : α → Nat) : ∀ (l : List α) (s i : Nat), (l.foldl (fun s e => bif b e then orD s (f e) else s) s).testBit i = true → s.testBit i = true ∨ ∃ e, e ∈ l ∧ b e = true ∧ (f e).testBit i = true
  | [], s, i, h => .inl h
  | e :: l, s, i, h => by
    simp only [List.foldl_cons] at h
    rcases fold_or b f l _ i h with h1 | ⟨e', h1, h2, h3⟩
    · cases hb : b e with
      | false => rw [hb] at h1; exact .inl h1
      | true =>
        rw [hb] at h1
        simp only [cond_true, orD, Nat.testBit_or, Bool.or_eq_true] at h1
        rcases h1 with h1 | h1
        · exact .inl h1
        · exact .inr ⟨e, List.mem_cons_self .., hb, h1⟩
    · exact .inr ⟨e', List.mem_cons_of_mem _ h1, h2, h3⟩
theorem ancRow_bit {acc : List Nat} {o : Oper} {i : Nat} (h : (ancRow acc o).testBit i = true) : ∃ e, e ∈ o.after.toList ∧ Region.binds .any e = true ∧ (e.on = i ∨ (acc.getD e.on 0).testBit i = true) := by
  unfold ancRow at h
  rcases fold_or (fun e => Region.binds .any e) (fun e => orD (2 ^ e.on) (acc.getD e.on 0)) _ _ _ h with h1 | ⟨e, h1, h2, h3⟩
  · simp at h1
  · simp only [orD, Nat.testBit_or, Bool.or_eq_true] at h3
    rcases h3 with h3 | h3
    · rw [Nat.testBit_two_pow] at h3
      exact ⟨e, h1, h2, .inl (by simpa using h3)⟩
    · exact ⟨e, h1, h2, .inr h3⟩
theorem ancs_closed {S : Nat → Prop} (ops : List Oper) (hS : ∀ j o, ops[j]? = some o → S j → ∀ e, e ∈ o.after.toList → Region.binds .any e = true → S e.on) :
    ∀ (l : List Oper) (acc : List Nat), (∀ p, l[p]? = ops[acc.length + p]?) →
      (∀ j i o, ops[j]? = some o → (∀ e, e ∈ o.after.toList → Region.binds .any e = true → S e.on) → (acc.getD j 0).testBit i = true → S i) →
      ∀ j i o, ops[j]? = some o → (∀ e, e ∈ o.after.toList → Region.binds .any e = true → S e.on) → ((ancs l acc).getD j 0).testBit i = true → S i
  | [], acc, hl, ha => by simpa only [ancs] using ha
  | o :: l, acc, hl, ha => by
    simp only [ancs]
    refine ancs_closed ops hS l _ (fun p => ?_) (fun j i o' ho he hb => ?_)
    · have := hl (p + 1)
      simp only [List.getElem?_cons_succ] at this
      rw [this, List.length_append]
      congr 1
      simp; omega
    · rcases Nat.lt_trichotomy j acc.length with hj | hj | hj
      · rw [List.getD_eq_getElem?_getD, List.getElem?_append_left hj, ← List.getD_eq_getElem?_getD] at hb
        exact ha j i o' ho he hb
      · subst hj
        rw [List.getD_eq_getElem?_getD, List.getElem?_append_right (Nat.le_refl _)] at hb
        simp only [Nat.sub_self, List.getElem?_cons_zero, Option.getD_some] at hb
        have h0 := hl 0
        simp only [List.getElem?_cons_zero, Nat.add_zero] at h0
        rw [ho] at h0
        cases h0
        obtain ⟨e, h1, h2, h3⟩ := ancRow_bit hb
        have hSe := he e h1 h2
        rcases h3 with h3 | h3
        · rw [← h3]; exact hSe
        · cases hoe : ops[e.on]? with
          | none =>
            have hle : acc.length ≤ e.on := by
              have h4 : acc.length < ops.length := (List.getElem?_eq_some_iff.1 ho).1
              have h5 := List.getElem?_eq_none_iff.1 hoe
              omega
            rw [List.getD_eq_getElem?_getD, List.getElem?_eq_none hle] at h3
            simp at h3
          | some oe => exact ha e.on i oe hoe (hS e.on oe hoe hSe) h3
      · rw [List.getD_eq_getElem?_getD, List.getElem?_eq_none (by simp; omega)] at hb
        simp at hb
theorem anc_done {S : Nat → Prop} {ops : List Oper} (hS : ∀ j o, ops[j]? = some o → S j → ∀ e, e ∈ o.after.toList → Region.binds .any e = true → S e.on) {j i : Nat} {o : Oper} (ho : ops[j]? = some o)
    (he : ∀ e, e ∈ o.after.toList → Region.binds .any e = true → S e.on) (hb : ((ancs ops []).getD j 0).testBit i = true) : S i :=
  ancs_closed ops hS ops [] (fun p => by simp) (fun j i o _ _ hb => by simp at hb) j i o ho he hb
end Go.Proofs.YtbejhhoakeapgaaVM
namespace Go.Proofs.YtbejhhoakeapgaaVM
open Go Go.RowKit
set_option linter.unusedVariables false
set_option linter.unusedSimpArgs false

theorem memN_false {l : List Nat} {n : Nat} (h : memN l n = false) : n ∉ l := fun hn => by rw [memN_iff.2 hn] at h; cases h
theorem loose_spec {ops : List Oper} {x y : Oper} {dx dy : Did} (h : looseB ops x y dx dy = true) :
    (∀ d, x.dst = some d → d ∉ looksL ops y ∧ y.dst ≠ some d) ∧ (∀ d, y.dst = some d → d ∉ looksL ops x) ∧ (∀ n, n ∈ dx.wrote → n ∉ dy.touch) ∧ (∀ n, n ∈ dy.wrote → n ∉ dx.touch) := by
  unfold looseB regsApart at h
  simp only [Bool.and_eq_true, Bool.not_eq_true'] at h
  obtain ⟨⟨⟨h1, h2⟩, h3⟩, h4⟩ := h
  refine ⟨fun d hd => ?_, fun d hd => ?_, fun n hn => meets_spec h3 hn, fun n hn => meets_spec h4 hn⟩
  · rw [hd] at h1
    simp only [Bool.and_eq_true, Bool.not_eq_true'] at h1
    refine ⟨memN_false h1.1, fun he => ?_⟩
    rw [he] at h1
    simp at h1
  · rw [hd] at h2
    simp only [Bool.not_eq_true'] at h2
    exact memN_false h2
theorem meets_nilL (l : List Nat) : meets [] l = false := by cases l <;> rfl
theorem meets_nilR : ∀ l : List Nat, meets l [] = false
  | [] => rfl
  | n :: l => meets_nilR l
theorem busy_pair {an : List Nat} : ∀ (tr : List Did) (k : Nat), namesOk an (busy k tr) = true → ∀ {i j : Nat} {dx dy : Did}, i < j → tr[i]? = some dx → tr[j]? = some dy → isBusy dx = true → isBusy dy = true →
    (an.getD (k + j) 0).testBit (k + i) = true ∨ (!meets dx.wrote dy.touch && !meets dy.wrote dx.touch) = true
  | [], _, _, i, j, dx, dy, _, h, _, _, _ => by simp at h
  | d :: l, k, hok, i, j, dx, dy, hij, hx, hy, bx, bby => by
    have sub : ∀ (tr : List Did) (k : Nat) (j : Nat) (dy : Did), tr[j]? = some dy → isBusy dy = true → (k + j, dy) ∈ busy k tr := by
      intro tr
      induction tr with
      | nil => intro k j dy h; simp at h
      | cons e tr ih =>
        intro k j dy h hb
        unfold busy
        cases j with
        | zero =>
          simp only [List.getElem?_cons_zero, Option.some.injEq] at h
          subst h
          rw [hb]
          exact List.mem_cons_self
        | succ j =>
          rw [List.getElem?_cons_succ] at h
          have := ih (k + 1) j dy h hb
          rw [show k + 1 + j = k + (j + 1) by omega] at this
          cases isBusy e
          · exact this
          · exact List.mem_cons_of_mem _ this
    unfold busy at hok
    cases j with
    | zero => omega
    | succ j =>
      rw [List.getElem?_cons_succ] at hy
      cases i with
      | zero =>
        simp only [List.getElem?_cons_zero, Option.some.injEq] at hx
        subst hx
        rw [bx] at hok
        simp only [cond_true, namesOk, Bool.and_eq_true, List.all_eq_true] at hok
        have := hok.1 _ (sub l (k + 1) j dy hy bby)
        rw [Bool.or_eq_true] at this
        simp only at this
        rw [show k + 1 + j = k + (j + 1) by omega] at this
        exact this
      | succ i =>
        rw [List.getElem?_cons_succ] at hx
        have hok' : namesOk an (busy (k + 1) l) = true := by
          cases hb : isBusy d with
          | false => rw [hb] at hok; exact hok
          | true =>
            rw [hb] at hok
            simp only [cond_true, namesOk, Bool.and_eq_true] at hok
            exact hok.2
        have := busy_pair l (k + 1) hok' (i := i) (j := j) (by omega) hx hy bx bby
        rw [show k + 1 + j = k + (j + 1) by omega, show k + 1 + i = k + (i + 1) by omega] at this
        exact this
theorem not_busy {d : Did} (h : isBusy d = false) : d.touch = [] ∧ d.wrote = [] := by
  obtain ⟨a, b⟩ := d
  cases a <;> cases b <;> simp_all [isBusy]
theorem pair_cases {ops : List Oper} {us : List (Option OpOut)} (hok : regionOk ops (us.map didOf) = true) (hlen : us.length = ops.length) {i j : Nat} {x y : Oper} (hij : i < j) (hx : ops[i]? = some x) (hy : ops[j]? = some y) :
    ((ancs ops []).getD j 0).testBit i = true ∨ looseB ops x y (didOf (usAt us i)) (didOf (usAt us j)) = true := by
  unfold regionOk regionPlain at hok
  simp only [Bool.and_eq_true, List.all_eq_true, List.mem_range] at hok
  obtain ⟨⟨⟨_, hok1⟩, _⟩, hok2⟩ := hok
  have hj : j < ops.length := (List.getElem?_eq_some_iff.1 hy).1
  have hp := hok1 j hj i hij
  unfold plainPair at hp
  rw [Bool.or_eq_true] at hp
  rcases hp with hp | hp
  · exact .inl hp
  · rw [hx, hy] at hp
    have e1 : (us.map didOf)[i]? = some (didOf (usAt us i)) := by rw [List.getElem?_map]; simp [usAt, List.getElem?_eq_getElem (show i < us.length by omega)]
    have e2 : (us.map didOf)[j]? = some (didOf (usAt us j)) := by rw [List.getElem?_map]; simp [usAt, List.getElem?_eq_getElem (show j < us.length by omega)]
    have fin : (!meets (didOf (usAt us i)).wrote (didOf (usAt us j)).touch && !meets (didOf (usAt us j)).wrote (didOf (usAt us i)).touch) = true → looseB ops x y (didOf (usAt us i)) (didOf (usAt us j)) = true := fun h => by
      have hp' : regsApart ops x y = true := hp
      unfold looseB
      rw [Bool.and_assoc, h, hp']
      rfl
    cases bx : isBusy (didOf (usAt us i)) with
    | false =>
      obtain ⟨t1, t2⟩ := not_busy bx
      refine .inr (fin ?_)
      rw [t1, t2, meets_nilL, meets_nilR]
      rfl
    | true =>
      cases bby : isBusy (didOf (usAt us j)) with
      | false =>
        obtain ⟨t1, t2⟩ := not_busy bby
        refine .inr (fin ?_)
        rw [t1, t2, meets_nilL, meets_nilR]
        rfl
      | true =>
        have := busy_pair (us.map didOf) 0 hok2 hij e1 e2 bx bby
        rw [Nat.zero_add, Nat.zero_add] at this
        exact this.imp id fin
theorem dstAt_of {ops : List Oper} {j t : Nat} (h : dstAt ops j = some t) : ∃ o, ops[j]? = some o ∧ o.dst = some t := by
  unfold dstAt at h
  cases ho : ops[j]? with
  | none => rw [ho] at h; cases h
  | some o => rw [ho] at h; exact ⟨o, rfl, h⟩
section
variable {ops : List Oper} {us : List (Option OpOut)} {sel : Nat → Bool} {N : Nat} {regs0 : Regs} {look0 : Look}
def Closed (ops : List Oper) (sel : Nat → Bool) : Prop := ∀ j o, ops[j]? = some o → sel j = true → ∀ e, e ∈ o.after.toList → Region.binds .any e = true → sel e.on = true
theorem reads_same (hok : regionOk ops (us.map didOf) = true) (hlen : us.length = ops.length) (hc : Closed ops sel) {i : Nat} {o : Oper} (ho : ops[i]? = some o) (hi : sel i = false) (he : ∀ e, e ∈ o.after.toList → Region.binds .any e = true → sel e.on = true) :
    (∀ t, t ∈ looksL ops o → Rsel N ops us regs0 sel ops.length t = Rsel N ops us regs0 (fun _ => true) i t) ∧
    (∀ m, m ∈ outT' (usAt us i) → Ksel us look0 sel ops.length m = Ksel us look0 (fun _ => true) i m) := by
  have hil : i < ops.length := (List.getElem?_eq_some_iff.1 ho).1
  have key : ∀ j oj, ops[j]? = some oj → (j < i → looseB ops oj o (didOf (usAt us j)) (didOf (usAt us i)) = true → False) → (i < j → looseB ops o oj (didOf (usAt us i)) (didOf (usAt us j)) = true → False) → sel j = decide (j < i) := by
    intro j oj hj h1 h2
    rcases Nat.lt_trichotomy j i with hji | hji | hji
    · rw [decide_eq_true hji]
      rcases pair_cases hok hlen hji hj ho with h3 | h3
      · exact anc_done (S := fun j => sel j = true) hc ho he h3
      · exact (h1 hji h3).elim
    · subst hji; rw [hi]; simp
    · rw [decide_eq_false (by omega)]
      cases hs : sel j with
      | false => rfl
      | true =>
        exfalso
        rcases pair_cases hok hlen hji ho hj with h3 | h3
        · have := anc_done (S := fun j => sel j = true) hc hj (hc j oj hj hs) h3
          rw [hi] at this; cases this
        · exact h2 hji h3
  refine ⟨fun t ht => ?_, fun m hm => ?_⟩
  · rw [← Rsel_cut (N := N) (ops := ops) (us := us) (regs0 := regs0) ops.length (Nat.le_of_lt hil)]
    refine Rsel_congr ops.length (fun j hj hd => ?_)
    obtain ⟨oj, h1, h2⟩ := dstAt_of hd
    refine key j oj h1 (fun _ hl => ((loose_spec hl).1 t h2).1 ht) (fun _ hl => (loose_spec hl).2.1 t h2 ht)
  · rw [← Ksel_cut (us := us) (look0 := look0) ops.length (Nat.le_of_lt hil)]
    refine Ksel_congr ops.length (fun j hj hd => ?_)
    have h1 : ops[j]? = some ops[j] := List.getElem?_eq_getElem hj
    refine key j _ h1 (fun _ hl => (loose_spec hl).2.2.1 m hd hm) (fun _ hl => (loose_spec hl).2.2.2 m hd hm)
end
end Go.Proofs.YtbejhhoakeapgaaVM
namespace Go.Proofs.YtbejhhoakeapgaaVM
open Go Go.RowKit
set_option linter.unusedVariables false
set_option linter.unusedSimpArgs false

theorem updF_in : ∀ (u : List (Nat × Option O)) (X Y : Look) (n : Nat), n ∈ firstsOf u → updF X u n = updF Y u n
  | [], X, Y, n, h => by simp [firstsOf] at h
  | (m, o) :: u, X, Y, n, h => by
    simp only [updF]
    by_cases hn : n ∈ firstsOf u
    · exact updF_in u _ _ n hn
    · simp only [firstsOf, List.mem_cons] at h
      have hm := h.resolve_right hn
      subst hm
      rw [updF_other u _ _ hn, updF_other u _ _ hn]
      simp [setF]
section
variable {ops : List Oper} {us : List (Option OpOut)} {sel : Nat → Bool} {N : Nat} {regs0 : Regs} {look0 : Look}
theorem Rsel_old {t : Nat} (ht : N ≤ t) : ∀ m, Rsel N ops us regs0 sel m t = regs0 t
  | 0 => rfl
  | m + 1 => by
    simp only [Rsel]
    split
    · unfold upd1; rw [if_neg (by omega)]; exact Rsel_old ht m
    · exact Rsel_old ht m
theorem Rsel_last {i t : Nat} (hi : sel i = true) (hd : dstAt ops i = some t) (ht : t < N) : ∀ m, i < m → (∀ j, i < j → j < m → sel j = true → dstAt ops j ≠ some t) → Rsel N ops us regs0 sel m t = outD (usAt us i)
  | 0, h, _ => by omega
  | m + 1, h, hl => by
    simp only [Rsel]
    by_cases he : i = m
    · subst he
      rw [if_pos hi]
      unfold upd1
      rw [if_pos ⟨hd, ht⟩]
    · have ih := Rsel_last hi hd ht m (by omega) (fun j h1 h2 => hl j h1 (by omega))
      split
      · rename_i hm
        unfold upd1
        rw [if_neg (fun hx => hl m (by omega) (by omega) hm hx.1)]
        exact ih
      · exact ih
theorem Ksel_last {i n : Nat} (hi : sel i = true) (hd : n ∈ firstsOf (outU (usAt us i))) (X : Look) : ∀ m, i < m → (∀ j, i < j → j < m → sel j = true → n ∉ firstsOf (outU (usAt us j))) → Ksel us look0 sel m n = updF X (outU (usAt us i)) n
  | 0, h, _ => by omega
  | m + 1, h, hl => by
    simp only [Ksel]
    by_cases he : i = m
    · subst he
      rw [if_pos hi]
      exact updF_in _ _ _ n hd
    · have ih := Ksel_last hi hd X m (by omega) (fun j h1 h2 => hl j h1 (by omega))
      split
      · rename_i hm
        rw [updF_other _ _ _ (hl m (by omega) (by omega) hm)]
        exact ih
      · exact ih
theorem wrote_touched : ∀ {tr : List Did} {j : Nat} {d : Did}, wroteTouched tr = true → tr[j]? = some d → ∀ n, n ∈ d.wrote → n ∈ d.touch
  | [], j, d, h, hd, n, hn => by simp at hd
  | d0 :: tr, 0, d, h, hd, n, hn => by
    simp at hd; subst hd
    simp only [wroteTouched, Bool.and_eq_true, List.all_eq_true] at h
    exact memN_iff.1 (h.1 n hn)
  | d0 :: tr, j + 1, d, h, hd, n, hn => by
    simp only [wroteTouched, Bool.and_eq_true] at h
    exact wrote_touched h.2 (by simpa using hd) n hn
theorem writes_after (hok : regionOk ops (us.map didOf) = true) (hlen : us.length = ops.length) (hc : Closed ops sel) {i : Nat} {o : Oper} (ho : ops[i]? = some o) (hi : sel i = false) {sel' : Nat → Bool} (h1 : sel' i = true) (h2 : ∀ j, j ≠ i → sel' j = sel j) :
    upd1 N (Rsel N ops us regs0 sel ops.length) o.dst (outD (usAt us i)) = Rsel N ops us regs0 sel' ops.length ∧
    updF (Ksel us look0 sel ops.length) (outU (usAt us i)) = Ksel us look0 sel' ops.length := by
  have hil : i < ops.length := (List.getElem?_eq_some_iff.1 ho).1
  have hdi : dstAt ops i = o.dst := by unfold dstAt; rw [ho]; rfl
  have late : ∀ j oj, i < j → ops[j]? = some oj → sel' j = true → looseB ops o oj (didOf (usAt us i)) (didOf (usAt us j)) = true := by
    intro j oj hij hj hs
    rw [h2 j (by omega)] at hs
    rcases pair_cases hok hlen hij ho hj with h3 | h3
    · have := anc_done (S := fun j => sel j = true) hc hj (hc j oj hj hs) h3
      rw [hi] at this; cases this
    · exact h3
  constructor
  · funext t
    by_cases hd : o.dst = some t
    · rcases Nat.lt_or_ge t N with ht | ht
      · unfold upd1
        rw [if_pos ⟨hd, ht⟩]
        refine (Rsel_last h1 (by rw [hdi]; exact hd) ht ops.length hil (fun j hij hj hs he => ?_)).symm
        obtain ⟨oj, h3, h4⟩ := dstAt_of he
        exact ((loose_spec (late j oj hij h3 hs)).1 t hd).2 h4
      · unfold upd1
        rw [if_neg (by omega), Rsel_old ht, Rsel_old ht]
    · unfold upd1
      rw [if_neg (fun hx => hd hx.1)]
      refine Rsel_congr ops.length (fun j hj he => ?_)
      by_cases hji : j = i
      · subst hji; rw [hdi] at he; exact absurd he hd
      · exact (h2 j hji).symm
  · funext n
    by_cases hd : n ∈ firstsOf (outU (usAt us i))
    · refine (Ksel_last h1 hd _ ops.length hil (fun j hij hj hs he => ?_)).symm
      have h3 : ops[j]? = some ops[j] := List.getElem?_eq_getElem hj
      refine (loose_spec (late j _ hij h3 hs)).2.2.1 n hd ?_
      unfold regionOk at hok
      simp only [Bool.and_eq_true] at hok
      refine wrote_touched (tr := us.map didOf) (j := j) (d := didOf (usAt us j)) hok.1.2 ?_ n he
      rw [List.getElem?_map]; simp [usAt, List.getElem?_eq_getElem (show j < us.length by omega)]
    · rw [updF_other _ _ _ hd]
      refine Ksel_congr ops.length (fun j hj he => ?_)
      by_cases hji : j = i
      · subst hji; exact absurd he hd
      · exact (h2 j hji).symm
end
end Go.Proofs.YtbejhhoakeapgaaVM
namespace Go.Proofs.YtbejhhoakeapgaaVM
open Go Go.RowKit
set_option linter.unusedVariables false
set_option linter.unusedSimpArgs false

theorem Mat_mono {nm : Nat} {us : List (Option OpOut)} : ∀ {i j : Nat}, i ≤ j → Mat nm us i ≤ Mat nm us j := by
  intro i j h
  induction j with
  | zero => have : i = 0 := by omega
            subst this; exact Nat.le_refl _
  | succ j ih =>
    rcases Nat.lt_or_ge i (j + 1) with h1 | h1
    · refine Nat.le_trans (ih (by omega)) ?_
      unfold Mat
      rw [List.take_add_one]
      simp
    · have : i = j + 1 := by omega
      subst this; exact Nat.le_refl _
theorem Mat_succ {nm : Nat} {us : List (Option OpOut)} {i : Nat} {u : OpOut} (h : usAt us i = some u) : Mat nm us (i + 1) = Mat nm us i + u.fresh + 1 := by
  unfold usAt at h
  cases hx : us[i]? with
  | none => rw [hx] at h; cases h
  | some x =>
    rw [hx] at h
    simp only [Option.getD_some] at h
    subst h
    unfold Mat
    rw [List.take_add_one, hx]
    simp [outN]
    omega
section
variable {P : Program} {G : Globs} {C : Ctx} {σ0 : List (Nat × Option Nat)} {β0 : Places} {N : Nat} {E : Env} {Q : Exit → Act → World → Prop} {ops : List Oper} {us : List (Option OpOut)} {regs0 : Regs} {look0 : Look} {nm0 : Nat}
def freeAt (us : List (Option OpOut)) (nm0 : Nat) (n : Nat) (sel : Nat → Bool) (m : Nat) : Prop := nm0 ≤ m ∧ ∀ j u, j < n → sel j = true → usAt us j = some u → ¬ (Mat nm0 us j ≤ m ∧ m < Mat nm0 us j + u.fresh)
def SelSt (P : Program) (G : Globs) (C : Ctx) (σ0 : List (Nat × Option Nat)) (β0 : Places) (N : Nat) (ops : List Oper) (us : List (Option OpOut)) (regs0 : Regs) (look0 : Look) (nm0 : Nat) (sel : Nat → Bool) (a : Act) (W : World) : Prop :=
  ∃ β, Kept σ0 β0 β ∧ Rel P G C β (freeAt us nm0 ops.length sel) N (Rsel N ops us regs0 sel ops.length) (Ksel us look0 sel ops.length) a W
theorem wanted_at {regs : Regs} {look : Look} {β : Places} {free : Nat → Prop} {a : Act} {W : World} (h : Rel P G C β free N regs look a W) {j t : Nat} {b : Bool} (hj : dstAt ops j = some t) (hb : regs t = .bool b) : yielded ops.toArray a.tmps j = some b := by
  have hv := h.vals t
  rw [hb] at hv
  have h1 := RV_out hv rfl
  simp only [RC, List.cons.injEq, and_true] at h1
  have hlt : t < N := by
    rcases Nat.lt_or_ge t N with h2 | h2
    · exact h2
    · have := h.bound t h2; rw [hb] at this; cases this
  rw [Array.getD_eq_getD_getElem?] at h1
  unfold yielded
  unfold dstAt at hj
  rw [show ops.toArray[j]? = ops[j]? by simp, hj]
  have hs := h.size
  rw [Array.getElem?_eq_getElem (by omega)] at h1
  simp only [Option.getD_some] at h1
  simp only [Option.bind_some]
  rw [Array.getElem?_eq_getElem (by omega), h1]
theorem unwanted_at {β : Places} {free : Nat → Prop} {R : Regs} {K : Look} {a : Act} {W : World} (h : Rel P G C β free N R K a W) {j t : Nat} (hj : dstAt ops j = some t) (hb : R t = .tup []) : yielded ops.toArray a.tmps j = none := by
  have hv := h.vals t
  rw [hb] at hv
  obtain ⟨vs, h1, h2⟩ := hv
  rw [Array.getD_eq_getD_getElem?] at h1
  unfold yielded
  unfold dstAt at hj
  rw [show ops.toArray[j]? = ops[j]? by simp, hj]
  simp only [Option.bind_some]
  cases hx : a.tmps[t]? with
  | none => rfl
  | some v =>
    rw [hx] at h1
    simp only [Option.getD_some] at h1
    rw [h1]
theorem sel_step (hE : EnvOk P G E) (hat : ∀ i o, ops[i]? = some o → OpAt P E ops (Rsel N ops us regs0 (fun _ => true) i) (Ksel us look0 (fun _ => true) i) (Mat nm0 us i) o (usAt us i))
    (hok : regionOk ops (us.map didOf) = true) (hlen : us.length = ops.length) {sel sel' : Nat → Bool} (hc : Closed ops sel) {i : Nat} {o : Oper} (ho : ops[i]? = some o) (hi : sel i = false) (he : ∀ e, e ∈ o.after.toList → Region.binds .any e = true → sel e.on = true)
    (h1 : sel' i = true) (h2 : ∀ j, j ≠ i → sel' j = sel j) {a : Act} {W : World} (h : SelSt P G C σ0 β0 N ops us regs0 look0 nm0 sel a W) {K : Act → World → Prop} (hK : ∀ a' W', SelSt P G C σ0 β0 N ops us regs0 look0 nm0 sel' a' W' → K a' W') :
    wpOp P ops.toArray Q i K a W := by
  obtain ⟨r1, r2⟩ := reads_same (N := N) (regs0 := regs0) (look0 := look0) hok hlen hc ho hi he
  obtain ⟨w1, w2⟩ := writes_after (N := N) (regs0 := regs0) (look0 := look0) hok hlen hc ho hi h1 h2
  obtain ⟨β, hk, hr⟩ := h
  have hil : i < ops.length := (List.getElem?_eq_some_iff.1 ho).1
  have hgl : ∀ j want t, o.guard = some (j, want) → dstAt ops j = some t → t ∈ looksL ops o := by
    intro j want t hg hd
    unfold looksL
    rw [hg, List.mem_append]
    exact .inr (by simp [hd])
  have hoa : ops.toArray[i]? = some o := by simpa using ho
  have hop := hat i o ho
  unfold wpOp
  rw [hoa]
  simp only
  cases hu : usAt us i with
  | none =>
    rw [hu] at hop w1 w2
    obtain ⟨j, want, t, hg, hd, hb⟩ := hop
    rw [← r1 t (hgl j want t hg hd)] at hb
    have hw : Region.wanted o (yielded ops.toArray a.tmps) = false := by
      rcases hb with hb | hb
      · have hy := wanted_at hr hd hb
        unfold Region.wanted; rw [hg]; simp [hy]
      · have hy := unwanted_at hr hd hb
        unfold Region.wanted; rw [hg]; simp [hy]
    rw [if_neg (by rw [hw]; simp)]
    have hp := hr.pure (dst := o.dst) (d := .tup []) (v := Go.undef) ⟨#[], rfl, trivial⟩
    simp only [outD, outU, updF] at w1 w2
    rw [w1, w2] at hp
    refine hK _ _ ⟨β, hk, hp.frees (fun m hm => ⟨hm.1, fun j' u' q1 q2 q3 => ?_⟩)⟩
    by_cases hji : j' = i
    · subst hji; rw [hi] at q2; cases q2
    · exact hm.2 j' u' q1 (by rw [h2 j' hji]; exact q2) q3
  | some u =>
    rw [hu] at hop w1 w2
    obtain ⟨hgy, r, hr1, hr2⟩ := hop
    have hw : Region.wanted o (yielded ops.toArray a.tmps) = true := by
      rcases hgy with hg | ⟨j, want, t, hg, hd, hb⟩
      · unfold Region.wanted; rw [hg]
      · rw [← r1 t (hgl j want t hg hd)] at hb
        have hy := wanted_at hr hd hb
        unfold Region.wanted; rw [hg]; simp [hy]
    rw [if_pos hw]
    have e1 := opv_rho (P := P) (E := E) (look := Ksel us look0 (fun _ => true) i) (nm := Mat nm0 us i) (ρ := evalD E.G (Rsel N ops us regs0 (fun _ => true) i)) (ρ' := evalD E.G (Rsel N ops us regs0 sel ops.length)) (o := o) (fun x hx => by
      cases x with
      | tmp t =>
        refine r1 t ?_
        unfold looksL
        rw [List.mem_append]
        exact .inl (List.mem_filterMap.2 ⟨_, hx, rfl⟩)
      | _ => rfl)
    rw [hr1] at e1
    have e2 := opv_look e1 hr2 (look' := Ksel us look0 sel ops.length) (fun m hm => r2 m (by rw [hu]; exact hm))
    rw [hE.glob] at e2
    refine .inl (Oper.wp_mono (fun a' W' hn => ?_) (opv_sound hr hE e2 hr2 (fun m m1 m2 => ⟨Nat.le_trans (by simp [Mat]) m1, fun j' u' q1 q2 q3 hx => ?_⟩)))
    · obtain ⟨β', hs, hr'⟩ := hn
      simp only [outD, outU] at w1 w2
      rw [w1, w2] at hr'
      refine hK _ _ ⟨β', hk.sub hs, hr'.frees (fun m hm => ⟨⟨hm.1, fun j' u' q1 q2 q3 => ?_⟩, fun hx => ?_⟩)⟩
      · by_cases hji : j' = i
        · subst hji; rw [hi] at q2; cases q2
        · exact hm.2 j' u' q1 (by rw [h2 j' hji]; exact q2) q3
      · exact hm.2 i u hil h1 hu hx
    · have hji : j' ≠ i := by intro e; subst e; rw [hi] at q2; cases q2
      rcases Nat.lt_or_ge j' i with h3 | h3
      · have := Mat_mono (nm := nm0) (us := us) (show j' + 1 ≤ i by omega)
        rw [Mat_succ q3] at this
        omega
      · have := Mat_mono (nm := nm0) (us := us) (show i + 1 ≤ j' by omega)
        rw [Mat_succ hu] at this
        omega
end
end Go.Proofs.YtbejhhoakeapgaaVM
namespace Go.Proofs.YtbejhhoakeapgaaVM
open Go Go.RowKit
set_option linter.unusedVariables false
set_option linter.unusedSimpArgs false

theorem edgesDown_spec {ops : List Oper} (h : edgesDown ops = true) {i : Nat} {o : Oper} (ho : ops[i]? = some o) : ∀ e, e ∈ o.after.toList → Region.binds .any e = true → e.on < i := by
  intro e he hb
  unfold edgesDown at h
  rw [List.all_eq_true] at h
  have h1 := h (o, i) (List.mem_zipIdx_iff_getElem?.2 ho)
  simp only [List.all_eq_true] at h1
  have h2 := h1 e he
  rw [hb] at h2
  simp only [Bool.not_true, Bool.false_or] at h2
  rwa [Nat.blt_eq] at h2
theorem all_listed {ops : List Oper} (hd : edgesDown ops = true) {listed : Array Bool} (hs : listed.size = ops.length) (hr : Region.ready .any ops.toArray listed = []) : ∀ j, j < ops.length → listed.getD j false = true := by
  intro j
  induction j using Nat.strongRecOn with
  | _ j ih =>
    intro hj
    cases hl : listed.getD j false with
    | true => rfl
    | false =>
      exfalso
      have ho : ops[j]? = some ops[j] := List.getElem?_eq_getElem hj
      have hmem : j ∈ Region.ready .any ops.toArray listed := mem_ready.2 ⟨by
        rw [Array.getD_eq_getD_getElem?, Array.getElem?_eq_getElem (by omega)] at hl ⊢
        exact hl, ops[j], by simp [hj], fun e he hb => by
        have := edgesDown_spec hd ho e (by simpa using he) hb
        exact ih e.on this (by omega)⟩
      rw [hr] at hmem
      cases hmem
theorem none_false {listed : Array Bool} (h : listed.count false = 0) (j : Nat) : listed.getD j true = true := by
  rw [Array.getD_eq_getD_getElem?]
  cases hx : listed[j]? with
  | none => rfl
  | some b =>
    have hm : b ∈ listed := Array.mem_of_getElem? hx
    cases b with
    | true => rfl
    | false => exact absurd hm (Array.count_eq_zero.1 h)
section
variable {P : Program} {G : Globs} {C : Ctx} {σ0 : List (Nat × Option Nat)} {β0 : Places} {N : Nat} {E : Env} {Q : Exit → Act → World → Prop} {ops : List Oper} {us : List (Option OpOut)} {regs0 : Regs} {look0 : Look} {nm0 : Nat}
theorem SelSt.congr {sel sel' : Nat → Bool} (h : ∀ j, j < ops.length → sel j = sel' j) {a : Act} {W : World} (hs : SelSt P G C σ0 β0 N ops us regs0 look0 nm0 sel a W) : SelSt P G C σ0 β0 N ops us regs0 look0 nm0 sel' a W := by
  obtain ⟨β, hk, hr⟩ := hs
  have e1 : Rsel N ops us regs0 sel ops.length = Rsel N ops us regs0 sel' ops.length := funext fun t => Rsel_congr _ (fun j hj _ => h j hj)
  have e2 : Ksel us look0 sel ops.length = Ksel us look0 sel' ops.length := funext fun t => Ksel_congr _ (fun j hj _ => h j hj)
  rw [e1, e2] at hr
  exact ⟨β, hk, hr.frees (fun m hm => ⟨hm.1, fun j u q1 q2 q3 => hm.2 j u q1 (by rw [← h j q1]; exact q2) q3⟩)⟩
theorem draw_any (hE : EnvOk P G E) (hat : ∀ i o, ops[i]? = some o → OpAt P E ops (Rsel N ops us regs0 (fun _ => true) i) (Ksel us look0 (fun _ => true) i) (Mat nm0 us i) o (usAt us i))
    (hok : regionOk ops (us.map didOf) = true) (hlen : us.length = ops.length) (hQ : ∀ a' W', SelSt P G C σ0 β0 N ops us regs0 look0 nm0 (fun _ => true) a' W' → Q .normal a' W') :
    ∀ (fuel : Nat) (listed : Array Bool) (a : Act) (W : World), listed.size = ops.length → listed.count false ≤ fuel → Closed ops (fun j => listed.getD j false) → SelSt P G C σ0 β0 N ops us regs0 look0 nm0 (fun j => listed.getD j false) a W → wpAny P .any ops.toArray Q fuel listed a W := by
  have hd : edgesDown ops = true := by
    unfold regionOk regionPlain at hok
    simp only [Bool.and_eq_true] at hok
    exact hok.1.1.1.1
  have fin : ∀ (listed : Array Bool) (a : Act) (W : World), listed.size = ops.length → SelSt P G C σ0 β0 N ops us regs0 look0 nm0 (fun j => listed.getD j false) a W → Region.ready .any ops.toArray listed = [] → Q .normal a W :=
    fun listed a W hs hst hr => hQ a W (hst.congr (fun j hj => all_listed hd hs hr j hj))
  intro fuel
  induction fuel with
  | zero =>
    intro listed a W hs hcnt hc hst
    have hr : Region.ready .any ops.toArray listed = [] := by
      cases hx : Region.ready .any ops.toArray listed with
      | nil => rfl
      | cons i l =>
        exfalso
        have hm : i ∈ Region.ready .any ops.toArray listed := by rw [hx]; exact List.mem_cons_self ..
        have h1 := (mem_ready.1 hm).1
        rw [none_false (by omega) i] at h1
        cases h1
    exact ⟨hr, fin listed a W hs hst hr⟩
  | succ fuel ih =>
    intro listed a W hs hcnt hc hst
    refine ⟨fin listed a W hs hst, fun i hi => ?_⟩
    obtain ⟨h1, o, ho, he⟩ := mem_ready.1 hi
    have hil : i < listed.size := by
      rcases Nat.lt_or_ge i listed.size with h2 | h2
      · exact h2
      · rw [Array.getD_eq_getD_getElem?, Array.getElem?_eq_none h2] at h1; cases h1
    have hg : listed[i] = false := by
      rw [Array.getD_eq_getD_getElem?, Array.getElem?_eq_getElem hil] at h1
      exact h1
    have ho' : ops[i]? = some o := by simpa using ho
    have hsel : ∀ j, (listed.setIfInBounds i true).getD j false = if j = i then true else listed.getD j false := by
      intro j
      rw [Array.getD_eq_getD_getElem?, Array.getElem?_setIfInBounds, Array.getD_eq_getD_getElem?]
      by_cases hji : i = j
      · subst hji; simp [hil]
      · have : ¬ j = i := fun e => hji e.symm
        simp [hji, this]
    refine sel_step (sel := fun j => listed.getD j false) (sel' := fun j => (listed.setIfInBounds i true).getD j false) hE hat hok hlen hc ho' (by
        show listed.getD i false = false
        rw [Array.getD_eq_getD_getElem?, Array.getElem?_eq_getElem hil]; exact hg) (fun e h2 h3 => he e (by simpa using h2) h3) (by show (listed.setIfInBounds i true).getD i false = true; rw [hsel]; simp) (fun j hj => by show (listed.setIfInBounds i true).getD j false = _; rw [hsel, if_neg hj]) hst (fun a' W' hst' => ih _ a' W' (by simp [hs]) ?_ ?_ hst')
    · rw [Array.setIfInBounds, dif_pos hil, Array.count_set hil, hg]
      simp
      omega
    · intro j oj hoj hsj e h2 h3
      simp only [hsel] at hsj ⊢
      split
      · rfl
      · by_cases hji : j = i
        · subst hji
          rw [ho'] at hoj; cases hoj
          exact he e (by simpa using h2) h3
        · rw [if_neg hji] at hsj
          exact hc j oj hoj hsj e h2 h3
end
theorem drawOk {P : Program} (hm : P.follows .mixedOrders = true) : DrawOk P := by
  intro G C σ0 β0 N E Q id ops st a W R k x hE hst hr hq
  obtain ⟨hl, β, hk, hrel⟩ := hst
  obtain ⟨us, st', h1, h2, h3, h4, h5⟩ := drawRun_trace ops.toList hr hl
  have hb := (bif_some h4).1
  have hx := (bif_some h4).2
  simp only [List.nil_append, Bool.and_eq_true] at hb
  obtain ⟨hat, e1, e2⟩ := h1.at
  have hrel' : Rel P G C β (fun n => st.next ≤ n) N (regsOf st.regs) (lookL st.objs) a { W with drawn := W.drawn + 1 } := hrel.draws ⟨rfl, rfl, rfl, Nat.le_refl _, fun _ _ => rfl⟩
  refine wp_region_any hm ?_
  have hsel0 : ∀ m, Rsel N ops.toList us (regsOf st.regs) (fun j => (Array.replicate ops.size false).getD j false) m = regsOf st.regs := by
    intro m
    induction m with
    | zero => rfl
    | succ m ih =>
      simp only [Rsel]
      rw [if_neg (by rw [Array.getD_eq_getD_getElem?, Array.getElem?_replicate]; split <;> simp)]
      exact ih
  have hsel1 : ∀ m, Ksel us (lookL st.objs) (fun j => (Array.replicate ops.size false).getD j false) m = lookL st.objs := by
    intro m
    induction m with
    | zero => rfl
    | succ m ih =>
      simp only [Ksel]
      rw [if_neg (by rw [Array.getD_eq_getD_getElem?, Array.getElem?_replicate]; split <;> simp)]
      exact ih
  have hf : ∀ j, (Array.replicate ops.size false).getD j false = false := fun j => by
    rw [Array.getD_eq_getD_getElem?, Array.getElem?_replicate]; split <;> simp
  have := draw_any (Q := Q) (C := C) (σ0 := σ0) (β0 := β0) (nm0 := st.next) (regs0 := regsOf st.regs) (look0 := lookL st.objs) hE hat hb.1 h3 (fun a' W' hs => by
    obtain ⟨β', hk', hr'⟩ := hs
    rw [← e1, ← e2] at hr'
    refine hq st' a' W' ⟨h2, β', hk', hr'.frees (fun m hm => ?_)⟩ hx
    rw [h5] at hm
    refine ⟨by omega, fun j u q1 _ q3 hx' => ?_⟩
    have h6 := Mat_mono (nm := st.next) (us := us) (show j + 1 ≤ us.length by omega)
    rw [Mat_succ q3] at h6
    have h7 : Mat st.next us us.length = st.next + (us.map outN).sum := by unfold Mat; rw [List.take_length]
    omega) ops.size (Array.replicate ops.size false) a { W with drawn := W.drawn + 1 } (by simp) (by simp [Array.count_replicate]) (fun j o _ hs => by simp only [hf] at hs; cases hs) ⟨β, hk, by rw [hsel0, hsel1]; exact hrel'.frees (fun m hm => hm.1)⟩
  simpa using this
end Go.Proofs.YtbejhhoakeapgaaVM
namespace Go.Proofs.YtbejhhoakeapgaaVM
open Go Go.RowKit
set_option linter.unusedVariables false
set_option linter.unusedSimpArgs false

def memT (l : List TypeId) (τ : TypeId) : Bool := memN l τ
def okTy (P : Program) (L : List TypeId) (τ : TypeId) : Bool :=
  match P.underlying τ with
  | some (.int _) | some .bool | some .string => true
  | some (.slice _) => match rowOf P τ with | some (e, _) => memN L e | none => false
  | some (.struct _) => match fieldsOf P τ with | some fs => fs.all fun f => memN L f.1 | none => false
  | some (.array _ _) => match arrOf P τ with | some (_, e, _) => memN L e | none => false
  | _ => false
inductive TOk (P : Program) : TypeId → T → Prop
  | int {τ : TypeId} {k : IntKind} {n : Int} : P.underlying τ = some (.int k) → (Lit.int k n).wf = true → TOk P τ (.int n)
  | bool {τ : TypeId} {b : Bool} : P.underlying τ = some .bool → TOk P τ (.bool b)
  | str {τ : TypeId} {s : ByteArray} : P.underlying τ = some .string → s.size ≤ maxLen → TOk P τ (.str s)
  | slice {τ e : TypeId} {s : Nat} {xs : List T} : rowOf P τ = some (e, s) → xs.length ≤ maxLen → (∀ (i : Nat) x, xs[i]? = some x → TOk P e x) → TOk P τ (.node xs)
  | struct {τ : TypeId} {fs : List (TypeId × Nat)} {xs : List T} : fieldsOf P τ = some fs → xs.length = fs.length → (∀ (i : Nat) f x, fs[i]? = some f → xs[i]? = some x → TOk P f.1 x) → TOk P τ (.node xs)
  | arr {τ e : TypeId} {N s : Nat} {xs : List T} : arrOf P τ = some (N, e, s) → xs.length = N → (∀ (i : Nat) x, xs[i]? = some x → TOk P e x) → TOk P τ (.node xs)
section
variable {P : Program}
theorem csz_cells {τ : TypeId} {s : Nat} (h : csz P τ = some s) : P.cellsOf τ = s := by
  obtain ⟨⟨i, h1, h2⟩, _⟩ := csz_spec h
  simp [Program.cellsOf, h1, h2]
theorem fieldsFrom_at : ∀ {F : List Field} {off : Nat} {fs : List (TypeId × Nat)}, fieldsFrom P off F = some fs → fs.length = F.length ∧ ∀ (i : Nat) (f : Field), F[i]? = some f → ∃ s, fs[i]? = some (f.type, s) ∧ csz P f.type = some s ∧ f.offset = off + sumSz (fs.take i)
  | [], off, fs, h => by simp [fieldsFrom] at h; subst h; exact ⟨rfl, fun i f hi => by simp at hi⟩
  | g :: F, off, fs, h => by
    simp only [fieldsFrom] at h
    split at h
    case h_2 => cases h
    case h_1 s hs =>
      have hb := beqN (bif_some h).1
      replace h := (bif_some h).2
      split at h
      case h_2 => cases h
      case h_1 l hl =>
        cases h
        obtain ⟨h1, h2⟩ := fieldsFrom_at hl
        refine ⟨by simp [h1], fun i f hi => ?_⟩
        cases i with
        | zero => simp at hi; subst hi; exact ⟨s + 1, rfl, hs, by simp [sumSz, hb]⟩
        | succ i =>
          obtain ⟨s', q1, q2, q3⟩ := h2 i f (by simpa using hi)
          exact ⟨s', by simpa using q1, q2, by rw [q3]; simp [sumSz]; omega⟩
theorem preps_of {W : World} {ok : Nat → Prop} : ∀ {fs : List (TypeId × Nat)} {t : T} {i : Nat} {cs : List Value}, cs.length = sumSz fs → (∀ (j : Nat) (τ : TypeId) (s : Nat), fs[j]? = some (τ, s) → PRep P W ok τ (t.get (i + j)) ((cs.drop (sumSz (fs.take j))).take s)) → PReps P W ok fs t i cs
  | [], t, i, cs, h, hj => by
    have : cs = [] := by simpa [sumSz] using h
    subst this; exact .nil
  | (τ, s) :: fs, t, i, cs, h, hj => by
    simp only [sumSz] at h
    have h0 := hj 0 τ s rfl
    simp only [List.take_zero, sumSz, List.drop_zero, Nat.add_zero] at h0
    rw [← List.take_append_drop s cs]
    refine .cons h0 (by rw [List.length_take]; omega) (preps_of (by rw [List.length_drop]; omega) (fun j τ' s' hj' => ?_))
    have := hj (j + 1) τ' s' (by simpa using hj')
    simp only [List.take_succ_cons, sumSz] at this
    rw [List.drop_drop, show i + 1 + j = i + (j + 1) by omega]
    exact this
end
end Go.Proofs.YtbejhhoakeapgaaVM
namespace Go.Proofs.YtbejhhoakeapgaaVM
open Go Go.RowKit
set_option linter.unusedVariables false
set_option linter.unusedSimpArgs false

theorem addr_add_add (a : Addr) (m n : Nat) : (a.add m).add n = a.add (m + n) := by
  unfold Addr.add
  repeat' split
  all_goals simp_all
  all_goals omega
theorem T_get_node {xs : List T} {i : Nat} {x : T} (h : xs[i]? = some x) : (T.node xs).get i = x := by
  simp [T.get, T.kids, List.getD, h]
theorem each_of {α : Type} {n : Nat} {Q : Nat → α → Prop} (h : ∀ i, i < n → ∃ y, Q i y) : ∃ l : List α, l.length = n ∧ ∀ i x, l[i]? = some x → Q i x := by
  obtain ⟨f, hf⟩ := Classical.axiomOfChoice (fun i : Fin n => h i.val i.isLt)
  refine ⟨List.ofFn f, by simp, fun i x hx => ?_⟩
  obtain ⟨hi, rfl⟩ := List.getElem?_eq_some_iff.1 hx
  rw [List.getElem_ofFn]
  exact hf ⟨i, by simpa using hi⟩
theorem opens {P : Program} {L : List TypeId} (hL : ∀ τ, memN L τ = true → okTy P L τ = true) {H : Type} {enc : TypeId × Value → H} {w : World} {base : Nat} {spare : Nat → Bool} {held : Bool} :
    ∀ (fuel : Nat) (τ : TypeId) (cs : List Value) (x : DataW H × List MemPlace), memN L τ = true → DataW.trod enc P w base spare held fuel τ cs = some x → ∃ t, PRep P w (fun _ => True) τ t cs ∧ TOk P τ t := by
  intro fuel
  induction fuel with
  | zero => intro τ cs x hm hx; simp [DataW.trod] at hx
  | succ fuel ih =>
    intro τ cs x hm hx
    have hok := hL τ hm
    unfold okTy at hok
    split at hok
    case h_1 k hu =>
      obtain ⟨n, rfl, _, hw⟩ := DataW.trod_int hu hx
      exact ⟨.int n, .int hu, .int hu hw⟩
    case h_2 hu =>
      obtain ⟨b, rfl, _⟩ := DataW.trod_bool hu hx
      exact ⟨.bool b, .bool hu, .bool hu⟩
    case h_3 hu =>
      obtain ⟨s, rfl, _, hs⟩ := DataW.trod_string hu hx
      exact ⟨.str s, .str hu, .str hu hs⟩
    case h_4 e0 hu =>
      split at hok
      case h_2 => cases hok
      case h_1 e s hr =>
        obtain ⟨hu', hcs, hs0⟩ := rowOf_slice hr
        rw [hu] at hu'; cases hu'
        rcases DataW.trod_slice hu hx with ⟨rfl, _⟩ | ⟨a, len, cap, elems, rest, n, hn, rfl, _, _, hl, hm', hlen, hel, _, _⟩
        · exact ⟨.node [], .slice (t := .node []) hu .nil (Nat.zero_le _), .slice hr (Nat.zero_le _) (fun i x hx => by simp at hx)⟩
        · cases hn
          have hce : P.cellsOf e0 = s := csz_cells hcs
          obtain ⟨xs, hxl, hxs⟩ := each_of (Q := fun i y => ∃ c, PRep P w (fun _ => True) e0 y c ∧ TOk P e0 y ∧ c.length = s ∧ ∀ j, j < s → w.cell? (a.add (i * s + j)) = c[j]?) (n := len) (fun i hi => by
            have h1 := hel i hi
            rw [List.getElem?_eq_getElem (by omega)] at h1
            obtain ⟨c, hc, hy⟩ := Option.bind_eq_some_iff.mp h1
            obtain ⟨y, q1, q2⟩ := ih e0 c _ hok hy
            obtain ⟨_, hcl, hcell⟩ := World.cells?_some hc
            refine ⟨y, c, q1, q2, by rw [hcl, hce], fun j hj => ?_⟩
            have := hcell j (by omega)
            rwa [addr_add_add, hce] at this)
          refine ⟨.node xs, ?_, .slice hr (by rw [hxl]; omega) (fun i x hx => (hxs i x hx).choose_spec.2.1)⟩
          have hkl : (T.node xs).kids.length = len := hxl
          have hrow : PRow P w (fun _ => True) e0 xs (some a) := by
            cases xs with
            | nil => exact .nil
            | cons x0 xs =>
              obtain ⟨c0, _, _, hc0, hcell0⟩ := hxs 0 x0 rfl
              have h00 := hcell0 0 hs0
              rw [List.getElem?_eq_getElem (by omega)] at h00
              obtain ⟨b, off, sp⟩ := a
              have hsp : sp = none ∧ ∃ c el fr, w.heap[b]? = some (.cells c el fr) := by
                unfold World.cell? Addr.add at h00
                cases hh : w.heap[b]? with
                | none => split at h00 <;> simp_all
                | some o =>
                  cases o with
                  | cells c el fr => cases sp <;> split at h00 <;> simp_all
                  | _ => split at h00 <;> simp_all
              obtain ⟨rfl, c, el, fr, hh⟩ := hsp
              refine .mk hcs hs0 trivial hh (fun i x hx => ?_)
              obtain ⟨ci, q1, _, q2, q3⟩ := hxs i x hx
              have : (c.toList.drop (off + i * s)).take s = ci := by
                apply List.ext_getElem?
                intro j
                rw [List.getElem?_take]
                split
                · rename_i hj
                  have := q3 j hj
                  rw [add_none, cell_of hh] at this
                  rw [List.getElem?_drop, Array.getElem?_toList, ← this]
                  congr 1; omega
                · rename_i hj
                  rw [List.getElem?_eq_none (by omega)]
              rw [this]; exact q1
          have := PRep.slice (P := P) (W := w) (ok := fun _ => True) (t := .node xs) (cap := cap) hu hrow (by rw [hkl]; exact hl)
          rwa [hkl] at this
    case h_5 F hu =>
      split at hok
      case h_2 => cases hok
      case h_1 fs hfs =>
        obtain ⟨_, hcs, F', hF', hfrom⟩ := fieldsOf_agg hfs
        rw [hu] at hF'; cases hF'
        obtain ⟨h1, h2⟩ := fieldsFrom_at hfrom
        obtain ⟨xs, n, hn, _, hcl, hxl, he⟩ := DataW.trod_struct hu hx
        cases hn
        rw [List.all_eq_true] at hok
        obtain ⟨ts, htl, hts⟩ := each_of (Q := fun i y => ∀ τ' s, fs[i]? = some (τ', s) → PRep P w (fun _ => True) τ' y ((cs.drop (sumSz (fs.take i))).take s) ∧ TOk P τ' y) (n := fs.length) (fun i hi => by
          have hF : F.toList[i]? = some (F.toList[i]'(by rw [← h1]; exact hi)) := List.getElem?_eq_getElem _
          obtain ⟨s, q1, q2, q3⟩ := h2 i _ hF
          have h3 := he i _ (by rw [← Array.getElem?_toList]; exact hF)
          rw [List.getElem?_eq_getElem (by rw [hxl, ← Array.length_toList, ← h1]; exact hi)] at h3
          rw [q3, csz_cells q2, Nat.zero_add] at h3
          have hmem := hok _ (List.mem_of_getElem? q1)
          obtain ⟨y, r1, r2⟩ := ih _ _ _ hmem h3
          refine ⟨y, fun τ' s' hq => ?_⟩
          rw [q1] at hq; cases hq
          exact ⟨r1, r2⟩)
        refine ⟨.node ts, .struct hfs (preps_of (by rw [hcl]; exact csz_cells hcs) (fun j τ' s hj => ?_)), .struct hfs htl (fun i f x hf hx => (hts i x hx f.1 f.2 hf).2)⟩
        have hjl : j < ts.length := by rw [htl]; exact (List.getElem?_eq_some_iff.1 hj).1
        rw [Nat.zero_add, T_get_node (List.getElem?_eq_getElem hjl)]
        exact (hts j _ (List.getElem?_eq_getElem hjl) τ' s hj).1
    case h_6 n0 e0 hu =>
      split at hok
      case h_2 => cases hok
      case h_1 N e s har =>
        obtain ⟨_, hcs, hce, hs0, hu'⟩ := arrOf_agg har
        rw [hu] at hu'; cases hu'
        obtain ⟨xs, m, hn, _, hcl, hxl, he⟩ := DataW.trod_array hu hx
        cases hn
        obtain ⟨ts, htl, hts⟩ := each_of (Q := fun i y => PRep P w (fun _ => True) e0 y ((cs.drop (i * s)).take s) ∧ TOk P e0 y) (n := n0) (fun i hi => by
          have h3 := he i hi
          rw [List.getElem?_eq_getElem (by omega), csz_cells hce] at h3
          exact ih _ _ _ hok h3)
        refine ⟨.node ts, .arr har (by rw [hcl]; exact csz_cells hcs) (fun i hi => ?_), .arr har htl (fun i x hx => (hts i x hx).2)⟩
        have hil : i < ts.length := by omega
        rw [T_get_node (List.getElem?_eq_getElem hil)]
        exact (hts i _ (List.getElem?_eq_getElem hil)).1
    case h_7 => cases hok
end Go.Proofs.YtbejhhoakeapgaaVM
namespace Go.Proofs.YtbejhhoakeapgaaVM
open Go Go.RowKit
set_option linter.unusedVariables false
set_option linter.unusedSimpArgs false

theorem FnOk.data {P : Program} {G : Globs} {e : Entry} {F : List A → Option (List A)} (h : FnOk P G e F) {ps rs : List TypeId} (hi : takeV (regRMs e.ins) ps = some []) (hio : e.ins.objs = []) (ho : allV e.outs.regs rs = true) (hd : allData P rs = true)
    {W : World} (hg : ∀ g τ t, (g, τ, t) ∈ G → ∃ c el fr s, W.heap[g]? = some (.cells c el fr) ∧ csz P τ = some s ∧ PRep P W (fun _ => True) τ t (c.toList.take s) ∧ s ≤ c.size) {ts : List T} {vs : List Value} (hv : PVs P W (fun _ => True) ps ts vs) {out : List A} (hF : F (ts.map A.t) = some out) :
    Calls P e.fid vs.toArray W fun x W' => ∃ us, x = .returned (retVal us) ∧ Below W.heap.size W W' ∧ PVs P W' (fun _ => True) rs ((List.range' 0 rs.length).map fun p => (aAt out p).tree) us := by
  let C : Ctx := ⟨W, fun _ => False, fun _ => False⟩
  let β : Places := fun _ => none
  have hall : ∀ {ok ok' : Nat → Prop} {W : World} {ps : List TypeId} {ts : List T} {vs : List Value}, (∀ b, ok b → ok' b) → PVs P W ok ps ts vs → PVs P W ok' ps ts vs := by
    intro ok ok' W ps
    induction ps with
    | nil => intro ts vs _ h; cases ts <;> cases vs <;> first | exact h.elim | exact trivial
    | cons τ ps ih =>
      intro ts vs hok h
      cases ts with
      | nil => exact h.elim
      | cons t ts =>
        cases vs with
        | nil => exact h.elim
        | cons v vs => exact ⟨h.1.stay ⟨fun b hb => .inl (hok b hb), fun _ _ _ h => h⟩, ih hok h.2⟩
  have hlk : ∀ as i n, lookOf P e.ins.objs as i n = none := fun as i n => by rw [hio]; rfl
  have hokA : ∀ (look : Look) b, okOf C β look b := fun look b => ⟨fun h => h, fun n pl _ hp => by cases hp⟩
  have ht := takeV_un (M := memOf P C β (lookOf P e.ins.objs (ts.map A.t) (unRs P id (ts.map A.t) (regRMs e.ins) 0).2) W) (β := β) (as := ts.map A.t) (i := 0) (vs2 := []) hi (hall (fun b _ => hokA _ b) hv) (fun p t hp => by
    simp only [aAt, List.getD, Nat.zero_add, List.getElem?_map, hp]; rfl) trivial
  obtain ⟨t1, t2, t3, t4, t5⟩ := ht
  rw [List.append_nil] at t1
  have hlenv := t1.length
  rw [unRs_length] at hlenv
  have hat : At P G C β e.ins (ts.map A.t) vs W := by
    refine ⟨by rw [← hlenv]; simp [regRMs], fun _ _ => rfl, ?_⟩
    refine { keeps := Keeps.start W _ _, defers := rfl, size := by simp, vals := t1.get, bound := fun t ht => ?_, objs := fun n o hn => (by rw [hlk] at hn; cases hn), inj := fun n m pl pl' hn => absurd (hlk _ _ _) hn,
             foot := fun n o pl hn => (by rw [hlk] at hn; cases hn), own := fun n o pl hn => (by rw [hlk] at hn; cases hn), roav := fun n o pl hn => (by rw [hlk] at hn; cases hn), free := fun _ _ => rfl, globs := fun g τ t hm => ?_, avold := fun b hb => hb.elim }
    · unfold regsOf
      rw [List.getD, List.getElem?_eq_none (by rw [unRs_length, hlenv]; exact ht)]
      rfl
    · obtain ⟨c, el, fr, s, q1, q2, q3, q4⟩ := hg g τ t hm
      exact ⟨g, 0, c, el, fr, s, rfl, hokA _ g, q1, q2, by rw [List.drop_zero]; exact q3.stay ⟨fun b _ => .inl (hokA _ b), fun _ _ _ h => h⟩, by omega⟩
  refine (h.2 C β vs (ts.map A.t) out W rfl hF hat).mono ?_
  rintro x W2 ⟨us, β', hx, _, hus, _, hrel⟩
  refine ⟨us, hx, ⟨hrel.keeps.os, hrel.keeps.tape, hrel.keeps.output, hrel.keeps.size, fun b hb => hrel.keeps.block b hb (fun hf => hf)⟩, ?_⟩
  have hvt := RVt.of_get (by rw [unRs_length]; simp [regRMs, hus]) hrel.vals
  exact hall (fun _ _ => trivial) (allV_un (M := memOf P C β' (lookOf P e.outs.objs out (unRs P id out (regRMs e.outs) 0).2) W2) ho hd hvt)
end Go.Proofs.YtbejhhoakeapgaaVM
namespace Go.Proofs.YtbejhhoakeapgaaVM
open Go
variable {P : Program} {G : List (Nat × TypeId × T)} {ents : List Entry}

def Does (P : Program) (G : List (Nat × TypeId × T)) (ents : List Entry) (i : Nat) (p : Option (List Bool)) (xs : List A) (r : Nat × List A) : Prop :=
  ∃ n0, ∀ n, n0 ≤ n → den P G ents n i p xs = some r
theorem Does.of {i : Nat} {p : Option (List Bool)} {xs : List A} {r : Nat × List A} (n0 : Nat) (h : ∀ n, n0 ≤ n → den P G ents (Nat.succ n) i p xs = some r) : Does P G ents i p xs r :=
  ⟨n0 + 1, fun n hn => by
    cases n with
    | zero => omega
    | succ n => exact h n (by omega)⟩
theorem Does.now {i : Nat} {p : Option (List Bool)} {xs : List A} {r : Nat × List A} (h : ∀ n, den P G ents (Nat.succ n) i p xs = some r) : Does P G ents i p xs r := .of 0 fun n _ => h n
theorem Does.next {i j : Nat} {p q : Option (List Bool)} {xs ys : List A} {r : Nat × List A} (h2 : Does P G ents j q ys r) (h : ∀ n, den P G ents (Nat.succ n) i p xs = den P G ents n j q ys) : Does P G ents i p xs r := by
  obtain ⟨n0, h0⟩ := h2
  exact .of n0 fun n hn => (h n).trans (h0 n hn)
theorem Does.ask {i j : Nat} {p q : Option (List Bool)} {xs ys : List A} {s r : Nat × List A} {f : Nat → Option (Nat × List A) → Option (Nat × List A)} (h1 : Does P G ents j q ys s)
    (h : ∀ n, den P G ents (Nat.succ n) i p xs = f n (den P G ents n j q ys)) (h2 : ∀ n, f n (some s) = some r) : Does P G ents i p xs r := by
  obtain ⟨n0, h0⟩ := h1
  exact .of n0 fun n hn => by rw [h n, h0 n hn, h2 n]
theorem Does.sem {i : Nat} {xs : List A} {c : Nat} {out : List A} (h : Does P G ents i none xs (c, out)) : ∃ n, sem P G ents n i xs = some out := by
  obtain ⟨n0, h0⟩ := h
  exact ⟨n0, by unfold Go.Proofs.YtbejhhoakeapgaaVM.sem; rw [h0 n0 (Nat.le_refl _)]; rfl⟩
theorem Does.both {i j : Nat} {p q : Option (List Bool)} {xs ys : List A} {r s : Nat × List A} (h1 : Does P G ents i p xs r) (h2 : Does P G ents j q ys s) : ∃ n0, ∀ n, n0 ≤ n → den P G ents n i p xs = some r ∧ den P G ents n j q ys = some s := by
  obtain ⟨a, ha⟩ := h1
  obtain ⟨b, hb⟩ := h2
  exact ⟨a + b, fun n hn => ⟨ha n (by omega), hb n (by omega)⟩⟩
theorem aAt_zero (a : A) (l : List A) : aAt (a :: l) 0 = a := id rfl
theorem aAt_succ (a : A) (l : List A) (i : Nat) : aAt (a :: l) (i + 1) = aAt l i := id rfl
theorem tree_t (x : T) : (A.t x).tree = x := id rfl
theorem num_int (n : Int) : (T.int n).num = n := id rfl
theorem tf_bool (b : Bool) : (T.bool b).tf = b := id rfl
theorem txt_str (s : ByteArray) : (T.str s).txt = s := id rfl
theorem kids_node (l : List T) : (T.node l).kids = l := id rfl
theorem get_node (l : List T) (i : Nat) : (T.node l).get i = l.getD i (.node []) := id rfl
theorem setPad_set (l : List T) (i : Nat) (h : i < l.length) (x : T) : setPad l i x = l.set i x := by
  induction l generalizing i with
  | nil => cases h
  | cons y l ih =>
    cases i with
    | zero => rfl
    | succ i => show y :: setPad l i x = _; rw [ih i (by simpa using h)]; rfl

theorem zxor_u8 {a b : Nat} (ha : a < 256) (hb : b < 256) : zbits .xor .u8 (a : Int) (b : Int) = ((a ^^^ b : Nat) : Int) := by
  have h : a ^^^ b < 2 ^ 8 := Nat.xor_lt_two_pow ha hb
  show IntKind.wrap .u8 (((BitVec.ofInt 8 (a : Int) ^^^ BitVec.ofInt 8 (b : Int)).toNat : Nat) : Int) = _
  rw [BitVec.toNat_xor, BitVec.ofInt_natCast, BitVec.ofInt_natCast, BitVec.toNat_ofNat, BitVec.toNat_ofNat, Nat.mod_eq_of_lt ha, Nat.mod_eq_of_lt hb]
  simp only [IntKind.wrap, IntKind.bits, IntKind.signed, Bool.false_and]
  simp
  omega
theorem zand_u8 {a b : Nat} (ha : a < 256) (hb : b < 256) : zbits .and .u8 (a : Int) (b : Int) = ((a &&& b : Nat) : Int) := by
  have h : a &&& b < 2 ^ 8 := Nat.and_lt_two_pow a hb
  show IntKind.wrap .u8 (((BitVec.ofInt 8 (a : Int) &&& BitVec.ofInt 8 (b : Int)).toNat : Nat) : Int) = _
  rw [BitVec.toNat_and, BitVec.ofInt_natCast, BitVec.ofInt_natCast, BitVec.toNat_ofNat, BitVec.toNat_ofNat, Nat.mod_eq_of_lt ha, Nat.mod_eq_of_lt hb]
  simp only [IntKind.wrap, IntKind.bits, IntKind.signed, Bool.false_and]
  simp
  omega
theorem zor_u8 {a b : Nat} (ha : a < 256) (hb : b < 256) : zbits .or .u8 (a : Int) (b : Int) = ((a ||| b : Nat) : Int) := by
  have h : a ||| b < 2 ^ 8 := Nat.or_lt_two_pow ha hb
  show IntKind.wrap .u8 (((BitVec.ofInt 8 (a : Int) ||| BitVec.ofInt 8 (b : Int)).toNat : Nat) : Int) = _
  rw [BitVec.toNat_or, BitVec.ofInt_natCast, BitVec.ofInt_natCast, BitVec.toNat_ofNat, BitVec.toNat_ofNat, Nat.mod_eq_of_lt ha, Nat.mod_eq_of_lt hb]
  simp only [IntKind.wrap, IntKind.bits, IntKind.signed, Bool.false_and]
  simp
  omega
theorem zxor_u32 {a b : Nat} (ha : a < 4294967296) (hb : b < 4294967296) : zbits .xor .u32 (a : Int) (b : Int) = ((a ^^^ b : Nat) : Int) := by
  have h : a ^^^ b < 2 ^ 32 := Nat.xor_lt_two_pow ha hb
  show IntKind.wrap .u32 (((BitVec.ofInt 32 (a : Int) ^^^ BitVec.ofInt 32 (b : Int)).toNat : Nat) : Int) = _
  rw [BitVec.toNat_xor, BitVec.ofInt_natCast, BitVec.ofInt_natCast, BitVec.toNat_ofNat, BitVec.toNat_ofNat, Nat.mod_eq_of_lt ha, Nat.mod_eq_of_lt hb]
  simp only [IntKind.wrap, IntKind.bits, IntKind.signed, Bool.false_and]
  simp
  omega
theorem zand_u32 {a b : Nat} (ha : a < 4294967296) (hb : b < 4294967296) : zbits .and .u32 (a : Int) (b : Int) = ((a &&& b : Nat) : Int) := by
  have h : a &&& b < 2 ^ 32 := Nat.and_lt_two_pow a hb
  show IntKind.wrap .u32 (((BitVec.ofInt 32 (a : Int) &&& BitVec.ofInt 32 (b : Int)).toNat : Nat) : Int) = _
  rw [BitVec.toNat_and, BitVec.ofInt_natCast, BitVec.ofInt_natCast, BitVec.toNat_ofNat, BitVec.toNat_ofNat, Nat.mod_eq_of_lt ha, Nat.mod_eq_of_lt hb]
  simp only [IntKind.wrap, IntKind.bits, IntKind.signed, Bool.false_and]
  simp
  omega
theorem zor_u32 {a b : Nat} (ha : a < 4294967296) (hb : b < 4294967296) : zbits .or .u32 (a : Int) (b : Int) = ((a ||| b : Nat) : Int) := by
  have h : a ||| b < 2 ^ 32 := Nat.or_lt_two_pow ha hb
  show IntKind.wrap .u32 (((BitVec.ofInt 32 (a : Int) ||| BitVec.ofInt 32 (b : Int)).toNat : Nat) : Int) = _
  rw [BitVec.toNat_or, BitVec.ofInt_natCast, BitVec.ofInt_natCast, BitVec.toNat_ofNat, BitVec.toNat_ofNat, Nat.mod_eq_of_lt ha, Nat.mod_eq_of_lt hb]
  simp only [IntKind.wrap, IntKind.bits, IntKind.signed, Bool.false_and]
  simp
  omega
theorem zxor_u64 {a b : Nat} (ha : a < 18446744073709551616) (hb : b < 18446744073709551616) : zbits .xor .u64 (a : Int) (b : Int) = ((a ^^^ b : Nat) : Int) := by
  have h : a ^^^ b < 2 ^ 64 := Nat.xor_lt_two_pow ha hb
  show IntKind.wrap .u64 (((BitVec.ofInt 64 (a : Int) ^^^ BitVec.ofInt 64 (b : Int)).toNat : Nat) : Int) = _
  rw [BitVec.toNat_xor, BitVec.ofInt_natCast, BitVec.ofInt_natCast, BitVec.toNat_ofNat, BitVec.toNat_ofNat, Nat.mod_eq_of_lt ha, Nat.mod_eq_of_lt hb]
  simp only [IntKind.wrap, IntKind.bits, IntKind.signed, Bool.false_and]
  simp
  omega
theorem zand_u64 {a b : Nat} (ha : a < 18446744073709551616) (hb : b < 18446744073709551616) : zbits .and .u64 (a : Int) (b : Int) = ((a &&& b : Nat) : Int) := by
  have h : a &&& b < 2 ^ 64 := Nat.and_lt_two_pow a hb
  show IntKind.wrap .u64 (((BitVec.ofInt 64 (a : Int) &&& BitVec.ofInt 64 (b : Int)).toNat : Nat) : Int) = _
  rw [BitVec.toNat_and, BitVec.ofInt_natCast, BitVec.ofInt_natCast, BitVec.toNat_ofNat, BitVec.toNat_ofNat, Nat.mod_eq_of_lt ha, Nat.mod_eq_of_lt hb]
  simp only [IntKind.wrap, IntKind.bits, IntKind.signed, Bool.false_and]
  simp
  omega
theorem zor_u64 {a b : Nat} (ha : a < 18446744073709551616) (hb : b < 18446744073709551616) : zbits .or .u64 (a : Int) (b : Int) = ((a ||| b : Nat) : Int) := by
  have h : a ||| b < 2 ^ 64 := Nat.or_lt_two_pow ha hb
  show IntKind.wrap .u64 (((BitVec.ofInt 64 (a : Int) ||| BitVec.ofInt 64 (b : Int)).toNat : Nat) : Int) = _
  rw [BitVec.toNat_or, BitVec.ofInt_natCast, BitVec.ofInt_natCast, BitVec.toNat_ofNat, BitVec.toNat_ofNat, Nat.mod_eq_of_lt ha, Nat.mod_eq_of_lt hb]
  simp only [IntKind.wrap, IntKind.bits, IntKind.signed, Bool.false_and]
  simp
  omega
theorem w64 {n : Int} (h0 : -9223372036854775808 ≤ n) (h1 : n ≤ 9223372036854775807) : IntKind.i64.wrap n = n := IntWalk.i64_in n ⟨h0, h1⟩
theorem wu8 (n : Nat) : IntKind.u8.wrap (n : Int) = ((n % 256 : Nat) : Int) := by
  simp only [IntKind.wrap, IntKind.bits, IntKind.signed, Bool.false_and]
  simp
theorem wu32 (n : Nat) : IntKind.u32.wrap (n : Int) = ((n % 4294967296 : Nat) : Int) := by
  simp only [IntKind.wrap, IntKind.bits, IntKind.signed, Bool.false_and]
  simp
theorem wu64 (n : Nat) : IntKind.u64.wrap (n : Int) = ((n % 18446744073709551616 : Nat) : Int) := by
  simp only [IntKind.wrap, IntKind.bits, IntKind.signed, Bool.false_and]
  simp
theorem fdivN (a b : Nat) : Int.fdiv (a : Int) (b : Int) = ((a / b : Nat) : Int) := by
  rw [Int.fdiv_eq_ediv_of_nonneg _ (by omega)]
  simp
theorem tdivN (a b : Nat) : Int.tdiv (a : Int) (b : Int) = ((a / b : Nat) : Int) := by
  simp
theorem tmodN (a b : Nat) : Int.tmod (a : Int) (b : Int) = ((a % b : Nat) : Int) := by
  rw [Int.tmod_eq_emod_of_nonneg (by omega)]
  simp
theorem castpow (k : Nat) : ((2 : Int) ^ k) = ((2 ^ k : Nat) : Int) := by simp
end Go.Proofs.YtbejhhoakeapgaaVM
namespace Go.Proofs.YtbejhhoakeapgaaVM
open Go Go.RowKit Go.ChangeShapes Go.WideShapes
set_option linter.unusedVariables false

def TOks (P : Program) : List TypeId → List T → Prop
  | [], [] => True
  | τ :: τs, t :: ts => TOk P τ t ∧ TOks P τs ts
  | _, _ => False
section
variable {P : Program} {H : Type} {enc : TypeId × Value → H} {W : World} {base b0 : Nat} {spare : Nat → Bool} {held : Bool}
theorem args_open {L : List TypeId} (hL : ∀ τ, memN L τ = true → okTy P L τ = true) : ∀ {τs : List TypeId} {vs : List Value} {ds : List (DataW H)} {ps : List MemPlace}, DataW.TrodAll enc P W base spare held τs vs ds ps →
    (τs.all (memN L)) = true → (∀ (j : Nat) t v, τs[j]? = some t → vs[j]? = some v → Value.okWide P W .any b0 t v) → ∃ ts, PVs P W (fun _ => True) τs ts vs ∧ TOks P τs ts := by
  intro τs
  induction τs with
  | nil =>
    intro vs ds ps h _ _
    obtain ⟨rfl, _, _⟩ := trodAll_nil h
    exact ⟨[], trivial, trivial⟩
  | cons τ τs ih =>
    intro vs ds ps h hm hv
    obtain ⟨v, vs, d, ds, p, q, rfl, rfl, rfl, ⟨fuel, hf⟩, hr⟩ := trodAll_cons h
    rw [List.all_cons, Bool.and_eq_true] at hm
    obtain ⟨ts, h1, h2⟩ := ih hr hm.2 (fun j t w hj hw => hv (j + 1) t w hj hw)
    obtain ⟨t, h3, h4⟩ := opens hL fuel τ v.cells.toList _ hm.1 hf
    have hok := hL τ hm.1
    have hvv := hv 0 τ v rfl rfl
    refine ⟨t :: ts, ⟨⟨v.cells.toList, h3, ?_⟩, h1⟩, h4, h2⟩
    unfold okTy at hok
    split at hok
    case h_1 k hu =>
      obtain ⟨n, rfl⟩ := okWide_int hu hvv
      rw [if_neg (by simp [isAggB, hu])]; rfl
    case h_2 hu =>
      obtain ⟨n, rfl⟩ := okWide_bool hu hvv
      rw [if_neg (by simp [isAggB, hu])]; rfl
    case h_3 hu =>
      obtain ⟨n, rfl⟩ := okWide_string hu hvv
      rw [if_neg (by simp [isAggB, hu])]; rfl
    case h_4 e hu =>
      obtain ⟨a, n, c, rfl⟩ := okWide_slice hu hvv
      rw [if_neg (by simp [isAggB, hu])]; rfl
    case h_5 F hu =>
      unfold Value.okWide at hvv
      rw [hu] at hvv
      obtain ⟨cs, rfl, _, _⟩ := hvv
      rw [if_pos (by simp [isAggB, hu])]; rfl
    case h_6 n e hu =>
      unfold Value.okWide at hvv
      rw [hu] at hvv
      obtain ⟨cs, rfl, _, _⟩ := hvv
      rw [if_pos (by simp [isAggB, hu])]; rfl
    case h_7 => cases hok
theorem args_stay {W' : World} (hl : laidOutB P = true) (hb : Below W.heap.size W W') : ∀ {τs : List TypeId} {vs : List Value} {ds : List (DataW H)} {ps : List MemPlace}, DataW.TrodAll enc P W 0 (fun _ => true) true τs vs ds ps →
    (τs.all fun τ => P.readableRec τ && decide (τ < P.types.size)) = true → (∀ p ∈ ps, p.block < W.heap.size) → DataW.TrodAll enc P W' 0 (fun b => decide (b < W.heap.size)) true τs vs ds ps := by
  intro τs
  induction τs with
  | nil =>
    intro vs ds ps h _ _
    obtain ⟨rfl, rfl, rfl⟩ := trodAll_nil h
    exact rfl
  | cons τ τs ih =>
    intro vs ds ps h hm hlt
    obtain ⟨v, vs, d, ds, p, q, rfl, rfl, rfl, hd, hr⟩ := trodAll_cons h
    rw [List.all_cons, Bool.and_eq_true, Bool.and_eq_true, decide_eq_true_eq] at hm
    exact ⟨p, q, Below.trod hl hm.1.1 hm.1.2 hd hb (fun x hx => hlt x (List.mem_append_left _ hx)), ih hr hm.2 (fun x hx => hlt x (List.mem_append_right _ hx)), rfl⟩
theorem bool_of {ok : Nat → Prop} {τ : TypeId} {b : Bool} {us : List Value} (hu : P.underlying τ = some .bool) (h : PVs P W ok [τ] [.bool b] us) : us = [.bool b] := by
  match us, h with
  | [v], ⟨⟨cs, h1, h2⟩, _⟩ =>
    rw [if_neg (by simp [isAggB, hu])] at h2
    subst h2
    cases h1 with
    | bool _ => rfl
    | int h => rw [hu] at h; cases h
    | str h => rw [hu] at h; cases h
    | slice h _ _ => rw [hu] at h; cases h
    | struct h _ => have := fieldsOf_agg h; obtain ⟨_, _, _, hq, _⟩ := this; rw [hu] at hq; cases hq
    | arr h _ _ => have := arrOf_agg h; obtain ⟨_, _, _, _, hq⟩ := this; rw [hu] at hq; cases hq
end
theorem TOk.str_of {P : Program} {τ : TypeId} {t : T} (hu : P.underlying τ = some .string) (h : TOk P τ t) : ∃ s, t = .str s ∧ s.size ≤ maxLen := by
  cases h with
  | str _ hs => exact ⟨_, rfl, hs⟩
  | int h _ => rw [hu] at h; cases h
  | bool h => rw [hu] at h; cases h
  | slice h _ _ => have := rowOf_slice h; obtain ⟨hq, _⟩ := this; rw [hu] at hq; cases hq
  | struct h _ _ => have := fieldsOf_agg h; obtain ⟨_, _, _, hq, _⟩ := this; rw [hu] at hq; cases hq
  | arr h _ _ => have := arrOf_agg h; obtain ⟨_, _, _, _, hq⟩ := this; rw [hu] at hq; cases hq
theorem TOk.int_of {P : Program} {τ : TypeId} {t : T} {k : IntKind} (hu : P.underlying τ = some (.int k)) (h : TOk P τ t) : ∃ n, t = .int n ∧ (Lit.int k n).wf = true := by
  cases h with
  | int h hw => rw [hu] at h; cases h; exact ⟨_, rfl, hw⟩
  | str h _ => rw [hu] at h; cases h
  | bool h => rw [hu] at h; cases h
  | slice h _ _ => have := rowOf_slice h; obtain ⟨hq, _⟩ := this; rw [hu] at hq; cases hq
  | struct h _ _ => have := fieldsOf_agg h; obtain ⟨_, _, _, hq, _⟩ := this; rw [hu] at hq; cases hq
  | arr h _ _ => have := arrOf_agg h; obtain ⟨_, _, _, _, hq⟩ := this; rw [hu] at hq; cases hq
theorem TOk.bool_of {P : Program} {τ : TypeId} {t : T} (hu : P.underlying τ = some .bool) (h : TOk P τ t) : ∃ b, t = .bool b := by
  cases h with
  | bool h => exact ⟨_, rfl⟩
  | int h hw => rw [hu] at h; cases h
  | str h _ => rw [hu] at h; cases h
  | slice h _ _ => have := rowOf_slice h; obtain ⟨hq, _⟩ := this; rw [hu] at hq; cases hq
  | struct h _ _ => have := fieldsOf_agg h; obtain ⟨_, _, _, hq, _⟩ := this; rw [hu] at hq; cases hq
  | arr h _ _ => have := arrOf_agg h; obtain ⟨_, _, _, _, hq⟩ := this; rw [hu] at hq; cases hq
theorem TOk.row_of {P : Program} {τ e : TypeId} {t : T} (hu : P.underlying τ = some (.slice e)) (h : TOk P τ t) : ∃ xs, t = .node xs ∧ xs.length ≤ maxLen ∧ ∀ x ∈ xs, TOk P e x := by
  cases h with
  | slice h hl hx =>
    obtain ⟨hq, _⟩ := rowOf_slice h
    rw [hu] at hq; cases hq
    exact ⟨_, rfl, hl, fun x hm => by obtain ⟨i, hi⟩ := List.getElem?_of_mem hm; exact hx i x hi⟩
  | bool h => rw [hu] at h; cases h
  | int h hw => rw [hu] at h; cases h
  | str h _ => rw [hu] at h; cases h
  | struct h _ _ => have := fieldsOf_agg h; obtain ⟨_, _, _, hq, _⟩ := this; rw [hu] at hq; cases hq
  | arr h _ _ => have := arrOf_agg h; obtain ⟨_, _, _, _, hq⟩ := this; rw [hu] at hq; cases hq
theorem toks_of {P : Program} : ∀ {fs : List (TypeId × Nat)} {xs : List T}, xs.length = fs.length → (∀ (i : Nat) f x, fs[i]? = some f → xs[i]? = some x → TOk P f.1 x) → TOks P (fs.map (·.1)) xs
  | [], [], _, _ => trivial
  | f :: fs, x :: xs, hl, hx => ⟨hx 0 f x rfl rfl, toks_of (by simpa using hl) (fun i g y hg hy => hx (i + 1) g y hg hy)⟩
theorem TOk.struct_of {P : Program} {τ : TypeId} {t : T} {fs : List (TypeId × Nat)} (hf : fieldsOf P τ = some fs) (h : TOk P τ t) : ∃ xs, t = .node xs ∧ TOks P (fs.map (·.1)) xs := by
  obtain ⟨_, _, F, hu, _⟩ := fieldsOf_agg hf
  cases h with
  | struct h hl hx =>
    rw [hf] at h; cases h
    exact ⟨_, rfl, toks_of hl hx⟩
  | bool h => rw [hu] at h; cases h
  | int h hw => rw [hu] at h; cases h
  | str h _ => rw [hu] at h; cases h
  | slice h _ _ => have := rowOf_slice h; obtain ⟨hq, _⟩ := this; rw [hu] at hq; cases hq
  | arr h _ _ => have := arrOf_agg h; obtain ⟨_, _, _, _, hq⟩ := this; rw [hu] at hq; cases hq
def entersB (P : Program) (f : FuncId) : Bool :=
  match P.funcs[f]? with
  | some fn => !(fn.name == "runtime.NumGoroutine") && !fn.body.isNone
  | none => false
theorem enters_of {P : Program} {ents : List Entry} (h : ents.all (fun e => entersB P e.fid) = true) (i : Nat) (e : Entry) (he : ents[i]? = some e) : Enters P e.fid := by
  have := List.all_eq_true.1 h e (List.mem_of_getElem? he)
  unfold entersB at this
  split at this
  case h_2 => cases this
  case h_1 fn hf =>
    rw [Bool.and_eq_true, Bool.not_eq_true', Bool.not_eq_true'] at this
    exact ⟨fn, hf, this.1, this.2⟩
theorem prims_of {P : Program} {G : Globs} {ents : List Entry} (h : ents.all (fun e => e.prim.isNone) = true) (i : Nat) (e : Entry) (F) (he : ents[i]? = some e) (hp : e.prim = some F) : FnOk P G e F := by
  have := List.all_eq_true.1 h e (List.mem_of_getElem? he)
  rw [hp] at this
  cases this
theorem types_of {P : Program} {L : List TypeId} (h : L.all (okTy P L) = true) (τ : TypeId) (hm : memN L τ = true) : okTy P L τ = true := by
  have hin : ∀ {l : List Nat} {n : Nat}, memN l n = true → n ∈ l := by
    intro l n
    induction l with
    | nil => intro h; cases h
    | cons m l ih =>
      intro h
      unfold memN at h
      rw [Bool.or_eq_true] at h
      rcases h with h | h
      · rw [Nat.eq_of_beq_eq_true h]; exact List.mem_cons_self
      · exact List.mem_cons_of_mem _ (ih h)
  exact List.all_eq_true.1 h τ (hin hm)
end Go.Proofs.YtbejhhoakeapgaaVM
namespace Go.Proofs.YtbejhhoakeapgaaVM
open Go
def cmpB (a b : ByteArray) : Int := bif sltB a b then -1 else bif sltB b a then 1 else 0
def cmpF (zs : List A) : Option (List A) := some [.t (.int (cmpB (aAt zs 0).tree.txt (aAt zs 1).tree.txt))]
def cmpE (f ts ti : Nat) : Entry := { fid := f, ins := ⟨[(0, .v ts), (1, .v ts)], []⟩, outs := ⟨[(0, .v ti)], []⟩, cuts := [], prim := some cmpF }
def wordsL : List ByteArray := [⟨#[97, 110, 121]⟩, ⟨#[98, 111, 111, 108]⟩, ⟨#[99, 111, 109, 112, 117, 116, 101, 100]⟩, ⟨#[102, 97, 108, 115, 101]⟩, ⟨#[105, 110, 116]⟩, ⟨#[110, 111, 110, 101]⟩, ⟨#[114, 101, 115, 111, 117, 114, 99, 101]⟩, ⟨#[115, 116, 114, 105, 110, 103]⟩, ⟨#[116, 114, 117, 101]⟩]
def small (c : UInt8) : Bool := decide (97 ≤ c.toNat) && decide (c.toNat ≤ 122)
def inner (c : UInt8) : Bool := small c || c.toNat == 95 || (decide (48 ≤ c.toNat) && decide (c.toNat ≤ 57))
def nameL : List UInt8 → Bool
  | [] => false
  | c :: l => small c && l.all inner
def nameB (s : ByteArray) : Bool := decide (s.size ≤ 16) && !(wordsL.any fun w => seqB w s) && nameL s.data.toList
def nameF (zs : List A) : Option (List A) := some [.t (.bool (nameB (aAt zs 0).tree.txt))]
def nameE (f ts tb : Nat) : Entry := { fid := f, ins := ⟨[(0, .v ts)], []⟩, outs := ⟨[(0, .v tb)], []⟩, cuts := [], prim := some nameF }
end Go.Proofs.YtbejhhoakeapgaaVM
namespace Go.Proofs.YtbejhhoakeapgaaVM
open Go
inductive Stp (σ : Type) where
  | go (s : σ) | out (r : Nat × List A)
def runL {σ α : Type} (g : σ → α → Stp σ) (r : σ → Nat × List A) : σ → List α → Nat × List A
  | s, [] => r s
  | s, a :: l => match g s a with
    | .go s' => runL g r s' l
    | .out R => R
variable {P : Program} {G : List (Nat × TypeId × T)} {ents : List Entry}
theorem Does.run {σ α : Type} {i : Nat} {p : Option (List Bool)} (l : List α) (I : Nat → σ → List A) (g : σ → α → Stp σ) (r : σ → Nat × List A) (Inv : Nat → σ → Prop)
    (hend : ∀ s, Inv l.length s → Does P G ents i p (I l.length s) (r s))
    (hgo : ∀ j (hj : j < l.length) s s', Inv j s → g s l[j] = .go s' → Inv (j + 1) s' ∧ ∀ R, Does P G ents i p (I (j + 1) s') R → Does P G ents i p (I j s) R)
    (hout : ∀ j (hj : j < l.length) s R, Inv j s → g s l[j] = .out R → Does P G ents i p (I j s) R) :
    ∀ (d j : Nat) (s : σ), j + d = l.length → Inv j s → Does P G ents i p (I j s) (runL g r s (l.drop j)) := by
  intro d
  induction d with
  | zero =>
    intro j s hj hi
    have : j = l.length := by omega
    subst this
    rw [List.drop_length]
    exact hend s hi
  | succ d ih =>
    intro j s hj hi
    have hlt : j < l.length := by omega
    rw [List.drop_eq_getElem_cons hlt, runL]
    cases hg : g s l[j] with
    | go s' =>
      obtain ⟨h1, h2⟩ := hgo j hlt s s' hi hg
      exact h2 _ (ih (j + 1) s' (by omega) h1)
    | out R => exact hout j hlt s R hi hg
theorem Does.run0 {σ α : Type} {i : Nat} {p : Option (List Bool)} (l : List α) (I : Nat → σ → List A) (g : σ → α → Stp σ) (r : σ → Nat × List A) (Inv : Nat → σ → Prop)
    (hend : ∀ s, Inv l.length s → Does P G ents i p (I l.length s) (r s))
    (hgo : ∀ j (hj : j < l.length) s s', Inv j s → g s l[j] = .go s' → Inv (j + 1) s' ∧ ∀ R, Does P G ents i p (I (j + 1) s') R → Does P G ents i p (I j s) R)
    (hout : ∀ j (hj : j < l.length) s R, Inv j s → g s l[j] = .out R → Does P G ents i p (I j s) R) (s : σ) (h0 : Inv 0 s) : Does P G ents i p (I 0 s) (runL g r s l) :=
  Does.run l I g r Inv hend hgo hout l.length 0 s (by omega) h0
theorem runL_fold {σ α : Type} (f : σ → α → σ) (r : σ → Nat × List A) : ∀ (l : List α) (s : σ), runL (fun s a => .go (f s a)) r s l = r (l.foldl f s)
  | [], _ => rfl
  | a :: l, s => runL_fold f r l (f s a)
theorem i64nat {n : Nat} (h : n < 9223372036854775808) : IntKind.i64.wrap (n : Int) = (n : Int) := w64 (by omega) (by omega)
theorem i64succ {n : Nat} (h : n < 9223372036854775807) : IntKind.i64.wrap ((n : Int) + 1) = ((n + 1 : Nat) : Int) := by rw [w64 (by omega) (by omega)]; rfl
theorem i64add {a b : Nat} (h : a + b < 9223372036854775808) : IntKind.i64.wrap ((a : Int) + (b : Int)) = ((a + b : Nat) : Int) := by rw [w64 (by omega) (by omega)]; rfl
theorem nb12 : Nat.beq 1 2 = false := id rfl
theorem nb21 : Nat.beq 2 1 = false := id rfl
theorem nb14 : Nat.beq 1 4 = false := id rfl
theorem nb24 : Nat.beq 2 4 = false := id rfl
theorem nb42 : Nat.beq 4 2 = false := id rfl
theorem nb41 : Nat.beq 4 1 = false := id rfl
theorem at_get {l : List T} {j : Nat} (h : j < l.length) : tAtD l j = l[j] := by simp [tAtD, List.getD, h]
end Go.Proofs.YtbejhhoakeapgaaVM
namespace Go.Proofs.YtbejhhoakeapgaaVM
open Go
def T.g (t : T) (i : Nat) : T := t.get i
def T.n (t : T) : Int := t.num
def T.b (t : T) : Bool := t.tf
def T.s (t : T) : ByteArray := t.txt
def T.k (t : T) : List T := t.kids
def T.l (t : T) : Int := ((t.kids.length : Nat) : Int)
def T.z (t : T) : Int := ((t.txt.size : Nat) : Int)
def T.a (t : T) (i : Int) : T := tAtD t.kids i.toNat
def r (v : List A) (i : Nat) : T := (aAt v i).tree
def lt (a b : Int) : Bool := decide (a < b)
def le (a b : Int) : Bool := decide (a ≤ b)
def gt (a b : Int) : Bool := decide (a > b)
def ge (a b : Int) : Bool := decide (a ≥ b)
def ib (i n : Int) : Bool := Bool.and (decide (0 ≤ i)) (decide (i < n))
def w6 (a : Int) : Int := IntKind.wrap .i64 a
def wu (a : Int) : Int := IntKind.wrap .u64 a
def wb (a : Int) : Int := IntKind.wrap .u8 a
def bs (l : List UInt8) : ByteArray := ByteArray.mk (List.toArray l)
def rt (l : List A) : Option (Nat × List A) := some (1, l)
def aI (n : Int) : A := .t (.int n)
def aB (b : Bool) : A := .t (.bool b)
def aS (s : ByteArray) : A := .t (.str s)
def aL (l : List T) : A := .t (.node l)
theorem S0 : (∀ n, (T.int n).num = n) ∧ (∀ b, (T.bool b).tf = b) ∧ (∀ s, (T.str s).txt = s) ∧ (∀ l, (T.node l).kids = l) ∧ (∀ x, (A.t x).tree = x) ∧ (∀ a l, aAt (a :: l) 0 = a) ∧ (∀ a l i, aAt (a :: l) (i + 1) = aAt l i) ∧
    (∀ x : Nat × List A, Option.map (fun v => v.2) (some x) = some x.2) ∧ (∀ (x : List A) (k : List A → Option (Nat × List A)), Option.bind (some x) k = k x) ∧ (∀ (x : Nat × List A) (k : Nat × List A → Option (Nat × List A)), Option.bind (some x) k = k x) ∧
    (∀ n, Nat.beq n n = true) ∧ (∀ (c : Bool) (x y : Option (Nat × List A)), cond c x y = if c = true then x else y) ∧ (∀ (p : Prop) [Decidable p], (decide p = true) = p) ∧ (∀ (p : Prop) [Decidable p], (decide p = false) = ¬ p) ∧
    (∀ a b : Bool, ((a && b) = true) = (a = true ∧ b = true)) ∧ (∀ a b : Bool, ((a || b) = true) = (a = true ∨ b = true)) ∧ (∀ a b : Int, ((a == b) = true) = (a = b)) ∧ (∀ a b : Int, ((a == b) = false) = ¬ a = b) ∧ (∀ a b : Int, ((a != b) = true) = ¬ a = b) ∧
    (∀ a b : Bool, ((a == b) = true) = (a = b)) ∧ (∀ a b : Bool, ((a == b) = false) = ¬ a = b) ∧ (∀ a b : Bool, ((a != b) = true) = ¬ a = b) ∧
    (∀ n : Nat, Int.toNat (n : Int) = n) ∧ ((false = true) = False) ∧ Nat.beq 1 2 = false ∧ Nat.beq 2 1 = false ∧ Nat.beq 1 4 = false ∧ Nat.beq 2 4 = false ∧ Nat.beq 4 2 = false ∧ Nat.beq 4 1 = false :=
  ⟨fun _ => rfl, fun _ => rfl, fun _ => rfl, fun _ => rfl, fun _ => rfl, fun _ _ => rfl, fun _ _ _ => rfl, fun _ => rfl, fun _ _ => rfl, fun _ _ => rfl, fun n => Nat.beq_refl n, fun c x y => by cases c <;> rfl, fun p _ => by simp, fun p _ => by simp,
    fun a b => by simp, fun a b => by simp, fun a b => by simp, fun a b => by simp, fun a b => by simp, fun a b => by simp, fun a b => by simp, fun a b => by simp, fun n => by simp, by simp, rfl, rfl, rfl, rfl, rfl, rfl⟩
theorem S9 : (∀ t i, T.g t i = t.get i) ∧ (∀ t, T.n t = t.num) ∧ (∀ t, T.b t = t.tf) ∧ (∀ t, T.s t = t.txt) ∧ (∀ t, T.k t = t.kids) ∧ (∀ t, T.l t = ((t.kids.length : Nat) : Int)) ∧ (∀ t, T.z t = ((t.txt.size : Nat) : Int)) ∧ (∀ t i, T.a t i = tAtD t.kids i.toNat) ∧
    (∀ v i, r v i = (aAt v i).tree) ∧ (∀ a b, lt a b = decide (a < b)) ∧ (∀ a b, le a b = decide (a ≤ b)) ∧ (∀ a b, gt a b = decide (a > b)) ∧ (∀ a b, ge a b = decide (a ≥ b)) ∧ (∀ i n, ib i n = Bool.and (decide (0 ≤ i)) (decide (i < n))) ∧
    (∀ a, w6 a = IntKind.wrap .i64 a) ∧ (∀ a, wu a = IntKind.wrap .u64 a) ∧ (∀ a, wb a = IntKind.wrap .u8 a) ∧ (∀ l, bs l = ByteArray.mk (List.toArray l)) ∧ (∀ l, rt l = some (1, l)) ∧ (∀ n, aI n = A.t (.int n)) ∧ (∀ b, aB b = A.t (.bool b)) ∧ (∀ s, aS s = A.t (.str s)) ∧ (∀ l, aL l = A.t (.node l)) :=
  ⟨fun _ _ => rfl, fun _ => rfl, fun _ => rfl, fun _ => rfl, fun _ => rfl, fun _ => rfl, fun _ => rfl, fun _ _ => rfl, fun _ _ => rfl, fun _ _ => rfl, fun _ _ => rfl, fun _ _ => rfl, fun _ _ => rfl, fun _ _ => rfl, fun _ => rfl, fun _ => rfl, fun _ => rfl, fun _ => rfl, fun _ => rfl, fun _ => rfl, fun _ => rfl, fun _ => rfl, fun _ => rfl⟩
end Go.Proofs.YtbejhhoakeapgaaVM
