/- A helper of this seat's claims (the logic of the walks): what it shows is shown for every input that its statements name, on no other condition. -/
import Derived.Test.YtpponffjeilhmaaK10
set_option linter.unusedVariables false
set_option linter.unusedSimpArgs false
namespace Go.KH
open Go.RowKit

section
variable {P : Program}

/-- A loop by an invariant with a number that falls. -/
theorem wp_loop_num {c : Code} {Q : Exit → Act → World → Prop} {a : Act} {w : World} (J : Nat → Act → World → Prop) (m : Nat) (h₀ : J m a w)
    (round : ∀ m a w, J m a w → c.wp P (Exit.then (fun a' w' => ∃ m', m' < m ∧ J m' a' w') Q) a w) : (Code.loop c).wp P Q a w := by
  classical
  have least : ∀ (p : Nat → Prop) (m : Nat), p m → ∃ k, p k ∧ ∀ j, p j → k ≤ j := by
    intro p m
    induction m using Nat.strongRecOn with
    | _ m ih =>
      intro hm
      by_cases h : ∃ j, j < m ∧ p j
      · obtain ⟨j, hj, hp⟩ := h; exact ih j hj hp
      · exact ⟨m, hm, fun j hj => Nat.le_of_not_lt fun hlt => h ⟨j, hlt, hj⟩⟩
  have least' : ∀ a w, (∃ m, J m a w) → ∃ k, J k a w ∧ ∀ j, J j a w → k ≤ j := fun a w ⟨m, hm⟩ => least (fun m => J m a w) m hm
  let μ : Act → World → Nat := fun a w => if h : ∃ m, J m a w then (least' a w h).choose else 0
  have hμ : ∀ a w m, J m a w → μ a w ≤ m ∧ J (μ a w) a w := by
    intro a w m h
    have hex : ∃ m, J m a w := ⟨m, h⟩
    have e : μ a w = (least' a w hex).choose := by simp only [μ]; rw [dif_pos hex]
    have := (least' a w hex).choose_spec
    rw [e]
    exact ⟨this.2 m h, this.1⟩
  refine wp_loop (fun a w => ∃ m, J m a w) μ ⟨m, h₀⟩ ?_
  rintro a w ⟨m, hm⟩
  have h1 := (hμ a w m hm).2
  refine wp_mono (round _ a w h1) ?_
  intro e a' w' hq
  cases e <;> simp only [Exit.then] at hq ⊢
  case normal =>
    obtain ⟨m', hlt, hj⟩ := hq
    exact ⟨⟨m', hj⟩, Nat.lt_of_le_of_lt (hμ a' w' m' hj).1 hlt⟩
  all_goals exact hq

theorem asB_of_withO {v : Value} {K : Bool → Prop} (h : withO (asB v) K) : ∃ t, v = .bool t ∧ K t := by
  obtain ⟨t, ht, hk⟩ := h; exact ⟨t, asB_some ht, hk⟩

theorem wpc_sound {N : Nat} (hm : P.follows .mixedOrders = true) {w0 : World} {B : Nat} : ∀ (code : Code) (c : C), prepC P N code = some c → ∀ (Q : Ex → Fr → H → Prop) (f : Fr) (h : H) (a : Act) (w : World),
    FrR N f a.tmps → a.defers = [] → Rel w0 h w → h.base = B → wpc P c Q f h → code.wp P (postC w0 B N Q) a w := by
  intro code
  induction code with
  | skip =>
    intro c hc Q f h a w hf hd r hb hk
    simp only [prepC, Option.some.injEq] at hc; subst hc
    exact wp_skip ⟨f, h, hf, hd, r, hb, hk⟩
  | region id ops draw =>
    intro c hc Q f h a w hf hd r hb hk
    cases draw with
    | false =>
      simp only [prepC, Option.map_eq_some_iff] at hc
      obtain ⟨gs, hg, rfl⟩ := hc
      exact wp_region (opsw_sound _ gs a f w h hg hf hd r hb hk)
    | true =>
      simp only [prepC, Option.bind_eq_some_iff, Option.map_eq_some_iff] at hc
      obtain ⟨σ, hσ, l, hl, rfl⟩ := hc
      unfold prepD at hl
      split at hl
      · rename_i hcond
        obtain ⟨h1, h2, h3⟩ := hcond
        simp only [wpc] at hk
        have hs : Has (if hasLd l = true then h else h.none) w := by
          split
          · exact r.has
          · exact Has.mk (fun b ob hb => by cases hb) (fun b l hb => by cases hb)
        have := dopw_sound (P := P) (w0 := w0) (B := B) (Q := Q) h1 σ _ l a f { w with drawn := w.drawn + 1 } h _ hl h3 (closed_zero _ _) hf hd r.drew hb (fun _ => ⟨rfl, ⟨fun b ob hb => hs.cells b ob hb, fun b l hb => hs.maps b l hb⟩⟩) hk
        rw [h2] at this
        exact wp_region_any hm (wpAny_of_Z _ _ _ _ this)
      · cases hl
  | seq x y ihx ihy =>
    intro c hc Q f h a w hf hd r hb hk
    simp only [prepC, Option.bind_eq_some_iff, Option.some.injEq] at hc
    obtain ⟨cx, hcx, cy, hcy, rfl⟩ := hc
    refine wp_seq (wp_mono (ihx cx hcx _ f h a w hf hd r hb hk) ?_)
    intro e a' w' hq
    cases e <;> simp only [postC, Exit.then] at hq ⊢
    case normal =>
      obtain ⟨f', h', hf', hd', r', hb', hk'⟩ := hq
      exact ihy cy hcy Q f' h' a' w' hf' hd' r' hb' hk'
    all_goals exact hq
  | cond x y z ihy ihz =>
    intro c hc Q f h a w hf hd r hb hk
    simp only [prepC, Option.bind_eq_some_iff, Option.some.injEq] at hc
    obtain ⟨cy, hcy, cz, hcz, rfl⟩ := hc
    obtain ⟨t, ht, hk⟩ := asB_of_withO hk
    refine wp_cond (t := t) (by rw [hf.eval, ht]) ?_
    cases t
    · simp only [Bool.false_eq_true, if_false] at hk ⊢; exact ihz cz hcz Q f h a w hf hd r hb hk
    · simp only [if_true] at hk ⊢; exact ihy cy hcy Q f h a w hf hd r hb hk
  | block id x ih =>
    intro c hc Q f h a w hf hd r hb hk
    simp only [prepC, Option.map_eq_some_iff] at hc
    obtain ⟨cx, hcx, rfl⟩ := hc
    refine wp_block (wp_mono (ih cx hcx _ f h a w hf hd r hb hk) ?_)
    intro e a' w' hq
    cases e <;> simp only [postC, Exit.inBlock] at hq ⊢
    case exit i =>
      obtain ⟨f', h', hf', hd', r', hb', hk'⟩ := hq
      by_cases hi : i = id
      · rw [if_pos hi] at hk' ⊢; exact ⟨f', h', hf', hd', r', hb', hk'⟩
      · rw [if_neg hi] at hk' ⊢; exact ⟨f', h', hf', hd', r', hb', hk'⟩
    all_goals exact hq
  | loop x ih =>
    intro c hc Q f h a w hf hd r hb hk
    simp only [prepC, Option.map_eq_some_iff] at hc
    obtain ⟨cx, hcx, rfl⟩ := hc
    obtain ⟨I, ⟨m, hm0⟩, hround⟩ := hk
    refine wp_loop_num (fun m a w => ∃ f h, FrR N f a.tmps ∧ a.defers = [] ∧ Rel w0 h w ∧ h.base = B ∧ I m f h) m ⟨f, h, hf, hd, r, hb, hm0⟩ ?_
    rintro m a w ⟨f, h, hf, hd, r, hb, hI⟩
    refine wp_mono (ih cx hcx _ f h a w hf hd r hb (hround m f h hI)) ?_
    intro e a' w' hq
    cases e <;> simp only [postC, Exit.then] at hq ⊢
    case normal =>
      obtain ⟨f', h', hf', hd', r', hb', m', hlt, h'', he, hk'⟩ := hq
      exact ⟨m', hlt, f', h'', hf', hd', r'.weaken he, he.1.symm.trans hb', hk'⟩
    all_goals exact hq
  | exit id =>
    intro c hc Q f h a w hf hd r hb hk
    simp only [prepC, Option.some.injEq] at hc; subst hc
    exact wp_exit ⟨f, h, hf, hd, r, hb, hk⟩
  | ret =>
    intro c hc Q f h a w hf hd r hb hk
    simp only [prepC, Option.some.injEq] at hc; subst hc
    exact wp_ret ⟨f, h, hf, hd, r, hb, hk⟩
  | _ => intro c hc; simp [prepC] at hc

theorem run_loadVar' {ty : TypeId} {d : TypeDesc} {i : TypeInfo} (hd : P.underlying ty = some d) (hi : P.info? ty = some i) {h : H} {w : World} (hh : Has h w) {ρ : X → Value} {x : X} {v : Value}
    (hv : pval ρ h (.ld (isAggD d) (if isAggD d then i.size else 1) x) = some v) : ∃ b o, ρ x = ptr b o ∧ (loadVar ty ⟨b, o, none⟩).run P w = .ok v w := by
  by_cases hA : isAggD d = true
  · simp only [hA, if_true, pval, Option.bind_eq_some_iff, Option.some.injEq] at hv
    obtain ⟨q, hq, cs, hc, rfl⟩ := hv
    exact ⟨_, _, asP_some hq, by simp [loadVar, run_isAgg' hd, hA, run_sizeOf' hi, run_ldc hh hc]⟩
  · have hA : isAggD d = false := by simpa using hA
    simp only [hA, if_false, Bool.false_eq_true, pval, Option.bind_eq_some_iff] at hv
    obtain ⟨q, hq, cs, hc, hv⟩ := hv
    unfold one at hv
    split at hv
    · simp only [Option.some.injEq] at hv; subst hv
      exact ⟨_, _, asP_some hq, by simp only [loadVar, Sem.run_bind, run_isAgg' hd, hA, Result.andThen_ok, if_false, Bool.false_eq_true, run_ld1 hh hc]⟩
    · cases hv

def rr (tmps : Array Value) : ResultVar → Sem Value
  | .tmp t => pure (tmps.getD t undef)
  | .cell a t => do loadVar t (← asAddr (tmps.getD a undef))

theorem run_results {w : World} {h : H} {N : Nat} {f : Fr} {tmps : Array Value} (hf : FrR N f tmps) (hh : Has h w) : ∀ (rs : List ResultVar) (R : List R) (vs : List Value), rs.mapM (prepR P) = some R → rvs f h R = some vs →
    (rs.mapM (rr tmps)).run P w = .ok vs w
  | [], R, vs, hR, hv => by simp at hR; subst hR; simp [rvs] at hv; subst hv; simp
  | x :: rs, R, vs, hR, hv => by
    simp only [List.mapM_cons, Option.bind_eq_bind, Option.bind_eq_some_iff, Option.pure_def, Option.some.injEq] at hR
    obtain ⟨y, hy, R', hR', rfl⟩ := hR
    simp only [rvs, Option.bind_eq_some_iff, Option.some.injEq] at hv
    obtain ⟨v, hv, vs', hvs, rfl⟩ := hv
    have ih := run_results hf hh rs R' vs' hR' hvs
    have h1 : (rr tmps x).run P w = .ok v w := by
      cases x with
      | tmp t =>
        simp only [prepR, Option.some.injEq] at hy; subst hy
        simp only [rv, Option.some.injEq] at hv; subst hv
        simp only [rr, Sem.run_pure, hf.2 t]
      | cell t ty =>
        simp only [prepR, Option.bind_eq_some_iff, Option.some.injEq] at hy
        obtain ⟨d, hd, i, hi, rfl⟩ := hy
        simp only [rv] at hv
        obtain ⟨b, o, e1, e2⟩ := run_loadVar' (P := P) hd hi hh hv
        simp only [ev] at e1
        simp only [rr, hf.2 t, e1, ptr, asAddr, Sem.run_bind, Sem.run_pure, Result.andThen_ok, e2]
    simp only [List.mapM_cons, Sem.run_bind, h1, Result.andThen_ok, ih, Sem.run_pure]

theorem AC.of_wpc {n : FuncId} {fn : Func} {FF : F} (hm : P.follows .mixedOrders = true) (hfn : P.funcs[n]? = some fn) (hname : (fn.name == "runtime.NumGoroutine") = false) (hp : prepF P fn = some FF) {args : List Value} {h : H} {Q : Value → H → Prop}
    (hl : args.length ≤ FF.N) (hk : wpc P FF.body (retw FF.res Q) (argsFr args) h) : AC P n args h Q := by
  unfold prepF at hp
  simp only [Option.bind_eq_some_iff, Option.some.injEq] at hp
  obtain ⟨code, hcode, c, hc, rs, hrs, rfl⟩ := hp
  refine ⟨⟨fn, hfn, hname, by rw [hcode]; rfl⟩, fun w0 w r => ?_⟩
  refine calls_of_wp hfn hcode ?_
  have hfr : FrR fn.ntmps (argsFr args) (args.toArray ++ Array.replicate (fn.ntmps - args.toArray.size) undef) := by
    refine ⟨by simp; simp at hl; omega, fun i => ?_⟩
    simp only [argsFr, List.getD_eq_getElem?_getD]
    rcases Nat.lt_or_ge i args.length with hlt | hge
    · simp [Array.getD_eq_getD_getElem?, Array.getElem?_append_left, hlt]
    · rw [List.getElem?_eq_none hge]
      simp only [Array.getD_eq_getD_getElem?]
      rw [Array.getElem?_append_right (by simpa using hge)]
      simp only [Array.getElem?_replicate]
      split <;> rfl
  refine wp_mono (wpc_sound hm code c hc _ _ h _ w hfr rfl r rfl hk) ?_
  have fin : ∀ (a : Act) (w' : World) (f' : Fr) (h' : H), FrR fn.ntmps f' a.tmps → a.defers = [] → Rel w0 h' w' → h'.base = h.base → withO (rvs f' h' rs) (fun vs => Q (tup vs) h') →
      a.defers = [] ∧ ∃ v, (results fn a.tmps).run P w' = .ok v w' ∧ ∃ v' h', Ending.returned v = .returned v' ∧ h'.base = h.base ∧ Rel w0 h' w' ∧ Q v' h' := by
    intro a w' f' h' hf' hd' r' hb' hq
    obtain ⟨vs, hvs, hq⟩ := hq
    refine ⟨hd', tup vs, ?_, tup vs, h', rfl, hb', r', hq⟩
    have h1 := run_results (P := P) hf' r'.has fn.results.toList rs vs hrs hvs
    have h2 : (fn.results.mapM (rr a.tmps)).run P w' = .ok vs.toArray w' := by
      rw [← Array.toArray_toList (xs := fn.results), List.mapM_toArray]
      simp only [Sem.run_map, h1, Result.andThen_ok]
    have h3 : results fn a.tmps = (do
      let vs ← fn.results.mapM (rr a.tmps)
      pure (if h : vs.size = 1 then vs[0] else .tuple vs)) := rfl
    rw [h3]
    simp only [Sem.run_bind, h2, Result.andThen_ok, Sem.run_pure]
    congr 1
    cases vs with
    | nil => rfl
    | cons v vs => cases vs with
      | nil => rfl
      | cons u vs => simp [tup]
  intro e a w' hq
  cases e <;> simp only [postC, bodyPost] at hq ⊢
  case normal => obtain ⟨f', h', hf', hd', r', hb', hq⟩ := hq; exact fin a w' f' h' hf' hd' r' hb' hq
  case ret => obtain ⟨f', h', hf', hd', r', hb', hq⟩ := hq; exact fin a w' f' h' hf' hd' r' hb' hq
  case exit i => obtain ⟨f', h', hf', hd', r', hb', hq⟩ := hq; exact hq
end
end Go.KH
