/- A helper of this seat's claims (the logic of the walks): what it shows is shown for every input that its statements name, on no other condition. -/
import Derived.Test.YtpponffjeilhmaaK9
set_option linter.unusedVariables false
set_option linter.unusedSimpArgs false
namespace Go.KH
open Go.RowKit

section
variable {P : Program}

def postC (w0 : World) (B N : Nat) (Q : Ex → Fr → H → Prop) : Exit → Act → World → Prop
  | .normal, a, w => ∃ f h, FrR N f a.tmps ∧ a.defers = [] ∧ Rel w0 h w ∧ h.base = B ∧ Q .nor f h
  | .exit i, a, w => ∃ f h, FrR N f a.tmps ∧ a.defers = [] ∧ Rel w0 h w ∧ h.base = B ∧ Q (.exit i) f h
  | .ret, a, w => ∃ f h, FrR N f a.tmps ∧ a.defers = [] ∧ Rel w0 h w ∧ h.base = B ∧ Q .ret f h
  | _, _, _ => False

theorem FrR.putf {N : Nat} {f : Fr} {a : Act} (hf : FrR N f a.tmps) (d : Option Nat) (v : Value) (hd : dstOk N d = true) :
    FrR N (putf f d v) (a.put d v).tmps ∧ (a.put d v).defers = a.defers := by
  cases d with
  | none => exact ⟨hf, rfl⟩
  | some d => exact ⟨hf.put d v (by simpa [dstOk] using hd), rfl⟩

theorem prepI_spec {N : Nat} {ops : Array Oper} {i : Nat} {g : GO} (h : prepI P N ops i = some g) : ∃ o, ops[i]? = some o ∧ prepO P o = some g.op ∧ g.dst = o.dst ∧ dstOk N o.dst = true ∧
    ∀ (f : Fr) (a : Act), FrR N f a.tmps → Region.wanted o (yielded ops a.tmps) = goes f g.g := by
  unfold prepI at h
  simp only [Option.bind_eq_some_iff] at h
  obtain ⟨o, ho, oo, hoo, h⟩ := h
  refine ⟨o, ho, ?_⟩
  split at h
  · rename_i hd
    cases hg : o.guard with
    | none =>
      rw [hg] at h; simp only [Option.some.injEq] at h; subst h
      exact ⟨hoo, rfl, hd, fun f a _ => by simp [Region.wanted, hg, goes]⟩
    | some jw =>
      obtain ⟨j, want⟩ := jw
      rw [hg] at h; simp only [Option.bind_eq_some_iff, Option.some.injEq] at h
      obtain ⟨t, ht, rfl⟩ := h
      refine ⟨hoo, rfl, hd, fun f a hf => ?_⟩
      simp only [Region.wanted, hg, goes, gob, yielded]
      have ht' : (ops[j]?).bind (·.dst) = some t := by rw [Option.bind_eq_some_iff]; exact ht
      rw [ht']
      simp only [Option.bind_some]
      have h2 := hf.2 t
      rcases Nat.lt_or_ge t a.tmps.size with hlt | hge
      · have e : a.tmps[t]? = some (f t) := by
          rw [← h2]; simp [hlt]
        rw [e]
        cases f t <;> simp
      · have e : a.tmps[t]? = none := Array.getElem?_eq_none hge
        have e2 : f t = undef := by rw [← h2]; simp [hge]
        rw [e, e2]; simp [undef]
  · cases h

theorem wpOp_of_gow {N : Nat} {ops : Array Oper} {i : Nat} {g : GO} (hp : prepI P N ops i = some g) {a : Act} {f : Fr} (hf : FrR N f a.tmps) (hd : a.defers = []) {w0 w : World} {h : H} (r : Rel w0 h w)
    {K : Fr → H → Prop} (hK : gow P g f h K) {next : Act → World → Prop} {Q : Exit → Act → World → Prop}
    (hn : ∀ f' h' a' w', FrR N f' a'.tmps → a'.defers = [] → h'.base = h.base → Rel w0 h' w' → K f' h' → next a' w') : wpOp P ops Q i next a w := by
  obtain ⟨o, ho, hoo, hdst, hdn, hw⟩ := prepI_spec hp
  unfold wpOp
  simp only [ho]
  rw [hw f a hf]
  unfold gow at hK
  split
  · rename_i hg
    rw [if_pos hg] at hK
    refine .inl (owp_sound hoo hf r hK fun v h' w' hb hr hk => ?_)
    obtain ⟨h1, h2⟩ := hf.putf o.dst v hdn
    rw [hdst] at hk
    exact hn _ h' _ w' h1 (by rw [h2]; exact hd) hb hr hk
  · rename_i hg
    rw [if_neg hg] at hK
    obtain ⟨h1, h2⟩ := hf.putf o.dst undef hdn
    rw [hdst] at hK
    exact hn _ h _ w h1 (by rw [h2]; exact hd) rfl r hK

theorem opsw_sound {N : Nat} {ops : Array Oper} {w0 : World} {B : Nat} {Q : Ex → Fr → H → Prop} : ∀ (l : List Nat) (gs : List GO) (a : Act) (f : Fr) (w : World) (h : H), l.mapM (prepI P N ops) = some gs → FrR N f a.tmps → a.defers = [] → Rel w0 h w → h.base = B →
    opsw P gs f h (Q .nor) → wpOps P ops (postC w0 B N Q) l a w
  | [], gs, a, f, w, h, hg, hf, hd, r, hb, hk => by
    simp at hg; subst hg
    simp only [wpOps, postC]
    exact ⟨f, h, hf, hd, r, hb, hk⟩
  | i :: l, gs, a, f, w, h, hg, hf, hd, r, hb, hk => by
    simp only [List.mapM_cons, Option.bind_eq_bind, Option.bind_eq_some_iff, Option.pure_def, Option.some.injEq] at hg
    obtain ⟨g, hg1, gs', hg2, rfl⟩ := hg
    rw [wpOps_cons]
    simp only [opsw] at hk
    exact wpOp_of_gow hg1 hf hd r hk fun f' h' a' w' hf' hd' hb' hr' hk' => opsw_sound l gs' a' f' w' h' hg2 hf' hd' hr' (by rw [hb', hb]) hk'

theorem prepP_of_p {o : Oper} {po : PO} (hoo : prepO P o = some (.p po)) : prepP P o = some po := by
  rcases prepO_cases hoo with ⟨po', hpo, he⟩ | ⟨hnone, _⟩
  · injection he with he; rw [he]; exact hpo
  · exfalso
    unfold prepO at hoo
    rw [hnone] at hoo
    simp only at hoo
    split at hoo <;> first | (cases hoo; done) | skip
    all_goals (repeat' split at hoo) <;> simp_all [Option.bind_eq_some_iff]

/-! ## The late writes -/
def Closed (ops : Array Oper) (l : Array Bool) : Prop := ∀ k ok, ops[k]? = some ok → l.getD k false = true → ∀ e ∈ ok.after, Region.binds .any e = true → l.getD e.on false = true
theorem closed_zero (ops : Array Oper) (n : Nat) : Closed ops (Array.replicate n false) := fun k ok _ h => by
  rcases Nat.lt_or_ge k n with h' | h'
  · simp [h'] at h
  · simp [Nat.not_lt.2 h'] at h
theorem closed_set {ops : Array Oper} {l : Array Bool} (c : Closed ops l) {j : Nat} (hj : j ∈ Region.ready .any ops l) : Closed ops (l.setIfInBounds j true) := fun k ok hk hl e he hb => by
  by_cases hjk : j = k
  · subst hjk
    obtain ⟨_, o, ho, hall⟩ := mem_ready.1 hj
    rw [hk] at ho; simp only [Option.some.injEq] at ho; subst ho
    exact getD_set_true (hall e he hb)
  · rw [getD_set_ne false hjk] at hl
    exact getD_set_true (c k ok hk hl e he hb)
theorem aft_listed {ops : Array Oper} {l : Array Bool} (c : Closed ops l) {i k : Nat} (hi : l.getD i false = true) (hk : k ∈ aft ops i) : l.getD k false = true := by
  unfold aft at hk
  split at hk
  · rename_i o ho
    simp only [List.mem_map, List.mem_filter, Array.mem_toList_iff] at hk
    obtain ⟨e, ⟨he, hb⟩, rfl⟩ := hk
    exact c i o ho hi e he hb
  · cases hk
theorem ups_listed {ops : Array Oper} {l : Array Bool} (c : Closed ops l) : ∀ (n : Nat) (s : List Nat), (∀ i ∈ s, l.getD i false = true) → ∀ i ∈ ups ops n s, l.getD i false = true
  | 0, s, h => h
  | n + 1, s, h => by
    unfold ups
    simp only
    split
    · exact h
    · refine ups_listed c n _ fun i hi => ?_
      rcases List.mem_append.1 hi with hi | hi
      · exact h i hi
      · have hi := List.mem_eraseDups.1 hi
        obtain ⟨hi, _⟩ := List.mem_filter.1 hi
        obtain ⟨j, hj, hij⟩ := List.mem_flatMap.1 hi
        exact aft_listed c (h j hj) hij
theorem noZ_of {ops : Array Oper} {l : Array Bool} (c : Closed ops l) {Z : List Nat} {i : Nat} (hi : l.getD i false = false) (hz : (Z.all fun z => (ups ops ops.size [z]).contains i) = true) : noZ Z l = true := by
  unfold noZ
  rw [List.all_eq_true]
  intro z hzz
  have h1 := List.all_eq_true.1 hz z hzz
  cases hl : l.getD z false with
  | false => rfl
  | true =>
    have := ups_listed c ops.size [z] (by simpa using hl) i (by simpa using h1)
    rw [hi] at this; cases this
theorem noZ_back {Z : List Nat} {l : Array Bool} {i : Nat} (h : noZ Z (l.setIfInBounds i true) = true) : noZ Z l = true := by
  unfold noZ at h ⊢
  rw [List.all_eq_true] at h ⊢
  intro z hz
  have := h z hz
  cases hl : l.getD z false with
  | false => rfl
  | true => rw [getD_set_true hl] at this; cases this
theorem noZ_fwd {Z : List Nat} {l : Array Bool} {i : Nat} (hi : i ∉ Z) (h : noZ Z l = true) : noZ Z (l.setIfInBounds i true) = true := by
  unfold noZ at h ⊢
  rw [List.all_eq_true] at h ⊢
  intro z hz
  have hne : i ≠ z := fun e => hi (by rw [e]; exact hz)
  rw [getD_set_ne false hne]
  exact h z hz
theorem unlisted {l : Array Bool} {i : Nat} (h : l.getD i true = false) : l.getD i false = false := by
  rcases Nat.lt_or_ge i l.size with h' | h'
  · simp [h'] at h ⊢; exact h
  · simp [Nat.not_lt.2 h']
/-- Whatever order is picked, and S holds behind every operation, till one of Z is carried out. -/
def wpAnyZ (P : Program) (ops : Array Oper) (Q : Exit → Act → World → Prop) (S : World → Prop) (Z : List Nat) : Nat → Array Bool → Act → World → Prop
  | 0, listed, a, w => Region.ready .any ops listed = [] ∧ Q .normal a w
  | fuel + 1, listed, a, w => (Region.ready .any ops listed = [] → Q .normal a w) ∧
    ∀ i ∈ Region.ready .any ops listed, wpOp P ops Q i (fun a' w' => (noZ Z (listed.setIfInBounds i true) = true → S w') ∧ wpAnyZ P ops Q S Z fuel (listed.setIfInBounds i true) a' w') a w
section
variable {ops : Array Oper} {Q : Exit → Act → World → Prop} {S : World → Prop} {Z : List Nat}
theorem wpAny_of_Z : ∀ (fuel : Nat) (listed : Array Bool) (a : Act) (w : World), wpAnyZ P ops Q S Z fuel listed a w → wpAny P .any ops Q fuel listed a w
  | 0, _, _, _, h => h
  | fuel + 1, _, _, _, h => ⟨h.1, fun i hi => wpOp_mono (fun a' w' h' => wpAny_of_Z fuel _ a' w' h'.2) (h.2 i hi)⟩
theorem wpAnyZ_first {i : Nat} {oi : Oper} {v : Value} {S0 : World → Prop} (hi : ops[i]? = some oi) (hsel : ∀ (j : Nat) (o : Oper) cs b, ops[j]? = some o → o.op ≠ .select cs b)
    (hQ : ∀ c a w, Q (.panic c) (a.put oi.dst v) w → Q (.panic c) a w) (hiZ : i ∉ Z) (h0 : ∀ l w, Closed ops l → l.getD i false = false → (noZ Z l = true → S w) → S0 w) :
    ∀ (fuel : Nat) (listed : Array Bool) (a : Act) (w : World), Closed ops listed →
      (∀ j oj, ops[j]? = some oj → j ≠ i → listed.getD j true = false → (∀ e ∈ oj.after, Region.binds .any e = true → e.on ≠ i) → oi.apart ops oj = true) →
      i ∈ Region.ready .any ops listed → YieldsIf P ops S0 oi v a → (noZ Z listed = true → S w) →
      wpAnyZ P ops Q S Z fuel (listed.setIfInBounds i true) (a.put oi.dst v) w → wpAnyZ P ops Q S Z (fuel + 1) listed a w := by
  intro fuel
  induction fuel with
  | zero =>
    intro listed a w hcl _ hr hy hS H
    refine ⟨fun h => (by rw [h] at hr; cases hr), fun j hj => ?_⟩
    by_cases hji : j = i
    · subst hji; exact hy.wpOp hi (h0 listed w hcl (unlisted (mem_ready.1 hr).1) hS) ⟨fun h => hS (noZ_back h), H⟩
    · have := ready_mono hj hji
      rw [H.1] at this
      cases this
  | succ fuel ih =>
    intro listed a w hcl hfree hr hy hS H
    refine ⟨fun h => (by rw [h] at hr; cases hr), fun j hj => ?_⟩
    by_cases hji : j = i
    · subst hji; exact hy.wpOp hi (h0 listed w hcl (unlisted (mem_ready.1 hr).1) hS) ⟨fun h => hS (noZ_back h), H⟩
    · have h1 := H.2 j (ready_mono hj hji)
      obtain ⟨hjun, oj, hoj, hall⟩ := mem_ready.1 hj
      have hnot : ∀ e ∈ oj.after, Region.binds .any e = true → e.on ≠ i := fun e he hb heq => by
        have h1 := hall e he hb
        have h0 := (mem_ready.1 hr).1
        rw [heq] at h1
        rw [unlisted h0] at h1; cases h1
      have h2 := wpOp_putIf hoj (hfree j oj hoj hji hjun hnot) (fun cs b => hsel i oi cs b hi) (fun cs b => hsel j oj cs b hoj) hQ hy h1
      have hfree' : ∀ k ok, ops[k]? = some ok → k ≠ i → (listed.setIfInBounds j true).getD k true = false →
          (∀ e ∈ ok.after, Region.binds .any e = true → e.on ≠ i) → oi.apart ops ok = true := fun k ok hk hki hun hno => by
        refine hfree k ok hk hki ?_ hno
        by_cases hjk : j = k
        · subst hjk; exact hjun
        · rw [getD_set_ne true hjk] at hun; exact hun
      have hcl' := closed_set hcl hj
      refine wpOp_mono (fun a' w' h3 => ?_) h2
      have hSj : noZ Z (listed.setIfInBounds j true) = true → S w' := fun hz => h3.2.1 (by rw [Array.setIfInBounds_comm _ _ (Ne.symm hji)]; exact noZ_fwd hiZ hz)
      refine ⟨hSj, ih (listed.setIfInBounds j true) a' w' hcl' hfree' (ready_mono hr (Ne.symm hji)) h3.1 hSj ?_⟩
      rw [Array.setIfInBounds_comm _ _ hji]
      exact h3.2.2
theorem wpAnyZ_take {i : Nat} {oi : Oper} {v : Value} {S0 : World → Prop} {fuel : Nat} {listed : Array Bool} {a : Act} {w : World} (hi : ops[i]? = some oi) (hs : Region.noSelect ops = true)
    (hcl : Closed ops listed) (hf : Region.free .any ops listed i = true) (hr : (Region.ready .any ops listed).contains i = true)
    (hQ : ∀ c a w, Q (.panic c) (a.put oi.dst v) w → Q (.panic c) a w) (hiZ : i ∉ Z) (h0 : ∀ l w, Closed ops l → l.getD i false = false → (noZ Z l = true → S w) → S0 w)
    (hy : YieldsIf P ops S0 oi v a) (hS : noZ Z listed = true → S w)
    (h : wpAnyZ P ops Q S Z fuel (listed.setIfInBounds i true) (a.put oi.dst v) w) : wpAnyZ P ops Q S Z (fuel + 1) listed a w :=
  wpAnyZ_first hi (Region.noSelect_spec hs) hQ hiZ h0 fuel listed a w hcl (Region.free_spec hi hf) (by simpa using hr) hy hS h
theorem wpAnyZ_all {rs : List Nat} {fuel : Nat} {listed : Array Bool} {a : Act} {w : World} (hr : Region.ready .any ops listed = rs) (hne : rs ≠ [])
    (h : ∀ i ∈ rs, wpOp P ops Q i (fun a' w' => (noZ Z (listed.setIfInBounds i true) = true → S w') ∧ wpAnyZ P ops Q S Z fuel (listed.setIfInBounds i true) a' w') a w) : wpAnyZ P ops Q S Z (fuel + 1) listed a w :=
  ⟨fun h0 => absurd (hr ▸ h0) hne, hr ▸ h⟩
theorem wpAnyZ_done {listed : Array Bool} {a : Act} {w : World} (hr : Region.ready .any ops listed = []) (h : Q .normal a w) : ∀ fuel, wpAnyZ P ops Q S Z fuel listed a w
  | 0 => ⟨hr, h⟩
  | _ + 1 => ⟨fun _ => h, by rw [hr]; simp⟩
end
theorem pure_any {ρ : X → Value} {h h' : H} {po : PO} (hp : isMem (.p po) = false) : pval ρ h po = pval ρ h' po := by
  cases po <;> first | (simp [isMem] at hp; done) | simp only [pval]
theorem has_none (h : H) (w : World) : Has h.none w := Has.mk (fun b ob hb => by cases hb) (fun b l hb => by cases hb)

theorem dopw_sound {N : Nat} {ops : Array Oper} {w0 : World} {B : Nat} {Q : Ex → Fr → H → Prop} {hS : H} {Z : List Nat} (hns : Region.noSelect ops = true) : ∀ (σ : IP) (listed : Array Bool) (gs : DP) (a : Act) (f : Fr) (w : World) (h hC : H),
    prepDP P N ops σ = some gs → chkD P ops Z σ listed = true → Closed ops listed → FrR N f a.tmps → a.defers = [] → Rel w0 h w → h.base = B → (noZ Z listed = true → hC = hS ∧ Has hS w) →
    dopw P hC gs f h (Q .nor) → wpAnyZ P ops (postC w0 B N Q) (Has hS) Z σ.len listed a w
  | .nil, listed, gs, a, f, w, h, hC, hg, hc, hcl, hf, hd, r, hb, hs, hk => by
    simp only [prepDP, Option.some.injEq] at hg; subst hg
    simp only [chkD, List.isEmpty_iff] at hc
    refine wpAnyZ_done hc ?_ 0
    exact ⟨f, h, hf, hd, r, hb, hk⟩
  | .tk i σ, listed, gs, a, f, w, h, hC, hg, hc, hcl, hf, hd, r, hb, hs, hk => by
    simp only [prepDP, Option.bind_eq_some_iff, Option.map_eq_some_iff] at hg
    obtain ⟨g, hg1, gs', hg2, rfl⟩ := hg
    simp only [chkD, Bool.and_eq_true] at hc
    obtain ⟨⟨hc1, hcz, hcm⟩, hc2⟩ := hc
    obtain ⟨o, ho, hoo, hdst, hdn, hw⟩ := prepI_spec hg1
    have hiZ : i ∉ Z := by simpa using hcz
    have hir : i ∈ Region.ready .any ops listed := by simpa using hc1.2
    simp only [IP.len]
    simp only [dopw] at hk
    have fin : ∀ (S0 : World → Prop) v, (∀ l w, Closed ops l → l.getD i false = false → (noZ Z l = true → Has hS w) → S0 w) → YieldsIf P ops S0 o v a → dopw P hC gs' (putf f o.dst v) h (Q .nor) →
        wpAnyZ P ops (postC w0 B N Q) (Has hS) Z (σ.len + 1) listed a w := by
      intro S0 v h0 hy hk'
      obtain ⟨h1, h2⟩ := hf.putf o.dst v hdn
      exact wpAnyZ_take ho hns hcl hc1.1 hc1.2 (fun c a w hq => hq.elim) hiZ h0 hy (fun hz => (hs hz).2)
        (dopw_sound hns σ _ gs' _ _ w h hC hg2 hc2 (closed_set hcl hir) h1 (by rw [h2]; exact hd) r hb (fun hz => hs (noZ_back hz)) hk')
    rw [hdst] at hk
    split at hk
    · rename_i hgo
      obtain ⟨v, hv, hk⟩ := hk
      cases hgop : g.op with
      | p po =>
        rw [hgop] at hoo hv
        simp only [pvalO] at hv
        rw [ho] at hcm
        simp only [Option.bind_some, hoo, Option.any_some, Bool.or_eq_true] at hcm
        by_cases hm : isMem (.p po) = false
        · refine fin (Has hC.none) v (fun l w _ _ _ => has_none hC w) (.inl ⟨by rw [hw f a hf]; exact hgo, fun w' hw' => ?_⟩) hk
          exact run_prepP (prepP_of_p hoo) (fun x => hf.eval x) hw' (by rw [← hv]; exact pure_any hm)
        · have hz := hcm.resolve_left (by simpa using hm)
          have hn := noZ_of hcl (unlisted (mem_ready.1 hir).1) hz
          obtain ⟨rfl, hh⟩ := hs hn
          refine fin (Has hC) v (fun l w hl hi hS => hS (noZ_of hl hi hz)) (.inl ⟨by rw [hw f a hf]; exact hgo, fun w' hw' => ?_⟩) hk
          exact run_prepP (prepP_of_p hoo) (fun x => hf.eval x) hw' hv
      | _ => rw [hgop] at hv; simp [pvalO] at hv
    · rename_i hgo
      refine fin (fun _ => True) undef (fun _ _ _ _ _ => trivial) (.inr ⟨?_, rfl⟩) hk
      rw [hw f a hf]; simpa using hgo
  | .sq i σ, listed, gs, a, f, w, h, hC, hg, hc, hcl, hf, hd, r, hb, hs, hk => by
    simp only [prepDP, Option.bind_eq_some_iff, Option.map_eq_some_iff] at hg
    obtain ⟨g, hg1, gs', hg2, rfl⟩ := hg
    simp only [chkD, Bool.and_eq_true, beq_iff_eq] at hc
    obtain ⟨hc1, hc2⟩ := hc
    simp only [IP.len]
    simp only [dopw] at hk
    refine wpAnyZ_all hc1 (by simp) ?_
    intro j hj
    obtain rfl : j = i := by simpa using hj
    refine wpOp_of_gow hg1 hf hd r hk ?_
    rintro f' h' a' w' hf' hd' hb' hr' ⟨hsub, hk'⟩
    have hs' : noZ Z (listed.setIfInBounds j true) = true → hC = hS ∧ Has hS w' := fun hz => by
      have := (hs (noZ_back hz)).1
      exact ⟨this, this ▸ hsub.has hr'.has⟩
    exact ⟨fun hz => (hs' hz).2, dopw_sound hns σ _ gs' a' f' w' h' hC hg2 hc2 (closed_set hcl (by rw [hc1]; simp)) hf' hd' hr' (by rw [hb', hb]) hs' hk'⟩
  | .lt i σ, listed, gs, a, f, w, h, hC, hg, hc, hcl, hf, hd, r, hb, hs, hk => by
    simp only [prepDP, Option.bind_eq_some_iff, Option.map_eq_some_iff] at hg
    obtain ⟨g, hg1, gs', hg2, rfl⟩ := hg
    simp only [chkD, Bool.and_eq_true, beq_iff_eq] at hc
    obtain ⟨⟨hc1, hcz⟩, hc2⟩ := hc
    simp only [IP.len]
    simp only [dopw] at hk
    refine wpAnyZ_all hc1 (by simp) ?_
    intro j hj
    obtain rfl : j = i := by simpa using hj
    refine wpOp_of_gow hg1 hf hd r hk ?_
    intro f' h' a' w' hf' hd' hb' hr' hk'
    have hno : noZ Z (listed.setIfInBounds j true) = false := by
      cases hz : noZ Z (listed.setIfInBounds j true) with
      | false => rfl
      | true =>
        have h1 := List.all_eq_true.1 hz j (by simpa using hcz)
        have h2 := (mem_ready.1 (show j ∈ Region.ready .any ops listed by rw [hc1]; simp)).1
        have h3 : j < listed.size := by
          rcases Nat.lt_or_ge j listed.size with h' | h'
          · exact h'
          · simp [Nat.not_lt.2 h'] at h2
        simp [h3] at h1
    exact ⟨fun hz => (by rw [hno] at hz; cases hz), dopw_sound hns σ _ gs' a' f' w' h' h'.none hg2 hc2 (closed_set hcl (by rw [hc1]; simp)) hf' hd' hr' (by rw [hb', hb]) (fun hz => by rw [hno] at hz; cases hz) hk'⟩
  | .alt i σ j τ, listed, gs, a, f, w, h, hC, hg, hc, hcl, hf, hd, r, hb, hs, hk => by
    simp only [prepDP, Option.bind_eq_some_iff, Option.map_eq_some_iff] at hg
    obtain ⟨g, hg1, gs1, hg2, g', hg3, gs2, hg4, rfl⟩ := hg
    simp only [chkD, Bool.and_eq_true, beq_iff_eq] at hc
    obtain ⟨⟨⟨hc1, hl⟩, hc2⟩, hc3⟩ := hc
    simp only [IP.len]
    simp only [dopw] at hk
    refine wpAnyZ_all hc1 (by simp) ?_
    intro k hj
    simp only [List.mem_cons, List.not_mem_nil, or_false] at hj
    have hS' : ∀ (k : Nat) (h' : H) (w' : World), Rel w0 h' w' → Sub hC h' → noZ Z (listed.setIfInBounds k true) = true → hC = hS ∧ Has hS w' := fun k h' w' hr' hsub hz => by
      have := (hs (noZ_back hz)).1
      exact ⟨this, this ▸ hsub.has hr'.has⟩
    rcases hj with rfl | rfl
    · refine wpOp_of_gow hg1 hf hd r hk.1 ?_
      rintro f' h' a' w' hf' hd' hb' hr' ⟨hsub, hk'⟩
      exact ⟨fun hz => (hS' _ _ _ hr' hsub hz).2, dopw_sound hns σ _ gs1 a' f' w' h' hC hg2 hc2 (closed_set hcl (by rw [hc1]; simp)) hf' hd' hr' (by rw [hb', hb]) (hS' _ _ _ hr' hsub) hk'⟩
    · refine wpOp_of_gow hg3 hf hd r hk.2 ?_
      rintro f' h' a' w' hf' hd' hb' hr' ⟨hsub, hk'⟩
      rw [hl]
      exact ⟨fun hz => (hS' _ _ _ hr' hsub hz).2, dopw_sound hns τ _ gs2 a' f' w' h' hC hg4 hc3 (closed_set hcl (by rw [hc1]; simp)) hf' hd' hr' (by rw [hb', hb]) (hS' _ _ _ hr' hsub) hk'⟩
end
end Go.KH
