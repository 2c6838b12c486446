/- A helper of this seat's claims (the logic of the walks): what it shows is shown for every input that its statements name, on no other condition. -/
import Derived.Test.YtneiikjafpnapaaK9
set_option linter.unusedVariables false
set_option linter.unusedSimpArgs false
namespace Go.KH
open Go.RowKit

section
variable {P : Program}

def postC (w0 : World) (B N : Nat) (Q : Ex → Fr → H → Prop) : Exit → Act → World → Prop
  | .normal, a, w => ∃ f h, FrR N f a.tmps ∧ a.defers = [] ∧ Rel w0 h w ∧ h.base = B ∧ Q .nor f h
  | .exit i, a, w => ∃ f h, FrR N f a.tmps ∧ a.defers = [] ∧ Rel w0 h w ∧ h.base = B ∧ Q (.exit i) f h
  | .ret, a, w => ∃ f h, FrR N f a.tmps ∧ a.defers = [] ∧ Rel w0 h w ∧ h.base = B ∧ Q .ret f h
  | _, _, _ => False

theorem FrR.putf {N : Nat} {f : Fr} {a : Act} (hf : FrR N f a.tmps) (d : Option Nat) (v : Value) (hd : dstOk N d = true) :
    FrR N (putf f d v) (a.put d v).tmps ∧ (a.put d v).defers = a.defers := by
  cases d with
  | none => exact ⟨hf, rfl⟩
  | some d => exact ⟨hf.put d v (by simpa [dstOk] using hd), rfl⟩

theorem prepI_spec {N : Nat} {ops : Array Oper} {i : Nat} {g : GO} (h : prepI P N ops i = some g) : ∃ o, ops[i]? = some o ∧ prepO P o = some g.op ∧ g.dst = o.dst ∧ dstOk N o.dst = true ∧
    ∀ (f : Fr) (a : Act), FrR N f a.tmps → Region.wanted o (yielded ops a.tmps) = goes f g.g := by
  unfold prepI at h
  simp only [Option.bind_eq_some_iff] at h
  obtain ⟨o, ho, oo, hoo, h⟩ := h
  refine ⟨o, ho, ?_⟩
  split at h
  · rename_i hd
    cases hg : o.guard with
    | none =>
      rw [hg] at h; simp only [Option.some.injEq] at h; subst h
      exact ⟨hoo, rfl, hd, fun f a _ => by simp [Region.wanted, hg, goes]⟩
    | some jw =>
      obtain ⟨j, want⟩ := jw
      rw [hg] at h; simp only [Option.bind_eq_some_iff, Option.some.injEq] at h
      obtain ⟨t, ht, rfl⟩ := h
      refine ⟨hoo, rfl, hd, fun f a hf => ?_⟩
      simp only [Region.wanted, hg, goes, gob, yielded]
      have ht' : (ops[j]?).bind (·.dst) = some t := by rw [Option.bind_eq_some_iff]; exact ht
      rw [ht']
      simp only [Option.bind_some]
      have h2 := hf.2 t
      rcases Nat.lt_or_ge t a.tmps.size with hlt | hge
      · have e : a.tmps[t]? = some (f t) := by
          rw [← h2]; simp [hlt]
        rw [e]
        cases f t <;> simp
      · have e : a.tmps[t]? = none := Array.getElem?_eq_none hge
        have e2 : f t = undef := by rw [← h2]; simp [hge]
        rw [e, e2]; simp [undef]
  · cases h

theorem wpOp_of_gow {N : Nat} {ops : Array Oper} {i : Nat} {g : GO} (hp : prepI P N ops i = some g) {a : Act} {f : Fr} (hf : FrR N f a.tmps) (hd : a.defers = []) {w0 w : World} {h : H} (r : Rel w0 h w)
    {K : Fr → H → Prop} (hK : gow P g f h K) {next : Act → World → Prop} {Q : Exit → Act → World → Prop}
    (hn : ∀ f' h' a' w', FrR N f' a'.tmps → a'.defers = [] → h'.base = h.base → Rel w0 h' w' → K f' h' → next a' w') : wpOp P ops Q i next a w := by
  obtain ⟨o, ho, hoo, hdst, hdn, hw⟩ := prepI_spec hp
  unfold wpOp
  simp only [ho]
  rw [hw f a hf]
  unfold gow at hK
  split
  · rename_i hg
    rw [if_pos hg] at hK
    refine .inl (owp_sound hoo hf r hK fun v h' w' hb hr hk => ?_)
    obtain ⟨h1, h2⟩ := hf.putf o.dst v hdn
    rw [hdst] at hk
    exact hn _ h' _ w' h1 (by rw [h2]; exact hd) hb hr hk
  · rename_i hg
    rw [if_neg hg] at hK
    obtain ⟨h1, h2⟩ := hf.putf o.dst undef hdn
    rw [hdst] at hK
    exact hn _ h _ w h1 (by rw [h2]; exact hd) rfl r hK

theorem opsw_sound {N : Nat} {ops : Array Oper} {w0 : World} {B : Nat} {Q : Ex → Fr → H → Prop} : ∀ (l : List Nat) (gs : List GO) (a : Act) (f : Fr) (w : World) (h : H), l.mapM (prepI P N ops) = some gs → FrR N f a.tmps → a.defers = [] → Rel w0 h w → h.base = B →
    opsw P gs f h (Q .nor) → wpOps P ops (postC w0 B N Q) l a w
  | [], gs, a, f, w, h, hg, hf, hd, r, hb, hk => by
    simp at hg; subst hg
    simp only [wpOps, postC]
    exact ⟨f, h, hf, hd, r, hb, hk⟩
  | i :: l, gs, a, f, w, h, hg, hf, hd, r, hb, hk => by
    simp only [List.mapM_cons, Option.bind_eq_bind, Option.bind_eq_some_iff, Option.pure_def, Option.some.injEq] at hg
    obtain ⟨g, hg1, gs', hg2, rfl⟩ := hg
    rw [wpOps_cons]
    simp only [opsw] at hk
    exact wpOp_of_gow hg1 hf hd r hk fun f' h' a' w' hf' hd' hb' hr' hk' => opsw_sound l gs' a' f' w' h' hg2 hf' hd' hr' (by rw [hb', hb]) hk'

theorem prepP_of_p {o : Oper} {po : PO} (hoo : prepO P o = some (.p po)) : prepP P o = some po := by
  rcases prepO_cases hoo with ⟨po', hpo, he⟩ | ⟨hnone, _⟩
  · injection he with he; rw [he]; exact hpo
  · exfalso
    unfold prepO at hoo
    rw [hnone] at hoo
    simp only at hoo
    split at hoo <;> first | (cases hoo; done) | skip
    all_goals (repeat' split at hoo) <;> simp_all [Option.bind_eq_some_iff]

theorem dopw_sound {N : Nat} {ops : Array Oper} {w0 : World} {B : Nat} {Q : Ex → Fr → H → Prop} {hS : H} (hns : Region.noSelect ops = true) : ∀ (σ : IP) (listed : Array Bool) (gs : DP) (a : Act) (f : Fr) (w : World) (h : H),
    prepDP P N ops σ = some gs → chkD ops σ listed = true → FrR N f a.tmps → a.defers = [] → Rel w0 h w → h.base = B → Has hS w →
    dopw P hS gs f h (Q .nor) → wpAnyH P .any ops (postC w0 B N Q) (Has hS) σ.len listed a w
  | .nil, listed, gs, a, f, w, h, hg, hc, hf, hd, r, hb, hs, hk => by
    simp only [prepDP, Option.some.injEq] at hg; subst hg
    simp only [chkD, List.isEmpty_iff] at hc
    refine wpAnyH_done hc ?_ 0
    exact ⟨f, h, hf, hd, r, hb, hk⟩
  | .tk i σ, listed, gs, a, f, w, h, hg, hc, hf, hd, r, hb, hs, hk => by
    simp only [prepDP, Option.bind_eq_some_iff, Option.map_eq_some_iff] at hg
    obtain ⟨g, hg1, gs', hg2, rfl⟩ := hg
    simp only [chkD, Bool.and_eq_true] at hc
    obtain ⟨hc1, hc2⟩ := hc
    obtain ⟨o, ho, hoo, hdst, hdn, hw⟩ := prepI_spec hg1
    simp only [IP.len]
    simp only [dopw] at hk
    have fin : ∀ v, YieldsIf P ops (Has hS) o v a → dopw P hS gs' (putf f o.dst v) h (Q .nor) → wpAnyH P .any ops (postC w0 B N Q) (Has hS) (σ.len + 1) listed a w := by
      intro v hy hk'
      obtain ⟨h1, h2⟩ := hf.putf o.dst v hdn
      exact wpAnyH_take ho hns hc1.1 hc1.2 (fun c a w hq => hq.elim) hy hs
        (dopw_sound hns σ _ gs' _ _ w h hg2 hc2 h1 (by rw [h2]; exact hd) r hb hs hk')
    rw [hdst] at hk
    split at hk
    · rename_i hgo
      obtain ⟨v, hv, hk⟩ := hk
      refine fin v (.inl ⟨by rw [hw f a hf]; exact hgo, fun w' hw' => ?_⟩) hk
      cases hgop : g.op with
      | p po =>
        rw [hgop] at hoo hv
        exact run_prepP (prepP_of_p hoo) (fun x => hf.eval x) hw' hv
      | _ => rw [hgop] at hv; simp [pvalO] at hv
    · rename_i hgo
      refine fin undef (.inr ⟨?_, rfl⟩) hk
      rw [hw f a hf]; simpa using hgo
  | .sq i σ, listed, gs, a, f, w, h, hg, hc, hf, hd, r, hb, hs, hk => by
    simp only [prepDP, Option.bind_eq_some_iff, Option.map_eq_some_iff] at hg
    obtain ⟨g, hg1, gs', hg2, rfl⟩ := hg
    simp only [chkD, Bool.and_eq_true, beq_iff_eq] at hc
    obtain ⟨hc1, hc2⟩ := hc
    simp only [IP.len]
    simp only [dopw] at hk
    refine wpAnyH_all hc1 (by simp) ?_
    intro j hj
    obtain rfl : j = i := by simpa using hj
    refine wpOp_of_gow hg1 hf hd r hk ?_
    rintro f' h' a' w' hf' hd' hb' hr' ⟨hsub, hk'⟩
    have hs' := hsub.has hr'.has
    exact ⟨hs', dopw_sound hns σ _ gs' a' f' w' h' hg2 hc2 hf' hd' hr' (by rw [hb', hb]) hs' hk'⟩
  | .alt i σ j τ, listed, gs, a, f, w, h, hg, hc, hf, hd, r, hb, hs, hk => by
    simp only [prepDP, Option.bind_eq_some_iff, Option.map_eq_some_iff] at hg
    obtain ⟨g, hg1, gs1, hg2, g', hg3, gs2, hg4, rfl⟩ := hg
    simp only [chkD, Bool.and_eq_true, beq_iff_eq] at hc
    obtain ⟨⟨⟨hc1, hl⟩, hc2⟩, hc3⟩ := hc
    simp only [IP.len]
    simp only [dopw] at hk
    refine wpAnyH_all hc1 (by simp) ?_
    intro k hj
    simp only [List.mem_cons, List.not_mem_nil, or_false] at hj
    rcases hj with rfl | rfl
    · refine wpOp_of_gow hg1 hf hd r hk.1 ?_
      rintro f' h' a' w' hf' hd' hb' hr' ⟨hsub, hk'⟩
      have hs' := hsub.has hr'.has
      exact ⟨hs', dopw_sound hns σ _ gs1 a' f' w' h' hg2 hc2 hf' hd' hr' (by rw [hb', hb]) hs' hk'⟩
    · refine wpOp_of_gow hg3 hf hd r hk.2 ?_
      rintro f' h' a' w' hf' hd' hb' hr' ⟨hsub, hk'⟩
      have hs' := hsub.has hr'.has
      rw [hl]
      exact ⟨hs', dopw_sound hns τ _ gs2 a' f' w' h' hg4 hc3 hf' hd' hr' (by rw [hb', hb]) hs' hk'⟩
end
end Go.KH
