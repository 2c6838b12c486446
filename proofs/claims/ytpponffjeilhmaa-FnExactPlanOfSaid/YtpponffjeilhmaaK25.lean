/- A helper of this seat's claims (the logic of the walks): what it shows is shown for every input that its statements name, on no other condition. -/
import Derived.Test.YtpponffjeilhmaaK24
set_option linter.unusedVariables false
set_option linter.unusedSimpArgs false
namespace Go.KH
open Go.RowKit

/-! ## Loops that write into several blocks and a map -/
/-- Blocks outside S are as they were, and all maps but those of M. -/
def KeepM (S M : Nat → Prop) (h h' : H) : Prop := h'.base = h.base ∧ (∀ b ob, ¬ S b → h.get b = some ob → h'.get b = some ob) ∧ (∀ b l, ¬ M b → h.mp b = some l → h'.mp b = some l) ∧ ∀ b, h.get b ≠ none → h'.get b ≠ none
theorem KeepM.refl (S M : Nat → Prop) (h : H) : KeepM S M h h := ⟨rfl, fun _ _ _ e => e, fun _ _ _ e => e, fun _ e => e⟩
theorem KeepM.trans {S M : Nat → Prop} {a b c : H} (h : KeepM S M a b) (k : KeepM S M b c) : KeepM S M a c := ⟨k.1.trans h.1, fun x y n e => k.2.1 x y n (h.2.1 x y n e), fun x y n e => k.2.2.1 x y n (h.2.2.1 x y n e), fun x e => k.2.2.2 x (h.2.2.2 x e)⟩
theorem KeepM.of_ext {S M : Nat → Prop} {h h' : H} (e : Ext h h') : KeepM S M h h' := ⟨e.1, fun b ob _ hb => e.2.g b ob hb, fun b l _ hb => e.2.m b l hb, fun b hb => by
  cases hq : h.get b with
  | none => exact absurd hq hb
  | some ob => rw [e.2.g b ob hq]; simp⟩
theorem KeepM.set {S M : Nat → Prop} {h h' : H} (k : KeepM S M h h') {b : Nat} (hb : S b ∨ h.get b = none) (ob : Ob) : KeepM S M h (h'.set b ob) :=
  ⟨k.1, fun c oc hc hg => by
    by_cases e : c = b
    · subst e
      rcases hb with hb | hb
      · exact absurd hb hc
      · rw [hb] at hg; cases hg
    · rw [H.set_get_ne _ _ _ _ e]; exact k.2.1 c oc hc hg, fun c l hc hl => k.2.2.1 c l hc hl, fun c hc => by
    by_cases e : c = b
    · subst e; rw [H.set_get_same]; simp
    · rw [H.set_get_ne _ _ _ _ e]; exact k.2.2.2 c hc⟩
theorem KeepM.setm {S M : Nat → Prop} {h h' : H} (k : KeepM S M h h') {b : Nat} (hb : M b) (l : List (Value × Value)) : KeepM S M h (h'.setm b l) :=
  ⟨k.1, fun c oc hc hg => k.2.1 c oc hc hg, fun c l' hc hl => by
    rw [H.setm_mp]
    split
    · rename_i e; subst e; exact absurd hb hc
    · exact k.2.2.1 c l' hc hl, fun c hc => k.2.2.2 c hc⟩
theorem KeepM.ext {S M : Nat → Prop} {h0 h h' : H} (e : Ext h0 h) (k : KeepM S M h h') (hS : ∀ b, S b → h0.get b = none) (hM : ∀ b, M b → h0.mp b = none) : Ext h0 h' :=
  ⟨k.1.trans e.1, fun b ob hb => k.2.1 b ob (fun hs => by rw [hS b hs] at hb; cases hb) (e.2.g b ob hb), fun b l hb => k.2.2.1 b l (fun hs => by rw [hM b hs] at hb; cases hb) (e.2.m b l hb)⟩
theorem KeepM.none {S M : Nat → Prop} {h h' : H} (k : KeepM S M h h') {b : Nat} (hn : h'.get b = none) : h.get b = none := by
  cases hq : h.get b with
  | none => rfl
  | some ob => exact absurd hn (k.2.2.2 b (by rw [hq]; simp))
theorem KeepM.ldc {S M : Nat → Prop} {h h' : H} (k : KeepM S M h h') {b o n : Nat} {cs : List Value} (hS : ¬ S b) (hl : KH.ldc h b o n = some cs) : KH.ldc h' b o n = some cs := by
  unfold KH.ldc at hl ⊢
  cases hb : h.get b with
  | none => rw [hb] at hl; cases hl
  | some ob => rw [k.2.1 b ob hS hb]; rw [hb] at hl; exact hl
theorem KeepM.sl {S M : Nat → Prop} {h h' : H} (k : KeepM S M h h') {v : Value} {w : Nat} {rows : List (List Value)} (s : Sl h v w rows) (hS : ∀ b, blk v = some b → ¬ S b) : Sl h' v w rows :=
  s.keep (S := S) (h' := { h' with mp := fun c => match h.mp c with | some l => some l | .none => h'.mp c }) ⟨k.1, k.2.1, fun b l hb => by simp [hb], k.2.2.2⟩ hS
/-- append onto a slice of one's own, while other blocks of one's own change. -/
theorem appW_keep {h0 h : H} {K : Value → H → Prop} {w by_ n c : Nat} {a : Option Addr} {q : Nat × List Value} {rows new : List (List Value)} (e : ∀ b, h.get b = none → h0.get b = none) (o : Own h0 h (.slice a n c) w rows)
    (hq : q = (new.length, new.flatten)) (hw : Wid w new) (h1 : new.flatten.all Value.oneCell' = true) (hb : (rows.length + new.length) * by_ ≤ 70368744177664)
    (hK : ∀ v' h', KeepM (fun x => h0.get x = none) (fun _ => False) h h' → Own h0 h' v' w (rows ++ new) → K v' h') : appW h w by_ (a, n, c) q K := by
  subst hq
  unfold appW
  rcases o with ⟨hv, rfl⟩ | ⟨b, c', z, hv, hlc, hbb, h0b, hg, hcz, hww⟩
  · simp only [nils, Value.slice.injEq] at hv
    obtain ⟨rfl, rfl, rfl⟩ := hv
    refine ⟨by simpa using hb, h1, by rw [flat_length hw], rfl, ?_⟩
    by_cases hn : new.length = 0
    · have : new = [] := List.length_eq_zero_iff.1 hn
      subst this
      simp only [List.length_nil, if_true]
      exact hK nils h (KeepM.refl _ _ _) (.inl ⟨rfl, rfl⟩)
    · rw [if_neg hn]
      intro b hb1 hb2 c hc
      exact hK _ _ ((KeepM.refl _ _ h).set (.inr hb2) _) (.inr ⟨b, c, c * w, by simp, by simpa using hc, hb1, e b hb2, by simp, Nat.le_refl _, by simpa using hw⟩)
  · simp only [sl, Value.slice.injEq] at hv
    obtain ⟨rfl, rfl, rfl⟩ := hv
    refine ⟨hb, h1, by rw [flat_length hw], rfl, hbb, ⟨⟨rows.flatten, z⟩, hg, hcz, .inl ⟨by rw [flat_length hww], ?_⟩⟩⟩
    intro b' c' z' hb' hbase hc hz
    have hn : h0.get b' = none := by
      rcases hb' with rfl | hb'
      · exact h0b
      · exact e b' hb'
    exact hK _ _ ((KeepM.refl _ _ h).set (.inl hn) _) (.inr ⟨b', c', z', by simp, by simpa using hc, hbase, hn, by simp, hz, hww.append hw⟩)
end Go.KH
