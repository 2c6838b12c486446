/- A helper of this seat's claims (plain laws): what it shows is shown for every input that its statements name, on no other condition. -/
import Derived.Test.YtiokibikhanfcaaGreatKD
import Derived.Test.YtiokibikhanfcaaGreatCHs
import Derived.Test.YtiokibikhanfcaaGreatC13t
import Derived.Test.YtiokibikhanfcaaGreatMC12h
import Derived.Test.YtiokibikhanfcaaGreatC13l
import Derived.Test.YtiokibikhanfcaaGreatMC13b
set_option linter.unusedVariables false
namespace Go.KH

/-! ## What the moves of a plan are; lists of writes, whatever their order -/
def MvShape (w : List UStep) (m : UMove) : Prop := ∃ i : Nat, i < w.length ∧ m.step = i ∧ m.block = (stAt w i).dst ∧ (m.kind = 2 ∨ (m.kind = 1 ∧ 0 ≤ m.slot))
theorem shape_step {w : List UStep} {s : PS} (p : PInv w s) (hm : ∀ m ∈ s.mv, MvShape w m) (hl : s.left ≠ []) : ∀ m ∈ (planStep w s).mv, MvShape w m := by
  unfold planStep
  split
  · rename_i k hk
    have hk' := (List.findIdx?_eq_some_iff_getElem.1 hk).1
    intro m h
    simp only [List.mem_append, List.mem_singleton] at h
    rcases h with h | rfl
    · exact hm m h
    · refine ⟨s.left[k]?.getD 0, ?_, rfl, rfl, .inl rfl⟩
      rw [List.getElem?_eq_getElem hk', Option.getD_some]
      exact p.bound _ (List.getElem_mem hk')
  · intro m h
    simp only [List.mem_append, List.mem_singleton] at h
    rcases h with h | rfl
    · exact hm m h
    · refine ⟨s.left.headD 0, p.bound _ ?_, rfl, rfl, .inr ⟨rfl, by simp only; omega⟩⟩
      cases hs : s.left with
      | nil => exact absurd hs hl
      | cons a l => simp
theorem shape_end {w : List UStep} : ∀ (n : Nat) (s : PS), meas w s ≤ n → PInv w s → (∀ m ∈ s.mv, MvShape w m) → ∀ m ∈ plan w s, MvShape w m
  | n, s, hn, p, hm => by
    by_cases hl : s.left = []
    · rw [plan_done hl]; exact hm
    · have hlt := planStep_lt (w := w) hl
      cases n with
      | zero => omega
      | succ n => rw [plan_next hl]; exact shape_end n _ (by omega) (pinv_step p hl) (shape_step p hm hl)
theorem plan_shape (w : List UStep) : ∀ m ∈ planB w, MvShape w m := shape_end _ (ps0 w) (Nat.le_refl _) (pinv0 w) (by simp [ps0])
/-- Elements are set, one after the other, those of P alone. -/
def setIf {α β : Type} (P : α → Bool) (κ : α → Nat) (μ : α → β) (im : List β) (x : α) : List β := if P x then im.set (κ x) (μ x) else im
theorem setIf_len {α β : Type} (P : α → Bool) (κ : α → Nat) (μ : α → β) : ∀ (l : List α) (im : List β), (l.foldl (setIf P κ μ) im).length = im.length
  | [], _ => rfl
  | x :: l, im => by rw [List.foldl_cons, setIf_len]; unfold setIf; split <;> simp
theorem setIf_no {α β : Type} {P : α → Bool} {κ : α → Nat} {μ : α → β} {b : Nat} : ∀ (l : List α) (im : List β), (∀ x ∈ l, P x = true → κ x ≠ b) → (l.foldl (setIf P κ μ) im)[b]? = im[b]?
  | [], _, _ => rfl
  | x :: l, im, h => by
    rw [List.foldl_cons, setIf_no l _ (fun y hy => h y (List.mem_cons_of_mem _ hy))]
    unfold setIf
    split
    · rename_i hp; rw [List.getElem?_set_ne (h x (List.mem_cons_self ..) hp)]
    · rfl
theorem setIf_yes {α β : Type} {P : α → Bool} {κ : α → Nat} {μ : α → β} {b : Nat} {v : β} : ∀ (l : List α) (im : List β), b < im.length → (∀ x ∈ l, P x = true → κ x = b → μ x = v) → (∃ x ∈ l, P x = true ∧ κ x = b) → (l.foldl (setIf P κ μ) im)[b]? = some v
  | [], _, _, _, h => by obtain ⟨x, hx, _⟩ := h; cases hx
  | x :: l, im, hb, hv, hx => by
    rw [List.foldl_cons]
    have hl : (setIf P κ μ im x).length = im.length := by unfold setIf; split <;> simp
    by_cases h : ∃ y ∈ l, P y = true ∧ κ y = b
    · exact setIf_yes l _ (by rw [hl]; exact hb) (fun y hy => hv y (List.mem_cons_of_mem _ hy)) h
    · rw [setIf_no l _ (fun y hy hp e => h ⟨y, hy, hp, e⟩)]
      obtain ⟨y, hy, hp, e⟩ := hx
      rcases List.mem_cons.1 hy with rfl | hy
      · unfold setIf
        rw [if_pos hp, e, List.getElem?_set_self hb, hv y (List.mem_cons_self ..) hp e]
      · exact absurd ⟨y, hy, hp, e⟩ h
/-- Two lists of writes make the same, if each block has one text in both and is written in both or in none. -/
theorem setIf_same {α γ β : Type} {P : α → Bool} {κ : α → Nat} {μ : α → β} {P' : γ → Bool} {κ' : γ → Nat} {μ' : γ → β} {l : List α} {l' : List γ} {im : List β} (V : Nat → β)
    (h1 : ∀ x ∈ l, P x = true → μ x = V (κ x)) (h2 : ∀ x ∈ l', P' x = true → μ' x = V (κ' x)) (h3 : ∀ b, (∃ x ∈ l, P x = true ∧ κ x = b) ↔ ∃ x ∈ l', P' x = true ∧ κ' x = b) : l.foldl (setIf P κ μ) im = l'.foldl (setIf P' κ' μ') im := by
  apply List.ext_getElem?
  intro b
  by_cases hb : b < im.length
  · by_cases h : ∃ x ∈ l, P x = true ∧ κ x = b
    · rw [setIf_yes l im hb (v := V b) (fun x hx hp e => by rw [h1 x hx hp, e]) h, setIf_yes l' im hb (v := V b) (fun x hx hp e => by rw [h2 x hx hp, e]) ((h3 b).1 h)]
    · rw [setIf_no l im (fun x hx hp e => h ⟨x, hx, hp, e⟩), setIf_no l' im (fun x hx hp e => h ((h3 b).2 ⟨x, hx, hp, e⟩))]
  · rw [List.getElem?_eq_none (by rw [setIf_len]; omega), List.getElem?_eq_none (by rw [setIf_len]; omega)]
end Go.KH

set_option linter.unusedVariables false
set_option linter.unusedSimpArgs false
set_option maxRecDepth 100000
namespace Go.Proofs.YtiokibikhanfcaaGreat
open Go.KH

/-! ## Flash memories written -/
/-- Two slices of the call's own, of different blocks. -/
def FlO (h0 h : H) (f : UFlash) (vs vd : Value) : Prop := Own h0 h vs 1 (sects f.sec) ∧ Own h0 h vd 2 (f.dirty.map UDirty.cells) ∧ Ap vs vd
theorem FlO.f {h0 h : H} {f : UFlash} {vs vd : Value} (o : FlO h0 h f vs vd) : FlF h0 h f vs vd := ⟨o.1.fre, o.2.1.fre, o.2.2.dj⟩
theorem FlO.r {h0 h : H} {f : UFlash} {vs vd : Value} (o : FlO h0 h f vs vd) : FlR h f vs vd := o.f.r
theorem FlO.ext {h0 h h' : H} {f : UFlash} {vs vd : Value} (o : FlO h0 h f vs vd) (e : Ext h h') : FlO h0 h' f vs vd := ⟨o.1.ext e, o.2.1.ext e, o.2.2⟩
theorem FlO.back {h0 h1 h : H} {f : UFlash} {vs vd : Value} (o : FlO h1 h f vs vd) (e : Ext h0 h1) : FlO h0 h f vs vd := ⟨o.1.back e, o.2.1.back e, o.2.2⟩
theorem Box.ext {h0 h : H} {b : Nat} {f : UFlash} (x : Box h0 h b f) : Ext h0 h := by obtain ⟨_, _, _, _, _, _, _, _, _, _, e⟩ := x; exact e
theorem Box.of {h0 h : H} {b : Nat} {f : UFlash} {vs vd : Value} (o : FlO h0 h f vs vd) (e : Ext h0 h) (n : h.get b = none) (hb : h.base ≤ b) : Box h0 (h.set b ⟨[vs, vd], 2⟩) b f := by
  have n1 : ob vs ≠ some b := fun q => by obtain ⟨_, _, z, hg⟩ := o.1.ob_new q; rw [n] at hg; cases hg
  have n2 : ob vd ≠ some b := fun q => by obtain ⟨_, _, z, hg⟩ := o.2.1.ob_new q; rw [n] at hg; cases hg
  exact ⟨vs, vd, H.set_get_same _ _ _, o.1.setOb n1 _, o.2.1.setOb n2 _, o.2.2, n1, n2, e.none n, hb, e.set n _⟩
end Go.Proofs.YtiokibikhanfcaaGreat

set_option linter.unusedVariables false
set_option linter.unusedSimpArgs false
set_option maxRecDepth 100000
namespace Go.Proofs.YtiokibikhanfcaaGreat
open Go.KH

/-! ## Flash memories written by the reference -/
end Go.Proofs.YtiokibikhanfcaaGreat

set_option linter.unusedVariables false
set_option linter.unusedSimpArgs false
set_option maxRecDepth 100000
namespace Go.Proofs.YtiokibikhanfcaaGreat
open Go.KH

/-! ## Flash memories written by the reference: sync, put, acts -/
end Go.Proofs.YtiokibikhanfcaaGreat

set_option linter.unusedVariables false
set_option linter.unusedSimpArgs false
set_option maxRecDepth 100000
namespace Go.Proofs.YtiokibikhanfcaaGreat
open Go.KH

/-! ## Acts that keep a text -/
end Go.Proofs.YtiokibikhanfcaaGreat

set_option linter.unusedVariables false
set_option linter.unusedSimpArgs false
set_option maxRecDepth 100000
namespace Go.Proofs.YtiokibikhanfcaaGreat
open Go.KH

/-! ## Copies of lists and states -/
end Go.Proofs.YtiokibikhanfcaaGreat

set_option linter.unusedVariables false
set_option linter.unusedSimpArgs false
set_option maxRecDepth 100000
namespace Go.Proofs.YtiokibikhanfcaaGreat
open Go.KH

/-! ## What a boot does -/
def loadAt (m : UMach) (s : UState) : Nat := (s.stash + kept (logOf m s)).toNat
def hasAt (m : UMach) (n : Int) : Prop := 0 ≤ n ∧ n ≤ (m.flash.sec.length : Int) - 1
instance (m : UMach) (n : Int) : Decidable (hasAt m n) := by unfold hasAt; infer_instance
theorem ok_done {s : UState} (h : stateOk s) : 0 ≤ s.done ∧ s.done ≤ 40 := by
  have h5 := h.2.2.2.2
  split at h5 <;> omega
end Go.Proofs.YtiokibikhanfcaaGreat
