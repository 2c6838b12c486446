/- A helper of this seat's claims (contracts of the functions): what it shows is shown for every input that its statements name, on no other condition. -/
import Derived.Test.YtdofcojbjcpikaaCM
import Derived.Test.YtdofcojbjcpikaaC06
set_option linter.unusedVariables false
set_option linter.unusedSimpArgs false
set_option maxRecDepth 100000
namespace Go.Proofs.Ytdofcojbjcpikaa
open Go.KH

/-! ## Images -/
def imageOk (l : List (List UInt8)) : Prop := (1 ≤ l.length ∧ l.length ≤ 8) ∧ ∀ s ∈ l, s.length = 8
instance (l : List (List UInt8)) : Decidable (imageOk l) := by unfold imageOk; infer_instance
theorem firstAt_any {α : Type} (p : α → Bool) (l : List α) : decide (0 ≤ firstAt p l) = l.any p := by
  cases h : l.any p with
  | true =>
    obtain ⟨x, hx, hp⟩ := List.any_eq_true.1 h
    obtain ⟨k, hk, e⟩ : ∃ k, ∃ hk : k < l.length, p l[k] = true := by obtain ⟨k, hk, rfl⟩ := List.getElem_of_mem hx; exact ⟨k, hk, hp⟩
    apply decide_eq_true
    by_cases h0 : 0 ≤ firstAt p l
    · exact h0
    · have hle := firstAt_le p l
      have : firstAt p l = -1 := by omega
      unfold firstAt at this
      split at this
      · omega
      · rename_i hn; rw [List.findIdx?_eq_none_iff] at hn; have := hn _ (List.getElem_mem hk); rw [e] at this; cases this
  | false =>
    apply decide_eq_false
    rw [firstAt_none (fun i hi => by
      have := List.any_eq_false.1 h l[i] (List.getElem_mem hi)
      simpa using this)]
    omega
end Go.Proofs.Ytdofcojbjcpikaa
