/- A helper of this seat's claims (contracts of the functions): what it shows is shown for every input that its statements name, on no other condition. -/
import Derived.Test.YtdofcojbjcpikaaC04g
import Derived.Test.YtdofcojbjcpikaaC12o
set_option linter.unusedVariables false
set_option linter.unusedSimpArgs false
set_option maxRecDepth 100000
namespace Go.Proofs.Ytdofcojbjcpikaa
open Go.KH

/-! ## The state of a machine -/
def machFit (m : UMach) : Prop := (1 ≤ m.blocks ∧ m.blocks ≤ 8) ∧ flashOk m.flash ∧ (m.flash.sec.length : Int) = 27 + m.blocks
instance (m : UMach) : Decidable (machFit m) := by unfold machFit; infer_instance
def stM (m : UMach) : Option UState := if machFit m ∧ (metaGet m.flash).1.2 = 0 then stI (metaGet m.flash).1.1.2 else none
theorem metaGet_at (f : UFlash) : ((metaGet f).1.2 = 0 ↔ 0 ≤ (metaGet f).2) := by
  unfold metaGet
  by_cases h1 : (metaR (flashGet f 0)).2 = 0
  · by_cases h2 : (metaR (flashGet f 1)).2 = 0
    · by_cases h3 : (metaR (flashGet f 1)).1.1 ≤ (metaR (flashGet f 0)).1.1 <;> simp [h1, h2, h3]
    · simp [h1, h2]
  · by_cases h2 : (metaR (flashGet f 1)).2 = 0 <;> simp [h1, h2]
theorem metaR_len (t : List UInt8) : (metaR t).1.2.length ≤ 80 ∧ 0 ≤ (metaR t).1.1 ∧ (metaR t).1.1 ≤ 1000000 := by
  unfold metaR metaI
  split
  · simp only
    split
    · rename_i h; exact ⟨h.2.2.2, by simp only; omega, h.2.2.1.2⟩
    · simp
  · simp
theorem metaGet_len (f : UFlash) : (metaGet f).1.1.2.length ≤ 80 ∧ 0 ≤ (metaGet f).1.1.1 ∧ (metaGet f).1.1.1 ≤ 1000000 := by
  unfold metaGet
  simp only
  split
  · exact metaR_len _
  · split
    · exact metaR_len _
    · simp
theorem stM_no {m : UMach} (h : ¬ machFit m) : stM m = none := by unfold stM; rw [if_neg (fun k => h k.1)]
end Go.Proofs.Ytdofcojbjcpikaa
