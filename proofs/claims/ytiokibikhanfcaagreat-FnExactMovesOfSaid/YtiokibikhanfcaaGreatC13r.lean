/- A helper of this seat's claims (contracts of the functions): what it shows is shown for every input that its statements name, on no other condition. -/
import Derived.Test.YtiokibikhanfcaaGreatC13l
import Derived.Test.YtiokibikhanfcaaGreatC11u
import Derived.Test.YtiokibikhanfcaaGreatC11
import Derived.Test.YtiokibikhanfcaaGreatC07
set_option linter.unusedVariables false
set_option linter.unusedSimpArgs false
set_option maxRecDepth 100000
namespace Go.Proofs.YtiokibikhanfcaaGreat
open Go.KH

/-! ## Machines that are right -/
noncomputable def movesM (m : UMach) (s : UState) : List UMove := planB ((logOf m s).filter isW)
def soundM (m : UMach) (s : UState) : Prop := s.phase ≤ 2 ∨ (codeOf (logOf m s) m.blocks = 0 ∧ slots (movesM m s) ≤ s.stash ∧ s.done ≤ (movesM m s).length)
noncomputable instance (m : UMach) (s : UState) : Decidable (soundM m s) := by unfold soundM; infer_instance
theorem moves_28 {m : UMach} {s : UState} (h : codeOf (logOf m s) m.blocks = 0) : (movesM m s).length ≤ 28 := by
  have h1 := planOut_small (logOf m s) m.blocks
  unfold planOut at h1
  have := (code_zero h).1.1
  rw [if_neg (by omega), if_pos h] at h1
  exact h1
end Go.Proofs.YtiokibikhanfcaaGreat
