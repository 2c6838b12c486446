/- A helper of this seat's claims (contracts of the functions): what it shows is shown for every input that its statements name, on no other condition. -/
import Derived.Test.YtdofcojbjcpikaaC0
set_option linter.unusedVariables false
set_option linter.unusedSimpArgs false
set_option maxRecDepth 100000
namespace Go.Proofs.Ytdofcojbjcpikaa
open Go.KH

/-! ## Steps -/
def stepOk (s : UStep) (blocks : Int) : Prop := (1 ≤ s.kind ∧ s.kind ≤ 5) ∧ (if s.kind = 5 then s.dst = 0 else 0 ≤ s.dst ∧ s.dst ≤ blocks - 1) ∧
  (if s.kind = 5 then 0 ≤ s.src ∧ s.src ≤ 1000000 else if s.kind = 3 ∨ s.kind = 4 then 0 ≤ s.src ∧ s.src ≤ blocks - 1 else s.src = 0) ∧ (if s.kind = 2 ∨ s.kind = 4 then s.data.length = 8 else s.data = [])
instance (s : UStep) (blocks : Int) : Decidable (stepOk s blocks) := by unfold stepOk; infer_instance
end Go.Proofs.Ytdofcojbjcpikaa
