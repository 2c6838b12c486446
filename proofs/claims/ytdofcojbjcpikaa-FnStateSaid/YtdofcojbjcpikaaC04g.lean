/- A helper of this seat's claims (contracts of the functions): what it shows is shown for every input that its statements name, on no other condition. -/
import Derived.Test.YtdofcojbjcpikaaC04
import Derived.Test.YtdofcojbjcpikaaKD
set_option linter.unusedVariables false
set_option linter.unusedSimpArgs false
set_option maxRecDepth 100000
namespace Go.Proofs.Ytdofcojbjcpikaa
open Go.KH

/-! ## Metadata of a flash memory -/
def metaStep (s : ((Int × List UInt8) × Int) × Int) (o : (Int × List UInt8) × Int) (n : Int) : ((Int × List UInt8) × Int) × Int := if o.2 = 0 ∧ (s.2 < 0 ∨ s.1.1.1 < o.1.1) then (o, n) else s
def metaIt (f : UFlash) : Nat → ((Int × List UInt8) × Int) × Int
  | 0 => (((0, []), 6), -1)
  | k + 1 => metaStep (metaIt f k) (metaR (flashGet f k)) k
theorem metaIt_two (f : UFlash) : metaIt f 2 = metaGet f := by
  unfold metaIt metaIt metaIt metaGet metaStep
  simp only [show ((0 : Nat) : Int) = 0 from rfl, show ((1 : Nat) : Int) = 1 from rfl]
  by_cases h1 : (metaR (flashGet f 0)).2 = 0
  · by_cases h2 : (metaR (flashGet f 1)).2 = 0
    · by_cases h3 : (metaR (flashGet f 0)).1.1 < (metaR (flashGet f 1)).1.1
      · simp [h1, h2, h3]
      · simp [h1, h2, h3]
    · simp [h1, h2]
  · by_cases h2 : (metaR (flashGet f 1)).2 = 0
    · simp [h1, h2]
    · simp [h1, h2]
end Go.Proofs.Ytdofcojbjcpikaa
