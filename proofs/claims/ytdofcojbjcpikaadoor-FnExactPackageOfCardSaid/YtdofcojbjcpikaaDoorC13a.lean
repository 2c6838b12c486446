/- A helper of this seat's claims (contracts of the functions): what it shows is shown for every input that its statements name, on no other condition. -/
import Derived.Test.YtdofcojbjcpikaaDoorC01
import Derived.Test.YtdofcojbjcpikaaDoorC06
set_option linter.unusedVariables false
set_option linter.unusedSimpArgs false
set_option maxRecDepth 100000
namespace Go.Proofs.YtdofcojbjcpikaaDoor
open Go.KH

/-! ## Notes -/
def noteB (n at_ : Int) (data : List UInt8) : List UInt8 := sealB (putNum n ++ putNum at_ ++ putText data)
def noteBytes (n at_ : Int) (data : List UInt8) : List UInt8 := if (0 ≤ n ∧ n ≤ 1000000) ∧ (0 ≤ at_ ∧ at_ ≤ 39) ∧ data.length = 8 then noteB n at_ data else []
theorem putText_le {t : List UInt8} (h : t.length ≤ 1099511627776) : (putText t).length ≤ t.length + 10 := by
  have := putNum_le (n := (t.length : Int)) ⟨by omega, by omega⟩
  unfold putText; rw [List.length_append]; omega
end Go.Proofs.YtdofcojbjcpikaaDoor
