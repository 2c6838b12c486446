/- A helper of this seat's claims (contracts of the functions): what it shows is shown for every input that its statements name, on no other condition. -/
import Derived.Test.YtiokibikhanfcaaGreatC01
import Derived.Test.YtiokibikhanfcaaGreatC06
set_option linter.unusedVariables false
set_option linter.unusedSimpArgs false
set_option maxRecDepth 100000
namespace Go.Proofs.YtiokibikhanfcaaGreat
open Go.KH

/-! ## Notes -/
theorem putText_le {t : List UInt8} (h : t.length ≤ 1099511627776) : (putText t).length ≤ t.length + 10 := by
  have := putNum_le (n := (t.length : Int)) ⟨by omega, by omega⟩
  unfold putText; rw [List.length_append]; omega
end Go.Proofs.YtiokibikhanfcaaGreat
