/- A helper of this seat's claims (contracts of the functions): what it shows is shown for every input that its statements name, on no other condition. -/
import Derived.Test.YtiokibikhanfcaaGreatC10
import Derived.Test.YtiokibikhanfcaaGreatC07
import Derived.Test.YtiokibikhanfcaaGreatKD
set_option linter.unusedVariables false
set_option linter.unusedSimpArgs false
set_option maxRecDepth 100000
namespace Go.Proofs.YtiokibikhanfcaaGreat
open Go.KH

/-! ## The code of a list of steps -/
def stepsOk (l : List UStep) (blocks : Int) : Prop := l.length ≤ 20 ∧ (1 ≤ blocks ∧ blocks ≤ 8) ∧ ∀ s ∈ l, stepOk s blocks
open Classical in
noncomputable def codeOf (l : List UStep) (blocks : Int) : Int := if stepsOk l blocks then (if twice l then 12 else if risingFrom (-1) l = true then 0 else 8) else 1
end Go.Proofs.YtiokibikhanfcaaGreat
