/- A helper of this seat's claims (contracts of the functions): what it shows is shown for every input that its statements name, on no other condition. -/
import Derived.Test.YtiokibikhanfcaaGreatProg
import Derived.Test.YtiokibikhanfcaaGreatChecked
import Derived.Test.YtiokibikhanfcaaGreatKC
set_option linter.unusedVariables false
namespace Go.Proofs.YtiokibikhanfcaaGreat
open Go.KH
theorem mixedOrders : Tryz.prog.follows .mixedOrders = true := Tryz.checked.mixed
end Go.Proofs.YtiokibikhanfcaaGreat
