/- A helper of this seat's claims (contracts of the functions): what it shows is shown for every input that its statements name, on no other condition. -/
import Derived.Test.YtdofcojbjcpikaaDoorProg
import Derived.Test.YtdofcojbjcpikaaDoorChecked
import Derived.Test.YtdofcojbjcpikaaDoorKC
set_option linter.unusedVariables false
namespace Go.Proofs.YtdofcojbjcpikaaDoor
open Go.KH
theorem mixedOrders : Tryd.prog.follows .mixedOrders = true := Tryd.checked.mixed
end Go.Proofs.YtdofcojbjcpikaaDoor
