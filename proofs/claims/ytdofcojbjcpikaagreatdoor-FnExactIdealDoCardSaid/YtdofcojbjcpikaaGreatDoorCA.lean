/- A helper of this seat's claims (contracts of the functions): what it shows is shown for every input that its statements name, on no other condition. -/
import Derived.Test.YtdofcojbjcpikaaGreatDoorProg
import Derived.Test.YtdofcojbjcpikaaGreatDoorChecked
import Derived.Test.YtdofcojbjcpikaaGreatDoorKC
set_option linter.unusedVariables false
namespace Go.Proofs.YtdofcojbjcpikaaGreatDoor
open Go.KH
theorem mixedOrders : Tryz.prog.follows .mixedOrders = true := Tryz.checked.mixed
end Go.Proofs.YtdofcojbjcpikaaGreatDoor
