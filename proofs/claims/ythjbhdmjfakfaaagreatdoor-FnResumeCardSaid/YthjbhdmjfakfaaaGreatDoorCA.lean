/- A helper of this seat's claims (contracts of the functions): what it shows is shown for every input that its statements name, on no other condition. -/
import Derived.Test.YthjbhdmjfakfaaaGreatDoorProg
import Derived.Test.YthjbhdmjfakfaaaGreatDoorChecked
import Derived.Test.YthjbhdmjfakfaaaGreatDoorKC
set_option linter.unusedVariables false
namespace Go.Proofs.YthjbhdmjfakfaaaGreatDoor
open Go.KH
theorem mixedOrders : Tryz.prog.follows .mixedOrders = true := Tryz.checked.mixed
end Go.Proofs.YthjbhdmjfakfaaaGreatDoor