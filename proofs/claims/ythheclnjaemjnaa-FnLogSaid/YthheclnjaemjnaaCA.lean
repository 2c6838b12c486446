/- A helper of this seat's claims (contracts of the functions): what it shows is shown for every input that its statements name, on no other condition. -/
import Derived.Test.YthheclnjaemjnaaProg
import Derived.Test.YthheclnjaemjnaaChecked
import Derived.Test.YthheclnjaemjnaaKC
set_option linter.unusedVariables false
namespace Go.Proofs.Ythheclnjaemjnaa
open Go.KH
theorem mixedOrders : Try.prog.follows .mixedOrders = true := Try.checked.mixed
end Go.Proofs.Ythheclnjaemjnaa
