/- A helper of this seat's claims (contracts of the functions): what it shows is shown for every input that its statements name, on no other condition. -/
import Derived.Test.YtdofcojbjcpikaaProg
import Derived.Test.YtdofcojbjcpikaaChecked
import Derived.Test.YtdofcojbjcpikaaKC
set_option linter.unusedVariables false
namespace Go.Proofs.Ytdofcojbjcpikaa
open Go.KH
theorem mixedOrders : Try.prog.follows .mixedOrders = true := Try.checked.mixed
end Go.Proofs.Ytdofcojbjcpikaa
