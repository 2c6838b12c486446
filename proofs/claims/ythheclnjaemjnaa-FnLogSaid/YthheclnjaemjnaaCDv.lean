/- A helper of this seat's claims (contracts of the functions): what it shows is shown for every input that its statements name, on no other condition. -/
import Derived.Test.YthheclnjaemjnaaCDt
import Derived.Test.YthheclnjaemjnaaCE
import Derived.Test.YthheclnjaemjnaaC10s
set_option linter.unusedVariables false
set_option linter.unusedSimpArgs false
set_option maxRecDepth 100000
namespace Go.Proofs.Ythheclnjaemjnaa
open Go.KH

/-! ## Images drawn -/
theorem strsW (l : List (List UInt8)) : Wid 1 (strs l) := strs_wid l
end Go.Proofs.Ythheclnjaemjnaa
