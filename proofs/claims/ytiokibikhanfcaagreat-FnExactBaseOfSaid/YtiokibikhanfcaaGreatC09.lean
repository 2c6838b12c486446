/- A helper of this seat's claims (contracts of the functions): what it shows is shown for every input that its statements name, on no other condition. -/
import Derived.Test.YtiokibikhanfcaaGreatC0
set_option linter.unusedVariables false
set_option linter.unusedSimpArgs false
set_option maxRecDepth 100000
namespace Go.Proofs.YtiokibikhanfcaaGreat
open Go.KH

/-! ## Records -/
def kept (l : List UStep) : Int := foldi (fun (a : Int) i s => if s.kind = 5 then (i : Int) + 1 else a) 0 l
end Go.Proofs.YtiokibikhanfcaaGreat
