/- A helper of this seat's claims (contracts of the functions): what it shows is shown for every input that its statements name, on no other condition. -/
import Derived.Test.YtdofcojbjcpikaaC0
set_option linter.unusedVariables false
set_option linter.unusedSimpArgs false
set_option maxRecDepth 100000
namespace Go.Proofs.Ytdofcojbjcpikaa
open Go.KH

/-! ## Snapshot reads -/
def isTouch (block : Int) (s : UStep) : Bool := decide (¬ s.kind = 5 ∧ s.dst = block)
def touch (l : List UStep) (block : Int) : Int := firstAt (isTouch block) l
def touches (l : List UStep) (block : Int) : Int := if l.length ≤ 20 then touch l block else -1
end Go.Proofs.Ytdofcojbjcpikaa
