/- A helper of this seat's claims (contracts of the functions): what it shows is shown for every input that its statements name, on no other condition. -/
import Derived.Test.YthheclnjaemjnaaGreatCS
import Derived.Test.YthheclnjaemjnaaGreatKD
set_option linter.unusedVariables false
set_option linter.unusedSimpArgs false
set_option maxRecDepth 100000
namespace Go.Proofs.YthheclnjaemjnaaGreat
open Go.KH

/-! ## Marks of texts and steps -/
def dig (n : Nat) : List UInt8 := if n = 0 then [] else dig (n / 10) ++ [UInt8.ofNat (48 + n % 10)]
termination_by n
decreasing_by omega
def markT (k : Int) : List UInt8 := [109] ++ dig k.toNat
abbrev gStr (k : Int) : List Value := [str (markT k)]
end Go.Proofs.YthheclnjaemjnaaGreat
