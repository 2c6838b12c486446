/- A helper of this seat's claims (contracts of the functions): what it shows is shown for every input that its statements name, on no other condition. -/
import Derived.Test.YtdofcojbjcpikaaC05
import Derived.Test.YtdofcojbjcpikaaKD
set_option linter.unusedVariables false
set_option linter.unusedSimpArgs false
set_option maxRecDepth 100000
namespace Go.Proofs.Ytdofcojbjcpikaa
open Go.KH

/-! ## The laws' helpers for lists of integers -/
theorem ints_map (l : List Int) : ints l = (l.map i64).map fun x => [x] := by simp [ints]
theorem ints_wid (l : List Int) : Wid 1 (ints l) := Wid.map fun _ => rfl
theorem neq_i64 (a b : Int) : obin .neq (i64 a) (i64 b) = some (.bool (decide (¬ a = b))) := by rw [bi_neq]
end Go.Proofs.Ytdofcojbjcpikaa
