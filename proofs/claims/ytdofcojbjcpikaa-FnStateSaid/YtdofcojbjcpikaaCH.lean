/- A helper of this seat's claims (contracts of the functions): what it shows is shown for every input that its statements name, on no other condition. -/
import Derived.Test.YtdofcojbjcpikaaC07
import Derived.Test.YtdofcojbjcpikaaKD
set_option linter.unusedVariables false
set_option linter.unusedSimpArgs false
set_option maxRecDepth 100000
namespace Go.Proofs.Ytdofcojbjcpikaa
open Go.KH

/-! ## Flash memories read -/
theorem firstAt_of {α : Type} {p : α → Bool} {l : List α} {k : Nat} (hk : k < l.length) (h : p l[k] = true) : 0 ≤ firstAt p l := by
  have h1 := firstAt_le p l
  by_cases h0 : 0 ≤ firstAt p l
  · exact h0
  have h2 : firstAt p l = -1 := by omega
  unfold firstAt at h2
  split at h2
  · omega
  · rename_i h3
    have := List.findIdx?_eq_none_iff.1 h3 l[k] (List.getElem_mem hk)
    rw [h] at this; cases this
end Go.Proofs.Ytdofcojbjcpikaa
