/- A helper of this seat's claims (contracts of the functions): what it shows is shown for every input that its statements name, on no other condition. -/
import Derived.Test.YtdofcojbjcpikaaCS
import Derived.Test.YtdofcojbjcpikaaKD
set_option linter.unusedVariables false
set_option linter.unusedSimpArgs false
set_option maxRecDepth 100000
namespace Go.Proofs.Ytdofcojbjcpikaa
open Go.KH

/-! ## Marks of texts and steps -/
def dig (n : Nat) : List UInt8 := if n = 0 then [] else dig (n / 10) ++ [UInt8.ofNat (48 + n % 10)]
termination_by n
decreasing_by omega
theorem dig_pos {n : Nat} (h : 0 < n) : dig n = dig (n / 10) ++ [UInt8.ofNat (48 + n % 10)] := by rw [dig, if_neg (by omega)]
theorem dig_zero : dig 0 = [] := by rw [dig, if_pos rfl]
def markT (k : Int) : List UInt8 := [109] ++ dig k.toNat
theorem dig_len : ∀ (d n : Nat), n < 10 ^ d → (dig n).length ≤ d
  | 0, n, h => by
    have : n = 0 := by simpa using h
    subst this; rw [dig_zero]; simp
  | d + 1, n, h => by
    by_cases h0 : 0 < n
    · rw [dig_pos h0, List.length_append]
      have := dig_len d (n / 10) (by rw [Nat.pow_succ] at h; omega)
      simp only [List.length_cons, List.length_nil]; omega
    · have : n = 0 := by omega
      subst this; rw [dig_zero]; simp
end Go.Proofs.Ytdofcojbjcpikaa
