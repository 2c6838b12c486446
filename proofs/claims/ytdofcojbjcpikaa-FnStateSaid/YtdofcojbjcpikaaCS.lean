/- A helper of this seat's claims (contracts of the functions): what it shows is shown for every input that its statements name, on no other condition. -/
import Derived.Test.YtdofcojbjcpikaaC0
import Derived.Test.YtdofcojbjcpikaaKD
set_option linter.unusedVariables false
set_option linter.unusedSimpArgs false
set_option maxRecDepth 100000
namespace Go.Proofs.Ytdofcojbjcpikaa
open Go.KH

/-! ## The laws' helpers for lists of texts -/
abbrev strs (l : List (List UInt8)) : List (List Value) := l.map fun s => [str s]
theorem strs_wid (l : List (List UInt8)) : Wid 1 (strs l) := Wid.map fun _ => rfl
theorem strs_one (l : List (List UInt8)) : (strs l).flatten.all Value.oneCell' = true := by simp [strs, oneCell_str]
theorem strs_map (l : List (List UInt8)) : strs l = (l.map str).map fun x => [x] := by simp [strs]
theorem neq_strv (a b : List UInt8) : obin .neq (str a) (str b) = some (.bool (decide (¬ a = b))) := by rw [bs_neq]
theorem strs_of (rows : List (List Value)) (h : ∀ r ∈ rows, fitsF [.str] r) : ∃ l : List (List UInt8), rows = strs l ∧ ∀ s ∈ l, s.length ≤ maxLen :=
  rows_of (fun s => [str s]) (fun s => s.length ≤ maxLen) rows fun r hr => by
    obtain ⟨_, _, rfl, h1, h⟩ := fitsF_cons (h r hr)
    obtain rfl := fitsF_nil h
    obtain ⟨a, rfl, k1⟩ := h1
    exact ⟨a, rfl, k1⟩
end Go.Proofs.Ytdofcojbjcpikaa
