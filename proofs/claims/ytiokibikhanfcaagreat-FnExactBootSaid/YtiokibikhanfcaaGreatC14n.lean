/- A helper of this seat's claims (contracts of the functions): what it shows is shown for every input that its statements name, on no other condition. -/
import Derived.Test.YtiokibikhanfcaaGreatC04k
import Derived.Test.YtiokibikhanfcaaGreatC12b
set_option linter.unusedVariables false
set_option linter.unusedSimpArgs false
set_option maxRecDepth 100000
namespace Go.Proofs.YtiokibikhanfcaaGreat
open Go.KH

/-! ## New machines -/
def mach0 : UMach := ⟨0, ⟨[], []⟩⟩
theorem mach0_f (h0 h : H) (c : Int) : RepF h0 h (spMachO (mach0, c)) [i64 0, nils, nils, i64 c] := machO_f.2 ⟨nils, nils, rfl, .inl ⟨none, 0, rfl, rfl⟩, .inl ⟨none, 0, rfl, rfl⟩, fun _ h => by cases h⟩
def part (l : List (List UInt8)) (k : Nat) : List (List UInt8) := List.replicate 3 [] ++ (l.take k ++ List.replicate (24 + l.length - k) [])
end Go.Proofs.YtiokibikhanfcaaGreat
