/- A helper of this seat's claims (contracts of the functions): what it shows is shown for every input that its statements name, on no other condition. -/
import Derived.Test.YthheclnjaemjnaaCDv
set_option linter.unusedVariables false
set_option linter.unusedSimpArgs false
set_option maxRecDepth 100000
namespace Go.Proofs.Ythheclnjaemjnaa
open Go.KH

/-! ## What the laws draw: images and steps -/
/-- An image and steps, drawn. -/
structure ImgSteps (h : H) (u w : Value) (T : List (List UInt8)) (L : List UStep) : Prop where
  t9 : ∀ t ∈ T, t.length ≤ 9
  tn : T.length ≤ 10
  ok : ∀ s ∈ L, okd s
  ln : L.length ≤ 21
  su : Sl h u 1 (strs T)
  sw : Sl h w 4 (L.map UStep.cells)
theorem nilSl (h : H) (w : Nat) : Sl h nils w [] := (Own.nil h h w).sl
end Go.Proofs.Ythheclnjaemjnaa
