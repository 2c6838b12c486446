/- A helper of this seat's claims (contracts of the functions): what it shows is shown for every input that its statements name, on no other condition. -/
import Derived.Test.YtiokibikhanfcaaGreatC06c
import Derived.Test.YtiokibikhanfcaaGreatMC13a
set_option linter.unusedVariables false
set_option linter.unusedSimpArgs false
set_option maxRecDepth 100000
namespace Go.Proofs.YtiokibikhanfcaaGreat
open Go.KH

/-! ## Packages -/
structure UPkg where
  blocks : Int
  digest : List UInt8
  steps : List UStep
deriving DecidableEq
abbrev UPkg.cells (p : UPkg) (v : Value) : List Value := [i64 p.blocks, str p.digest, v]
def pkgOk (p : UPkg) : Prop := codeOf p.steps p.blocks = 0 ∧ p.digest.length = 32
noncomputable instance (p : UPkg) : Decidable (pkgOk p) := inferInstanceAs (Decidable (_ ∧ _))
def UPkg.fin (p : UPkg) : Prop := p.steps.length ≤ maxLen
def UPkg.ok (p : UPkg) : Prop := in64 p.blocks ∧ p.digest.length ≤ maxLen ∧ p.steps.length ≤ maxLen ∧ ∀ s ∈ p.steps, s.ok
theorem stepB_60 {s : UStep} {b : Int} (hs : s.ok) (h : stepOk s b) : (stepB s).length ≤ 60 := by
  have hd := stepOk_data h
  have l1 := putNum_le hs.1
  have l2 := putNum_le hs.2.1
  have l3 := putNum_le hs.2.2.1
  have l4 := putText_le (t := s.data) (by omega)
  unfold stepB
  simp only [List.length_append]; omega
end Go.Proofs.YtiokibikhanfcaaGreat
