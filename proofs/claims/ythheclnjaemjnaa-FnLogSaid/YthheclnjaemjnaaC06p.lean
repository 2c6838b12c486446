/- A helper of this seat's claims (contracts of the functions): what it shows is shown for every input that its statements name, on no other condition. -/
import Derived.Test.YthheclnjaemjnaaC06r
import Derived.Test.YthheclnjaemjnaaP9
set_option linter.unusedVariables false
set_option linter.unusedSimpArgs false
set_option maxRecDepth 100000
namespace Go.Proofs.Ythheclnjaemjnaa
open Go.KH

/-! ## A step's encoding is decoded to it -/
theorem reads_put {t r : List UInt8} {a : Nat} {x : UStep} (h : t.drop a = stepB x ++ r) (hx : x.ok) (hd : x.data.length ≤ 8000) (ha : a ≤ t.length) : Reads t a x (a + (stepB x).length) := by
  unfold stepB at h
  rw [List.append_assoc, List.append_assoc, List.append_assoc] at h
  have g1 := getN_put h hx.1
  have h2 := drop_put h
  have g2 := getN_put h2 hx.2.1
  have h3 := drop_put h2
  have g3 := getN_put h3 hx.2.2.1
  have h4 := drop_put h3
  have hl := congrArg List.length h
  simp only [List.length_append, List.length_drop] at hl
  have g4 := getT_put h4 hd (by omega)
  refine ⟨_, _, _, g1, g2, g3, ?_⟩
  rw [g4]
  unfold stepB
  simp only [List.length_append, Prod.mk.injEq, true_and, and_true]
  omega
theorem stepR_put {x : UStep} (hx : x.ok) (hd : x.data.length ≤ 8000) (hk : stepOk x 8) : stepR (stepB x) = some x := by
  have r := reads_put (t := stepB x) (r := []) (a := 0) (by simp) hx hd (Nat.zero_le _)
  rw [stepR_of r, if_pos ⟨by omega, hk⟩]
end Go.Proofs.Ythheclnjaemjnaa
