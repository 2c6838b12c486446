/- A helper of this seat's claims (contracts of the functions): what it shows is shown for every input that its statements name, on no other condition. -/
import Derived.Test.YtdofcojbjcpikaaC13s
set_option linter.unusedVariables false
set_option linter.unusedSimpArgs false
set_option maxRecDepth 100000
namespace Go.Proofs.Ytdofcojbjcpikaa
open Go.KH

/-! ## Machines that can be started: what is read -/
theorem stI_ok {t : List UInt8} {s : UState} (h : stI t = some s) : stateOk s := by
  unfold stI at h
  simp only at h
  split at h
  · rename_i hc
    simp only [Option.some.injEq] at h
    rw [← h]; exact hc.2.2.2.2
  · cases h
theorem stM_ok {m : UMach} {s : UState} (h : stM m = some s) : machFit m ∧ stateOk s := by
  unfold stM at h
  split at h
  · rename_i hc; exact ⟨hc.1, stI_ok h⟩
  · cases h
theorem stM_small (m : UMach) : ((stM m).getD zeroS).held.length ≤ 24 ∧ ((stM m).getD zeroS).mine.length ≤ 24 := by
  cases hs : stM m with
  | none => simp [zeroS]
  | some s =>
    have := (stM_ok hs).2
    exact ⟨listOk_le this.2.1, listOk_le this.2.2.1⟩
def fitOut (m : UMach) : Bool := (stM m).isSome
def stateOfOut (m : UMach) : UState × Int := match stM m with | some s => (s, 0) | none => (zeroS, 1)
theorem stateOfOut_small (m : UMach) : (stateOfOut m).1.held.length ≤ 24 ∧ (stateOfOut m).1.mine.length ≤ 24 := by
  have := stM_small m
  unfold stateOfOut
  cases hs : stM m with
  | none => simp [zeroS]
  | some s => rw [hs] at this; exact this
def areaOf (m : UMach) (n : Int) : List UInt8 := flashGet m.flash (3 + m.blocks + n)
theorem areaOf_len {m : UMach} (hf : machFit m) (n : Int) : (areaOf m n).length ≤ 96 := flashGet_len hf.2.1 _
def stashOut (m : UMach) (k : Int) : List UInt8 := match stM m with | some s => (if 0 ≤ k ∧ k ≤ s.stash - 1 then areaOf m (s.mine.getD k.toNat 0) else []) | none => []
theorem stash_lt {s : UState} {k : Int} (hok : stateOk s) (h : 0 ≤ k ∧ k ≤ s.stash - 1) : k.toNat < s.mine.length ∧ k.toNat = k := by
  have h5 := hok.2.2.2.2
  by_cases p : s.phase = 1
  · rw [if_pos p] at h5; omega
  · rw [if_neg p] at h5; omega
theorem stateOk_stash {s : UState} (hok : stateOk s) : 0 ≤ s.stash ∧ s.stash ≤ 4 := by
  have h5 := hok.2.2.2.2
  by_cases p : s.phase = 1
  · rw [if_pos p] at h5; omega
  · rw [if_neg p] at h5; omega
end Go.Proofs.Ytdofcojbjcpikaa
