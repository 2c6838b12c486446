/- A helper of this seat's claims (contracts of the functions): what it shows is shown for every input that its statements name, on no other condition. -/
import Derived.Test.YtdofcojbjcpikaaC10
import Derived.Test.YtdofcojbjcpikaaC07
import Derived.Test.YtdofcojbjcpikaaKD
set_option linter.unusedVariables false
set_option linter.unusedSimpArgs false
set_option maxRecDepth 100000
namespace Go.Proofs.Ytdofcojbjcpikaa
open Go.KH

/-! ## The code of a list of steps -/
def stepsOk (l : List UStep) (blocks : Int) : Prop := l.length ≤ 20 ∧ (1 ≤ blocks ∧ blocks ≤ 8) ∧ ∀ s ∈ l, stepOk s blocks
open Classical in
noncomputable def codeOf (l : List UStep) (blocks : Int) : Int := if stepsOk l blocks then (if twice l then 12 else if risingFrom (-1) l = true then 0 else 8) else 1
theorem code_form {l : List UStep} {b : Int} (h : ¬ stepsOk l b) : codeOf l b = 1 := by unfold codeOf; rw [if_neg h]
theorem code_twice {l : List UStep} {b : Int} (h : stepsOk l b) (h2 : twice l) : codeOf l b = 12 := by unfold codeOf; rw [if_pos h, if_pos h2]
theorem code_range {l : List UStep} {b : Int} (h : stepsOk l b) (h2 : ¬ twice l) (h3 : risingFrom (-1) l = false) : codeOf l b = 8 := by unfold codeOf; rw [if_pos h, if_neg h2, if_neg (by rw [h3]; simp)]
theorem code_ok {l : List UStep} {b : Int} (h : stepsOk l b) (h2 : ¬ twice l) (h3 : risingFrom (-1) l = true) : codeOf l b = 0 := by unfold codeOf; rw [if_pos h, if_neg h2, if_pos h3]
theorem lab5 {p : Bool × Int} {s : UStep} (h : s.kind = 5) : labStep p s = (p.1 && decide (p.2 < s.src), s.src) := by unfold labStep; rw [if_pos h]
theorem touch_lt {l : List UStep} {k : Nat} (hk : k < l.length) (h5 : ¬ l[k].kind = 5) : (0 ≤ touch l l[k].dst ∧ touch l l[k].dst ≤ k) ∧ (touch l l[k].dst < k ↔ ∃ j, twiceAt l k j) := by
  have hp : isTouch l[k].dst l[k] = true := by simp [isTouch, h5]
  have hge : 0 ≤ touch l l[k].dst := by
    have := firstAt_any (isTouch l[k].dst) l
    rw [List.any_eq_true.2 ⟨l[k], List.getElem_mem hk, hp⟩] at this
    exact of_decide_eq_true this
  obtain ⟨j, hj, e, hpj, hno⟩ := firstAt_get hge
  have hjk : j ≤ k := by
    rcases Nat.lt_or_ge k j with h | h
    · have := hno k h; rw [hp] at this; cases this
    · exact h
  unfold touch at hge ⊢
  rw [e]
  refine ⟨⟨by omega, by omega⟩, ?_⟩
  constructor
  · intro hlt
    have hlt : j < k := by omega
    refine ⟨j, hk, hlt, h5, ?_, ?_⟩
    · simp [isTouch] at hpj; exact hpj.1
    · simp [isTouch] at hpj; exact hpj.2.symm
  · rintro ⟨i, _, hi, _, hi5, hd⟩
    rcases Nat.lt_or_ge j k with h | h
    · omega
    · exfalso
      have : j = k := by omega
      subst this
      have := hno i hi
      simp [isTouch, hi5, hd] at this
end Go.Proofs.Ytdofcojbjcpikaa
