/- A helper of this seat's claims (plain laws): what it shows is shown for every input that its statements name, on no other condition. -/
import Derived.Test.YtpponffjeilhmaaP0
set_option linter.unusedVariables false
namespace Go.KH

/-! ## Lists of steps -/
/-- The labels rise from a number on. -/
def risingFrom (last : Int) : List UStep → Bool
  | [] => true
  | s :: l => if s.kind = 5 then decide (last < s.src) && risingFrom s.src l else risingFrom last l
/-- What a loop over labels keeps: still rising, and the last label. -/
def labStep (p : Bool × Int) (s : UStep) : Bool × Int := if s.kind = 5 then (p.1 && decide (p.2 < s.src), s.src) else p
theorem lab_fold : ∀ (l : List UStep) (r : Bool) (last : Int), (l.foldl labStep (r, last)).1 = (r && risingFrom last l)
  | [], r, last => by simp [risingFrom]
  | s :: l, r, last => by
    rw [List.foldl_cons]
    by_cases h : s.kind = 5
    · rw [show labStep (r, last) s = (r && decide (last < s.src), s.src) by unfold labStep; rw [if_pos h], lab_fold l]
      rw [risingFrom, if_pos h, Bool.and_assoc]
    · rw [show labStep (r, last) s = (r, last) by unfold labStep; rw [if_neg h], lab_fold l]
      rw [risingFrom, if_neg h]
/-- Two steps that are no labels and write one block. -/
def twiceAt (l : List UStep) (i k : Nat) : Prop := ∃ (hi : i < l.length) (hk : k < i), l[i].kind ≠ 5 ∧ (l[k]'(by omega)).kind ≠ 5 ∧ l[i].dst = (l[k]'(by omega)).dst
def twice (l : List UStep) : Prop := ∃ i k, twiceAt l i k
theorem foldl_take {α β : Type} (f : β → α → β) (b : β) (l : List α) (k : Nat) (hk : k < l.length) : (l.take (k + 1)).foldl f b = f ((l.take k).foldl f b) l[k] := by
  rw [List.take_succ_eq_append_getElem hk, List.foldl_append]; rfl
/-- The last label of a rising list. -/
theorem rising_last {l : List UStep} {k : Nat} (hk : k < l.length) (h5 : l[k].kind = 5) (hr : ((l.take k).foldl labStep (true, -1)).1 = true) (hn : ¬ ((l.take k).foldl labStep (true, -1)).2 < l[k].src) : risingFrom (-1) l = false := by
  have h1 := lab_fold l true (-1)
  have h2 : l = l.take k ++ l[k] :: l.drop (k + 1) := by rw [← List.drop_eq_getElem_cons hk, List.take_append_drop]
  have h3 : (l.foldl labStep (true, -1)).1 = false := by
    rw [h2, List.foldl_append, List.foldl_cons]
    obtain ⟨r, a⟩ : ∃ p : Bool × Int, p = (l.take k).foldl labStep (true, -1) := ⟨_, rfl⟩
    rw [← a] at hn ⊢
    have e : labStep r l[k] = (false, l[k].src) := by
      unfold labStep
      rw [if_pos h5]
      simp [hn]
    rw [e, lab_fold]; rfl
  rw [h3] at h1
  simpa using h1.symm
end Go.KH
