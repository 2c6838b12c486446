/- A helper of this seat's claims (contracts of the functions): what it shows is shown for every input that its statements name, on no other condition. -/
import Derived.Test.YtpponffjeilhmaaCDu
import Derived.Test.YtpponffjeilhmaaP9
import Derived.Test.YtpponffjeilhmaaC11q
import Derived.Test.YtpponffjeilhmaaCE
set_option linter.unusedVariables false
set_option linter.unusedSimpArgs false
set_option maxRecDepth 100000
namespace Go.Proofs.Ytpponffjeilhmaa
open Go.KH

/-! ## Steps, from outside -/
theorem reads_put {t r : List UInt8} {a : Nat} {x : UStep} (h : t.drop a = stepB x ++ r) (hx : x.ok) (hd : x.data.length ≤ 8000) (ha : a ≤ t.length) : Reads t a x (a + (stepB x).length) := by
  unfold stepB at h
  rw [List.append_assoc, List.append_assoc, List.append_assoc] at h
  have g1 := getN_put h hx.1
  have h2 := drop_put h
  have g2 := getN_put h2 hx.2.1
  have h3 := drop_put h2
  have g3 := getN_put h3 hx.2.2.1
  have h4 := drop_put h3
  have hl := congrArg List.length h
  simp only [List.length_append, List.length_drop] at hl
  have g4 := getT_put h4 hd (by omega)
  refine ⟨_, _, _, g1, g2, g3, ?_⟩
  rw [g4]
  unfold stepB
  simp only [List.length_append, Prod.mk.injEq, true_and, and_true]
  omega
theorem stepR_put {x : UStep} (hx : x.ok) (hd : x.data.length ≤ 8000) (hk : stepOk x 8) : stepR (stepB x) = some x := by
  have r := reads_put (t := stepB x) (r := []) (a := 0) (by simp) hx hd (Nat.zero_le _)
  rw [stepR_of r, if_pos ⟨by omega, hk⟩]
theorem stepOut_put {x : UStep} (hx : x.ok) (hd : x.data.length ≤ 9) (hk : stepOk x 8) : stepOut (stepB x) = (x, 0) := by
  have := stepB_60 hx hk
  unfold stepOut
  rw [if_neg (by omega), stepR_put hx (by omega) hk]
theorem stepOk_8 {x : UStep} {b : Int} (hb : 1 ≤ b ∧ b ≤ 8) (h : stepOk x b) : stepOk x 8 := by
  unfold stepOk at h ⊢
  obtain ⟨h1, h2, h3, h4⟩ := h
  refine ⟨h1, ?_, ?_, h4⟩
  · by_cases h5 : x.kind = 5
    · rw [if_pos h5] at h2 ⊢; exact h2
    · rw [if_neg h5] at h2 ⊢; omega
  · by_cases h5 : x.kind = 5
    · rw [if_pos h5] at h3 ⊢; exact h3
    · rw [if_neg h5] at h3 ⊢
      by_cases h34 : x.kind = 3 ∨ x.kind = 4
      · rw [if_pos h34] at h3 ⊢; omega
      · rw [if_neg h34] at h3 ⊢; exact h3
theorem rising_append : ∀ (l m : List UStep) (last : Int), risingFrom last (l ++ m) = true → risingFrom last l = true
  | [], m, last, _ => rfl
  | s :: l, m, last, h => by
    unfold risingFrom at h ⊢
    simp only [List.cons_append] at h
    split at h
    · rename_i h5
      rw [if_pos h5]
      simp only [Bool.and_eq_true] at h ⊢
      exact ⟨h.1, rising_append l m _ h.2⟩
    · rename_i h5
      rw [if_neg h5]
      exact rising_append l m _ h
theorem code_take {l : List UStep} {n : Int} {k : Nat} (h : codeOf l n = 0) (hk : k ≤ l.length) : codeOf (l.take k) n = 0 := by
  obtain ⟨h1, h2, h3⟩ := code_zero h
  refine code_ok ⟨?_, h1.2.1, fun s hs => h1.2.2 s (List.mem_of_mem_take hs)⟩ ?_ ?_
  · have := h1.1; rw [List.length_take]; omega
  · rintro ⟨i, j, hi, hj, q1, q2, q3⟩
    rw [List.length_take] at hi
    refine h2 ⟨i, j, by omega, hj, ?_, ?_, ?_⟩
    · simpa using q1
    · simpa using q2
    · simpa using q3
  · have : l = l.take k ++ l.drop k := (List.take_append_drop k l).symm
    rw [this] at h3
    exact rising_append _ _ _ h3
/-- impl.StepBytes -/
def b_impl_StepBytes : C := (.seq (.ops [⟨(some 1), none, .box (.t 0)⟩, q 2 (.mv (.c (str [])))])
 (.seq (.seq (.ops [q 3 (.ld true 4 (.t 1)), ⟨(some 4), none, .call (.c (.func (.func 148) #[] #[])) [(.t 3), (.c (i64 8))]⟩, q 5 (.un .not (.t 4))])
 (.cond (.t 5) (.seq (.ops [q 2 (.mv (.c (str [])))])
 .ret) .skip))
 (.seq (.ops [q 6 (.ld true 4 (.t 1)), ⟨(some 7), none, .call (.c (.func (.func 149) #[] #[])) [(.t 6)]⟩, q 2 (.mv (.t 7))])
 .ret)))
theorem w_impl_StepBytes {args : List Value} {h : H} {Q : Value → H → Prop} (hl : args.length ≤ 8) (hk : wpc Try.prog b_impl_StepBytes (retw [.tmp 2] Q) (argsFr args) h) : AC Try.prog 53 args h Q :=
  AC.of_wpc mixedOrders Try.func53 (by kernel_rfl) (by kernel_rfl : prepF Try.prog Try.f53 = some ⟨8, [.tmp 2], b_impl_StepBytes⟩) hl hk

theorem implStepBytes_pc (h : H) (s : UStep) (hs : s.ok) (hd : s.data.length ≤ 8000) : PC Try.prog 53 [.agg s.cells.toArray] h (str (if stepOk s 8 then stepB s else [])) := by
  refine PC_of ?_
  refine w_impl_StepBytes (by simp) ?_
  unfold b_impl_StepBytes
  simp -implicitDefEqProofs only [go_sem, ↓reduceIte, reduceCtorEq, Int.reduceEq, Int.reduceLT, Int.reduceLE, Nat.reduceEqDiff, Nat.reduceAdd, Nat.reduceMul, Nat.reduceLeDiff, Nat.reduceSub, Int.reduceNeg]
  intro b1 hb_b1 n_b1
  simp -implicitDefEqProofs only [go_sem, ↓reduceIte, reduceCtorEq, Int.reduceEq, Int.reduceLT, Int.reduceLE, Nat.reduceEqDiff, Nat.reduceAdd, Nat.reduceMul, Nat.reduceLeDiff, Nat.reduceSub, Int.reduceNeg, hb_b1]
  refine (isStep_pc _ s (by unfold in64; omega) (by omega)).use ?_
  simp -implicitDefEqProofs only [go_sem, ↓reduceIte, reduceCtorEq, Int.reduceEq, Int.reduceLT, Int.reduceLE, Nat.reduceEqDiff, Nat.reduceAdd, Nat.reduceMul, Nat.reduceLeDiff, Nat.reduceSub, Int.reduceNeg, hb_b1]
  refine Br.of (fun h1 => ?_) (fun h1 => ?_)
  · simp -implicitDefEqProofs only [go_sem, ↓reduceIte, reduceCtorEq, Int.reduceEq, Int.reduceLT, Int.reduceLE, Nat.reduceEqDiff, Nat.reduceAdd, Nat.reduceMul, Nat.reduceLeDiff, Nat.reduceSub, Int.reduceNeg, h1, hb_b1]
    refine (stepBytes_pc _ s hs hd).use ?_
    simp -implicitDefEqProofs only [go_sem, ↓reduceIte, reduceCtorEq, Int.reduceEq, Int.reduceLT, Int.reduceLE, Nat.reduceEqDiff, Nat.reduceAdd, Nat.reduceMul, Nat.reduceLeDiff, Nat.reduceSub, Int.reduceNeg, h1, hb_b1]
    exact ((Ext.refl _).set' n_b1 _)
  · simp -implicitDefEqProofs only [go_sem, ↓reduceIte, reduceCtorEq, Int.reduceEq, Int.reduceLT, Int.reduceLE, Nat.reduceEqDiff, Nat.reduceAdd, Nat.reduceMul, Nat.reduceLeDiff, Nat.reduceSub, Int.reduceNeg, h1, hb_b1]
    exact ((Ext.refl _).set' n_b1 _)
/-- impl.StepRight -/
def b_impl_StepRight : C := (.seq (.ops [⟨(some 2), none, .box (.t 0)⟩, q 4 (.mv (.c (.bool false)))])
 (.seq (.ops [q 5 (.mv (.t 1)), ⟨(some 6), none, .call (.c (.func (.func 155) #[] #[])) [(.t 5)]⟩, q 7 (.mv (.t 6)), qg 8 7 true (.ld true 4 (.t 2)), qg 9 7 true (.mv (.t 1)), ⟨(some 10), (some (7, true)), .call (.c (.func (.func 148) #[] #[])) [(.t 8), (.t 9)]⟩, q 11 (.pick (.t 7) (.t 10) (.c (.bool false))), q 4 (.mv (.t 11))])
 .ret))
theorem w_impl_StepRight {args : List Value} {h : H} {Q : Value → H → Prop} (hl : args.length ≤ 12) (hk : wpc Try.prog b_impl_StepRight (retw [.tmp 4] Q) (argsFr args) h) : AC Try.prog 61 args h Q :=
  AC.of_wpc mixedOrders Try.func61 (by kernel_rfl) (by kernel_rfl : prepF Try.prog Try.f61 = some ⟨12, [.tmp 4], b_impl_StepRight⟩) hl hk

theorem implStepRight_pc (h : H) (s : UStep) {blocks : Int} (hb : in64 blocks) : PC Try.prog 61 [.agg s.cells.toArray, i64 blocks] h (.bool (decide ((1 ≤ blocks ∧ blocks ≤ 8) ∧ stepOk s blocks))) := by
  refine PC_of ?_
  refine w_impl_StepRight (by simp) ?_
  unfold b_impl_StepRight
  simp -implicitDefEqProofs only [go_sem, ↓reduceIte, reduceCtorEq, Int.reduceEq, Int.reduceLT, Int.reduceLE, Nat.reduceEqDiff, Nat.reduceAdd, Nat.reduceMul, Nat.reduceLeDiff, Nat.reduceSub, Int.reduceNeg]
  intro b1 hb_b1 n_b1
  simp -implicitDefEqProofs only [go_sem, ↓reduceIte, reduceCtorEq, Int.reduceEq, Int.reduceLT, Int.reduceLE, Nat.reduceEqDiff, Nat.reduceAdd, Nat.reduceMul, Nat.reduceLeDiff, Nat.reduceSub, Int.reduceNeg, hb_b1]
  refine (isBlocks_pc _ _).use ?_
  by_cases h1 : 1 ≤ blocks ∧ blocks ≤ 8
  · have h1' : decide (1 ≤ blocks ∧ blocks ≤ 8) = true := decide_eq_true h1
    simp -implicitDefEqProofs only [go_sem, ↓reduceIte, reduceCtorEq, Int.reduceEq, Int.reduceLT, Int.reduceLE, Nat.reduceEqDiff, Nat.reduceAdd, Nat.reduceMul, Nat.reduceLeDiff, Nat.reduceSub, Int.reduceNeg, h1', hb_b1]
    refine (isStep_pc _ s hb (by omega)).use ?_
    simp -implicitDefEqProofs only [go_sem, ↓reduceIte, reduceCtorEq, Int.reduceEq, Int.reduceLT, Int.reduceLE, Nat.reduceEqDiff, Nat.reduceAdd, Nat.reduceMul, Nat.reduceLeDiff, Nat.reduceSub, Int.reduceNeg, hb_b1]
    first | exact ⟨((Ext.refl _).set' n_b1 _), by simp [h1]⟩ | (simp only [h1]; exact ⟨((Ext.refl _).set' n_b1 _), by simp⟩)
  · simp -implicitDefEqProofs only [go_sem, ↓reduceIte, reduceCtorEq, Int.reduceEq, Int.reduceLT, Int.reduceLE, Nat.reduceEqDiff, Nat.reduceAdd, Nat.reduceMul, Nat.reduceLeDiff, Nat.reduceSub, Int.reduceNeg, h1, hb_b1]
    first | exact ((Ext.refl _).set' n_b1 _) | exact ⟨((Ext.refl _).set' n_b1 _), by simp [h1]⟩
/-- impl.StepsCode -/
def b_impl_StepsCode : C := (.seq (.ops [q 4 (.mv (.c (i64 0)))])
 (.seq (.ops [q 5 (.mv (.t 0)), q 6 (.mv (.t 1)), ⟨(some 7), none, .call (.c (.func (.func 114) #[] #[])) [(.t 5), (.t 6)]⟩, q 4 (.mv (.t 7))])
 .ret))
theorem w_impl_StepsCode {args : List Value} {h : H} {Q : Value → H → Prop} (hl : args.length ≤ 8) (hk : wpc Try.prog b_impl_StepsCode (retw [.tmp 4] Q) (argsFr args) h) : AC Try.prog 57 args h Q :=
  AC.of_wpc mixedOrders Try.func57 (by kernel_rfl) (by kernel_rfl : prepF Try.prog Try.f57 = some ⟨8, [.tmp 4], b_impl_StepsCode⟩) hl hk

theorem implStepsCode_pc {h : H} {v : Value} {l : List UStep} {blocks : Int} (hv : Sl h v 4 (l.map UStep.cells)) (hn : l.length ≤ 1048576) : PC Try.prog 57 [v, i64 blocks] h (i64 (codeOf l blocks)) := by
  refine w_impl_StepsCode (by simp) ?_
  unfold b_impl_StepsCode
  simp -implicitDefEqProofs only [go_sem, ↓reduceIte, reduceCtorEq, Int.reduceEq, Int.reduceLT, Int.reduceLE, Nat.reduceEqDiff, Nat.reduceAdd, Nat.reduceMul, Nat.reduceLeDiff, Nat.reduceSub, Int.reduceNeg]
  refine PC.use (stepsCode_pc hv hn) ?_
  simp -implicitDefEqProofs only [go_sem, ↓reduceIte, reduceCtorEq, Int.reduceEq, Int.reduceLT, Int.reduceLE, Nat.reduceEqDiff, Nat.reduceAdd, Nat.reduceMul, Nat.reduceLeDiff, Nat.reduceSub, Int.reduceNeg]
def wr20 (l : List UStep) : List UStep := if 20 < l.length then [] else l.filter isW
/-- impl.Writes -/
def b_impl_Writes : C := (.seq (.ops [q 2 (.mv (.c nils))])
 (.seq (.seq (.ops [q 3 (.mv (.t 0)), q 4 (.len (.t 3)), q 5 (.bin .gtr (.t 4) (.c (i64 20)))])
 (.cond (.t 5) (.seq (.ops [q 2 (.mv (.c nils))])
 .ret) .skip))
 (.seq (.ops [q 6 (.mv (.t 0)), ⟨(some 7), none, .call (.c (.func (.func 153) #[] #[])) [(.t 6)]⟩, q 2 (.mv (.t 7))])
 .ret)))
theorem w_impl_Writes {args : List Value} {h : H} {Q : Value → H → Prop} (hl : args.length ≤ 8) (hk : wpc Try.prog b_impl_Writes (retw [.tmp 2] Q) (argsFr args) h) : AC Try.prog 58 args h Q :=
  AC.of_wpc mixedOrders Try.func58 (by kernel_rfl) (by kernel_rfl : prepF Try.prog Try.f58 = some ⟨8, [.tmp 2], b_impl_Writes⟩) hl hk

theorem implWrites_ac {h : H} {v : Value} {l : List UStep} (hv : Sl h v 4 (l.map UStep.cells)) (hn : l.length ≤ 1048576) : AC Try.prog 58 [v] h fun r h' => Ext h h' ∧ Fre h h' r 4 ((wr20 l).map UStep.cells) := by
  obtain ⟨a, c, rfl⟩ := hv.shape
  have hl : (l.map UStep.cells).length = l.length := by simp
  rw [hl] at hv
  unfold wr20
  skip
  refine w_impl_Writes (by simp) ?_
  unfold b_impl_Writes
  simp -implicitDefEqProofs only [go_sem, ↓reduceIte, reduceCtorEq, Int.reduceEq, Int.reduceLT, Int.reduceLE, Nat.reduceEqDiff, Nat.reduceAdd, Nat.reduceMul, Nat.reduceLeDiff, Nat.reduceSub, Int.reduceNeg, hl]
  by_cases h1 : 20 < l.length
  · rw [if_pos h1]
    simp -implicitDefEqProofs only [go_sem, ↓reduceIte, reduceCtorEq, Int.reduceEq, Int.reduceLT, Int.reduceLE, Nat.reduceEqDiff, Nat.reduceAdd, Nat.reduceMul, Nat.reduceLeDiff, Nat.reduceSub, Int.reduceNeg, show (20 : Int) < (l.length : Int) by omega, hl]
    exact ⟨Ext.refl _, .inl ⟨none, 0, rfl, rfl⟩⟩
  · rw [if_neg h1]
    simp -implicitDefEqProofs only [go_sem, ↓reduceIte, reduceCtorEq, Int.reduceEq, Int.reduceLT, Int.reduceLE, Nat.reduceEqDiff, Nat.reduceAdd, Nat.reduceMul, Nat.reduceLeDiff, Nat.reduceSub, Int.reduceNeg, show ¬ (20 : Int) < (l.length : Int) by omega, hl]
    refine AC_of (writes_ac hv hn) ?_
    rintro r h1 - ⟨e1, f1⟩
    simp -implicitDefEqProofs only [go_sem, ↓reduceIte, reduceCtorEq, Int.reduceEq, Int.reduceLT, Int.reduceLE, Nat.reduceEqDiff, Nat.reduceAdd, Nat.reduceMul, Nat.reduceLeDiff, Nat.reduceSub, Int.reduceNeg, hl]
    exact ⟨e1, f1⟩
theorem specWrites2_ac {h : H} {v : Value} {l : List UStep} (hv : Sl h v 4 (l.map UStep.cells)) (hn : l.length ≤ 1000) : AC Try.prog 64 [v] h fun r h' => Ext h h' ∧ Fre h h' r 4 ((wr20 l).map UStep.cells) := by
  by_cases h1 : 20 < l.length
  · unfold wr20
    rw [if_pos h1]
    obtain ⟨a, c, rfl⟩ := hv.shape
    have hl : (l.map UStep.cells).length = l.length := by simp
    skip
    refine w_spec_Writes (by simp) ?_
    unfold b_spec_Writes
    simp -implicitDefEqProofs only [go_sem, ↓reduceIte, reduceCtorEq, Int.reduceEq, Int.reduceLT, Int.reduceLE, Nat.reduceEqDiff, Nat.reduceAdd, Nat.reduceMul, Nat.reduceLeDiff, Nat.reduceSub, Int.reduceNeg, hl]
    intro b0 hb0 n0
    simp -implicitDefEqProofs only [go_sem, ↓reduceIte, reduceCtorEq, Int.reduceEq, Int.reduceLT, Int.reduceLE, Nat.reduceEqDiff, Nat.reduceAdd, Nat.reduceMul, Nat.reduceLeDiff, Nat.reduceSub, Int.reduceNeg, hl]
    refine loopW_of (fun m f h' => f 0 = .slice a l.length c ∧ f 4 = i64 0 ∧ f 3 = sl b0 0 0 0 ∧ h' = h.set b0 ⟨[], 0⟩) 0 ⟨by simp -implicitDefEqProofs only [go_sem, ↓reduceIte, reduceCtorEq, Int.reduceEq, Int.reduceLT, Int.reduceLE, Nat.reduceEqDiff, Nat.reduceAdd, Nat.reduceMul, Nat.reduceLeDiff, Nat.reduceSub, Int.reduceNeg, hl], by simp -implicitDefEqProofs only [go_sem, ↓reduceIte, reduceCtorEq, Int.reduceEq, Int.reduceLT, Int.reduceLE, Nat.reduceEqDiff, Nat.reduceAdd, Nat.reduceMul, Nat.reduceLeDiff, Nat.reduceSub, Int.reduceNeg, hl], by simp -implicitDefEqProofs only [go_sem, ↓reduceIte, reduceCtorEq, Int.reduceEq, Int.reduceLT, Int.reduceLE, Nat.reduceEqDiff, Nat.reduceAdd, Nat.reduceMul, Nat.reduceLeDiff, Nat.reduceSub, Int.reduceNeg, hl], rfl⟩ ?_
    rintro m f h' ⟨f0, f4, f3, rfl⟩
    simp -implicitDefEqProofs only [go_sem, ↓reduceIte, reduceCtorEq, Int.reduceEq, Int.reduceLT, Int.reduceLE, Nat.reduceEqDiff, Nat.reduceAdd, Nat.reduceMul, Nat.reduceLeDiff, Nat.reduceSub, Int.reduceNeg, f0, f4, f3, show (0 : Int) < (l.length : Int) by omega, show ¬ (l.length : Int) ≤ 20 by omega, hl]
    exact ⟨(Ext.refl h).set n0 _, .inl ⟨_, 0, rfl, rfl⟩⟩
  · unfold wr20
    rw [if_neg h1]
    exact specWrites_ac hv (by omega)
end Go.Proofs.Ytpponffjeilhmaa
