/- A helper of this seat's claims (contracts of the functions): what it shows is shown for every input that its statements name, on no other condition. -/
import Derived.Test.YtpponffjeilhmaaC0
import Derived.Test.YtpponffjeilhmaaCS
set_option linter.unusedVariables false
set_option linter.unusedSimpArgs false
set_option maxRecDepth 100000
namespace Go.Proofs.Ytpponffjeilhmaa
open Go.KH

/-! ## slices.Equal -/
/-- slices.Equal[[]string,string] -/
def b_slices_Equal_string_string : C := (.seq (.ops [q 4 (.mv (.c (.bool false)))])
 (.seq (.seq (.ops [q 6 (.mv (.t 0)), q 7 (.len (.t 6)), q 8 (.mv (.t 1)), q 9 (.len (.t 8)), q 10 (.bin .neq (.t 7) (.t 9))])
 (.cond (.t 10) (.seq (.ops [q 4 (.mv (.c (.bool false)))])
 .ret) .skip))
 (.seq (.seq (.ops [q 11 (.mv (.t 0)), q 12 (.len (.t 11)), q 13 (.mv (.c (i64 0)))])
 (.block 0 (.loop (.seq (.ops [q 14 (.bin .lss (.t 13) (.t 12))])
 (.seq (.cond (.t 14) .skip (.exit 0))
 (.seq (.block 1 (.seq (.ops [q 15 (.mv (.t 13)), q 5 (.mv (.t 15))])
 (.seq (.dops true (.tk (q 16 (.mv (.t 0))) (.tk (q 17 (.mv (.t 5))) (.tk (q 18 (.idx 1 (.t 16) (.t 17))) (.tk (q 19 (.ld false 1 (.t 18))) (.tk (q 20 (.mv (.t 1))) (.tk (q 21 (.mv (.t 5))) (.tk (q 22 (.idx 1 (.t 20) (.t 21))) (.tk (q 23 (.ld false 1 (.t 22))) (.tk (q 24 (.bin .neq (.t 19) (.t 23))) .nil))))))))))
 (.cond (.t 24) (.seq (.ops [q 4 (.mv (.c (.bool false)))])
 .ret) .skip))))
 (.ops [q 25 (.bin .add (.t 13) (.c (i64 1))), q 13 (.mv (.t 25))])))))))
 (.seq (.ops [q 4 (.mv (.c (.bool true)))])
 .ret))))
theorem w_slices_Equal_string_string {args : List Value} {h : H} {Q : Value → H → Prop} (hl : args.length ≤ 26) (hk : wpc Try.prog b_slices_Equal_string_string (retw [.tmp 4] Q) (argsFr args) h) : AC Try.prog 202 args h Q :=
  AC.of_wpc mixedOrders Try.func202 (by kernel_rfl) (by kernel_rfl : prepF Try.prog Try.f202 = some ⟨26, [.tmp 4], b_slices_Equal_string_string⟩) hl hk

theorem eqlStr_pc {h : H} {v1 v2 : Value} {l1 l2 : List (List UInt8)} (hv : Sl h v1 1 (strs l1)) (hu : Sl h v2 1 (strs l2)) (hn : l1.length ≤ 1048576) : PC Try.prog 202 [v1, v2] h (.bool (decide (l1 = l2))) := by
  obtain ⟨a, c, b, o, rfl, hc, r2, r3⟩ := hv
  obtain ⟨a', c', b', o', rfl, hc', q2, q3⟩ := hu
  have e1 : (strs l1).length = l1.length := by simp
  have e2 : (strs l2).length = l2.length := by simp
  rw [e1] at r2
  rw [e2] at q2
  skip
  by_cases hl : l1.length = l2.length
  rotate_left
  · refine w_slices_Equal_string_string (by simp) ?_
    unfold b_slices_Equal_string_string
    simp -implicitDefEqProofs only [go_sem, ↓reduceIte, reduceCtorEq, Int.reduceEq, Int.reduceLT, Int.reduceLE, Nat.reduceEqDiff, Nat.reduceAdd, Nat.reduceMul, Nat.reduceLeDiff, Nat.reduceSub, Int.reduceNeg, hl, show ¬ ((l1.length : Int) = (l2.length : Int)) by omega, e1, e2]
    exact dec_f fun h => hl (by rw [h])
  have hl0 : decide ((l1.length : Int) = (l2.length : Int)) = true := decide_eq_true (by omega)
  have hl1 : ((l1.length : Int) ≠ (l2.length : Int)) = False := eq_false fun h => h (by omega)
  refine w_slices_Equal_string_string (by simp) ?_
  unfold b_slices_Equal_string_string
  simp -implicitDefEqProofs only [go_sem, ↓reduceIte, reduceCtorEq, Int.reduceEq, Int.reduceLT, Int.reduceLE, Nat.reduceEqDiff, Nat.reduceAdd, Nat.reduceMul, Nat.reduceLeDiff, Nat.reduceSub, Int.reduceNeg, hl0, hl1, e1, e2]
  refine loopW_of (fun m f h' => ∃ k, m + k = l1.length ∧ h' = h ∧ f 0 = .slice a l1.length c ∧ f 1 = .slice a' l2.length c' ∧ f 12 = i64 l1.length ∧ f 13 = i64 k ∧ l1.take k = l2.take k) l1.length
    ⟨0, by simp, rfl, by simp -implicitDefEqProofs only [go_sem, ↓reduceIte, reduceCtorEq, Int.reduceEq, Int.reduceLT, Int.reduceLE, Nat.reduceEqDiff, Nat.reduceAdd, Nat.reduceMul, Nat.reduceLeDiff, Nat.reduceSub, Int.reduceNeg, e1, e2], by simp -implicitDefEqProofs only [go_sem, ↓reduceIte, reduceCtorEq, Int.reduceEq, Int.reduceLT, Int.reduceLE, Nat.reduceEqDiff, Nat.reduceAdd, Nat.reduceMul, Nat.reduceLeDiff, Nat.reduceSub, Int.reduceNeg, e1, e2], by simp -implicitDefEqProofs only [go_sem, ↓reduceIte, reduceCtorEq, Int.reduceEq, Int.reduceLT, Int.reduceLE, Nat.reduceEqDiff, Nat.reduceAdd, Nat.reduceMul, Nat.reduceLeDiff, Nat.reduceSub, Int.reduceNeg, e1, e2], by simp -implicitDefEqProofs only [go_sem, ↓reduceIte, reduceCtorEq, Int.reduceEq, Int.reduceLT, Int.reduceLE, Nat.reduceEqDiff, Nat.reduceAdd, Nat.reduceMul, Nat.reduceLeDiff, Nat.reduceSub, Int.reduceNeg, e1, e2]; rfl, by simp⟩ ?_
  rintro m f h' ⟨k, hm, rfl, f0, f1, f12, f13, ht⟩
  skip
  by_cases hk : k < l1.length
  · have hk2 : k < l2.length := by omega
    have d1 := r3 k _ (show (strs l1)[k]? = some [str l1[k]] by simp [hk])
    have d2 := q3 k _ (show (strs l2)[k]? = some [str l2[k]] by simp [hk2])
    have hs : l1.take (k + 1) = l2.take (k + 1) ↔ l1[k] = l2[k] := by
      rw [List.take_succ_eq_append_getElem hk, List.take_succ_eq_append_getElem hk2, ht]
      exact ⟨fun h => (List.cons.inj (List.append_cancel_left h)).1, fun h => by rw [h]⟩
    by_cases he : l1[k] = l2[k]
    · skip
      simp -implicitDefEqProofs only [go_sem, ↓reduceIte, reduceCtorEq, Int.reduceEq, Int.reduceLT, Int.reduceLE, Nat.reduceEqDiff, Nat.reduceAdd, Nat.reduceMul, Nat.reduceLeDiff, Nat.reduceSub, Int.reduceNeg, hk, hk2, r2, q2, d1, d2, he, wrap_i64 (show -(9223372036854775808 : Int) ≤ ((k : Int) + 1) by omega) (show ((k : Int) + 1) < 9223372036854775808 by omega), e1, e2, f0, f1, f12, f13, Int.ofNat_lt, Int.natCast_nonneg]
      exact ⟨m - 1, by omega, h', Ext.refl _, k + 1, by omega, rfl, rfl, hs.2 he⟩
    · skip
      simp -implicitDefEqProofs only [go_sem, ↓reduceIte, reduceCtorEq, Int.reduceEq, Int.reduceLT, Int.reduceLE, Nat.reduceEqDiff, Nat.reduceAdd, Nat.reduceMul, Nat.reduceLeDiff, Nat.reduceSub, Int.reduceNeg, hk, hk2, r2, q2, d1, d2, he, e1, e2, f0, f1, f12, f13, Int.ofNat_lt, Int.natCast_nonneg]
      exact dec_f fun h => he (hs.1 (by rw [h]))
  · have e : k = l1.length := by omega
    subst e
    simp -implicitDefEqProofs only [go_sem, ↓reduceIte, reduceCtorEq, Int.reduceEq, Int.reduceLT, Int.reduceLE, Nat.reduceEqDiff, Nat.reduceAdd, Nat.reduceMul, Nat.reduceLeDiff, Nat.reduceSub, Int.reduceNeg, Nat.lt_irrefl, e1, e2, f0, f1, f12, f13, Int.ofNat_lt, Int.natCast_nonneg]
    exact dec_t (by rw [List.take_length, hl, List.take_length] at ht; exact ht)
/-- slices.Equal[[]impl.Step,impl.Step] -/
def b_slices_Equal_impl_Step_impl_Step : C := (.seq (.ops [q 4 (.mv (.c (.bool false)))])
 (.seq (.seq (.ops [q 6 (.mv (.t 0)), q 7 (.len (.t 6)), q 8 (.mv (.t 1)), q 9 (.len (.t 8)), q 10 (.bin .neq (.t 7) (.t 9))])
 (.cond (.t 10) (.seq (.ops [q 4 (.mv (.c (.bool false)))])
 .ret) .skip))
 (.seq (.seq (.ops [q 11 (.mv (.t 0)), q 12 (.len (.t 11)), q 13 (.mv (.c (i64 0)))])
 (.block 0 (.loop (.seq (.ops [q 14 (.bin .lss (.t 13) (.t 12))])
 (.seq (.cond (.t 14) .skip (.exit 0))
 (.seq (.block 1 (.seq (.ops [q 15 (.mv (.t 13)), q 5 (.mv (.t 15))])
 (.seq (.dops true (.tk (q 16 (.mv (.t 0))) (.tk (q 17 (.mv (.t 5))) (.tk (q 18 (.idx 4 (.t 16) (.t 17))) (.tk (q 19 (.ld true 4 (.t 18))) (.tk (q 20 (.mv (.t 1))) (.tk (q 21 (.mv (.t 5))) (.tk (q 22 (.idx 4 (.t 20) (.t 21))) (.tk (q 23 (.ld true 4 (.t 22))) (.tk (q 24 (.eqa true [.i, .i, .i, .s] (.t 19) (.t 23))) .nil))))))))))
 (.cond (.t 24) (.seq (.ops [q 4 (.mv (.c (.bool false)))])
 .ret) .skip))))
 (.ops [q 25 (.bin .add (.t 13) (.c (i64 1))), q 13 (.mv (.t 25))])))))))
 (.seq (.ops [q 4 (.mv (.c (.bool true)))])
 .ret))))
theorem w_slices_Equal_impl_Step_impl_Step {args : List Value} {h : H} {Q : Value → H → Prop} (hl : args.length ≤ 26) (hk : wpc Try.prog b_slices_Equal_impl_Step_impl_Step (retw [.tmp 4] Q) (argsFr args) h) : AC Try.prog 203 args h Q :=
  AC.of_wpc mixedOrders Try.func203 (by kernel_rfl) (by kernel_rfl : prepF Try.prog Try.f203 = some ⟨26, [.tmp 4], b_slices_Equal_impl_Step_impl_Step⟩) hl hk

theorem eqlStep_pc {h : H} {v1 v2 : Value} {l1 l2 : List UStep} (hv : Sl h v1 4 (List.map UStep.cells l1)) (hu : Sl h v2 4 (List.map UStep.cells l2)) (hn : l1.length ≤ 1048576) : PC Try.prog 203 [v1, v2] h (.bool (decide (l1 = l2))) := by
  obtain ⟨a, c, b, o, rfl, hc, r2, r3⟩ := hv
  obtain ⟨a', c', b', o', rfl, hc', q2, q3⟩ := hu
  have e1 : (List.map UStep.cells l1).length = l1.length := by simp
  have e2 : (List.map UStep.cells l2).length = l2.length := by simp
  rw [e1] at r2
  rw [e2] at q2
  skip
  by_cases hl : l1.length = l2.length
  rotate_left
  · refine w_slices_Equal_impl_Step_impl_Step (by simp) ?_
    unfold b_slices_Equal_impl_Step_impl_Step
    simp -implicitDefEqProofs only [go_sem, ↓reduceIte, reduceCtorEq, Int.reduceEq, Int.reduceLT, Int.reduceLE, Nat.reduceEqDiff, Nat.reduceAdd, Nat.reduceMul, Nat.reduceLeDiff, Nat.reduceSub, Int.reduceNeg, hl, show ¬ ((l1.length : Int) = (l2.length : Int)) by omega, e1, e2]
    exact dec_f fun h => hl (by rw [h])
  have hl0 : decide ((l1.length : Int) = (l2.length : Int)) = true := decide_eq_true (by omega)
  have hl1 : ((l1.length : Int) ≠ (l2.length : Int)) = False := eq_false fun h => h (by omega)
  refine w_slices_Equal_impl_Step_impl_Step (by simp) ?_
  unfold b_slices_Equal_impl_Step_impl_Step
  simp -implicitDefEqProofs only [go_sem, ↓reduceIte, reduceCtorEq, Int.reduceEq, Int.reduceLT, Int.reduceLE, Nat.reduceEqDiff, Nat.reduceAdd, Nat.reduceMul, Nat.reduceLeDiff, Nat.reduceSub, Int.reduceNeg, hl0, hl1, e1, e2]
  refine loopW_of (fun m f h' => ∃ k, m + k = l1.length ∧ h' = h ∧ f 0 = .slice a l1.length c ∧ f 1 = .slice a' l2.length c' ∧ f 12 = i64 l1.length ∧ f 13 = i64 k ∧ l1.take k = l2.take k) l1.length
    ⟨0, by simp, rfl, by simp -implicitDefEqProofs only [go_sem, ↓reduceIte, reduceCtorEq, Int.reduceEq, Int.reduceLT, Int.reduceLE, Nat.reduceEqDiff, Nat.reduceAdd, Nat.reduceMul, Nat.reduceLeDiff, Nat.reduceSub, Int.reduceNeg, e1, e2], by simp -implicitDefEqProofs only [go_sem, ↓reduceIte, reduceCtorEq, Int.reduceEq, Int.reduceLT, Int.reduceLE, Nat.reduceEqDiff, Nat.reduceAdd, Nat.reduceMul, Nat.reduceLeDiff, Nat.reduceSub, Int.reduceNeg, e1, e2], by simp -implicitDefEqProofs only [go_sem, ↓reduceIte, reduceCtorEq, Int.reduceEq, Int.reduceLT, Int.reduceLE, Nat.reduceEqDiff, Nat.reduceAdd, Nat.reduceMul, Nat.reduceLeDiff, Nat.reduceSub, Int.reduceNeg, e1, e2], by simp -implicitDefEqProofs only [go_sem, ↓reduceIte, reduceCtorEq, Int.reduceEq, Int.reduceLT, Int.reduceLE, Nat.reduceEqDiff, Nat.reduceAdd, Nat.reduceMul, Nat.reduceLeDiff, Nat.reduceSub, Int.reduceNeg, e1, e2]; rfl, by simp⟩ ?_
  rintro m f h' ⟨k, hm, rfl, f0, f1, f12, f13, ht⟩
  skip
  by_cases hk : k < l1.length
  · have hk2 : k < l2.length := by omega
    have d1 := r3 k _ (show (List.map UStep.cells l1)[k]? = some (l1[k]).cells by simp [hk])
    have d2 := q3 k _ (show (List.map UStep.cells l2)[k]? = some (l2[k]).cells by simp [hk2])
    have hs : l1.take (k + 1) = l2.take (k + 1) ↔ l1[k] = l2[k] := by
      rw [List.take_succ_eq_append_getElem hk, List.take_succ_eq_append_getElem hk2, ht]
      exact ⟨fun h => (List.cons.inj (List.append_cancel_left h)).1, fun h => by rw [h]⟩
    by_cases he : l1[k] = l2[k]
    · have he2 : (l1[k].kind = l2[k].kind ∧ l1[k].dst = l2[k].dst ∧ l1[k].src = l2[k].src ∧ l1[k].data = l2[k].data) = True := eq_true (by rw [he]; simp)
      simp -implicitDefEqProofs only [go_sem, ↓reduceIte, reduceCtorEq, Int.reduceEq, Int.reduceLT, Int.reduceLE, Nat.reduceEqDiff, Nat.reduceAdd, Nat.reduceMul, Nat.reduceLeDiff, Nat.reduceSub, Int.reduceNeg, hk, hk2, r2, q2, d1, d2, cellsEq_iiis, he2, wrap_i64 (show -(9223372036854775808 : Int) ≤ ((k : Int) + 1) by omega) (show ((k : Int) + 1) < 9223372036854775808 by omega), e1, e2, f0, f1, f12, f13, Int.ofNat_lt, Int.natCast_nonneg]
      exact ⟨m - 1, by omega, h', Ext.refl _, k + 1, by omega, rfl, rfl, hs.2 he⟩
    · have he2 : (l1[k].kind = l2[k].kind ∧ l1[k].dst = l2[k].dst ∧ l1[k].src = l2[k].src ∧ l1[k].data = l2[k].data) = False := eq_false fun q => he (by cases h1 : l1[k]; cases h2 : l2[k]; simp_all)
      simp -implicitDefEqProofs only [go_sem, ↓reduceIte, reduceCtorEq, Int.reduceEq, Int.reduceLT, Int.reduceLE, Nat.reduceEqDiff, Nat.reduceAdd, Nat.reduceMul, Nat.reduceLeDiff, Nat.reduceSub, Int.reduceNeg, hk, hk2, r2, q2, d1, d2, cellsEq_iiis, he2, e1, e2, f0, f1, f12, f13, Int.ofNat_lt, Int.natCast_nonneg]
      exact dec_f fun h => he (hs.1 (by rw [h]))
  · have e : k = l1.length := by omega
    subst e
    simp -implicitDefEqProofs only [go_sem, ↓reduceIte, reduceCtorEq, Int.reduceEq, Int.reduceLT, Int.reduceLE, Nat.reduceEqDiff, Nat.reduceAdd, Nat.reduceMul, Nat.reduceLeDiff, Nat.reduceSub, Int.reduceNeg, Nat.lt_irrefl, e1, e2, f0, f1, f12, f13, Int.ofNat_lt, Int.natCast_nonneg]
    exact dec_t (by rw [List.take_length, hl, List.take_length] at ht; exact ht)
/-- slices.Equal[[]impl.Move,impl.Move] -/
def b_slices_Equal_impl_Move_impl_Move : C := (.seq (.ops [q 4 (.mv (.c (.bool false)))])
 (.seq (.seq (.ops [q 6 (.mv (.t 0)), q 7 (.len (.t 6)), q 8 (.mv (.t 1)), q 9 (.len (.t 8)), q 10 (.bin .neq (.t 7) (.t 9))])
 (.cond (.t 10) (.seq (.ops [q 4 (.mv (.c (.bool false)))])
 .ret) .skip))
 (.seq (.seq (.ops [q 11 (.mv (.t 0)), q 12 (.len (.t 11)), q 13 (.mv (.c (i64 0)))])
 (.block 0 (.loop (.seq (.ops [q 14 (.bin .lss (.t 13) (.t 12))])
 (.seq (.cond (.t 14) .skip (.exit 0))
 (.seq (.block 1 (.seq (.ops [q 15 (.mv (.t 13)), q 5 (.mv (.t 15))])
 (.seq (.dops true (.tk (q 16 (.mv (.t 0))) (.tk (q 17 (.mv (.t 5))) (.tk (q 18 (.idx 4 (.t 16) (.t 17))) (.tk (q 19 (.ld true 4 (.t 18))) (.tk (q 20 (.mv (.t 1))) (.tk (q 21 (.mv (.t 5))) (.tk (q 22 (.idx 4 (.t 20) (.t 21))) (.tk (q 23 (.ld true 4 (.t 22))) (.tk (q 24 (.eqa true [.i, .i, .i, .i] (.t 19) (.t 23))) .nil))))))))))
 (.cond (.t 24) (.seq (.ops [q 4 (.mv (.c (.bool false)))])
 .ret) .skip))))
 (.ops [q 25 (.bin .add (.t 13) (.c (i64 1))), q 13 (.mv (.t 25))])))))))
 (.seq (.ops [q 4 (.mv (.c (.bool true)))])
 .ret))))
theorem w_slices_Equal_impl_Move_impl_Move {args : List Value} {h : H} {Q : Value → H → Prop} (hl : args.length ≤ 26) (hk : wpc Try.prog b_slices_Equal_impl_Move_impl_Move (retw [.tmp 4] Q) (argsFr args) h) : AC Try.prog 142 args h Q :=
  AC.of_wpc mixedOrders Try.func142 (by kernel_rfl) (by kernel_rfl : prepF Try.prog Try.f142 = some ⟨26, [.tmp 4], b_slices_Equal_impl_Move_impl_Move⟩) hl hk

theorem eqlMove_pc {h : H} {v1 v2 : Value} {l1 l2 : List UMove} (hv : Sl h v1 4 (List.map UMove.cells l1)) (hu : Sl h v2 4 (List.map UMove.cells l2)) (hn : l1.length ≤ 1048576) : PC Try.prog 142 [v1, v2] h (.bool (decide (l1 = l2))) := by
  obtain ⟨a, c, b, o, rfl, hc, r2, r3⟩ := hv
  obtain ⟨a', c', b', o', rfl, hc', q2, q3⟩ := hu
  have e1 : (List.map UMove.cells l1).length = l1.length := by simp
  have e2 : (List.map UMove.cells l2).length = l2.length := by simp
  rw [e1] at r2
  rw [e2] at q2
  skip
  by_cases hl : l1.length = l2.length
  rotate_left
  · refine w_slices_Equal_impl_Move_impl_Move (by simp) ?_
    unfold b_slices_Equal_impl_Move_impl_Move
    simp -implicitDefEqProofs only [go_sem, ↓reduceIte, reduceCtorEq, Int.reduceEq, Int.reduceLT, Int.reduceLE, Nat.reduceEqDiff, Nat.reduceAdd, Nat.reduceMul, Nat.reduceLeDiff, Nat.reduceSub, Int.reduceNeg, hl, show ¬ ((l1.length : Int) = (l2.length : Int)) by omega, e1, e2]
    exact dec_f fun h => hl (by rw [h])
  have hl0 : decide ((l1.length : Int) = (l2.length : Int)) = true := decide_eq_true (by omega)
  have hl1 : ((l1.length : Int) ≠ (l2.length : Int)) = False := eq_false fun h => h (by omega)
  refine w_slices_Equal_impl_Move_impl_Move (by simp) ?_
  unfold b_slices_Equal_impl_Move_impl_Move
  simp -implicitDefEqProofs only [go_sem, ↓reduceIte, reduceCtorEq, Int.reduceEq, Int.reduceLT, Int.reduceLE, Nat.reduceEqDiff, Nat.reduceAdd, Nat.reduceMul, Nat.reduceLeDiff, Nat.reduceSub, Int.reduceNeg, hl0, hl1, e1, e2]
  refine loopW_of (fun m f h' => ∃ k, m + k = l1.length ∧ h' = h ∧ f 0 = .slice a l1.length c ∧ f 1 = .slice a' l2.length c' ∧ f 12 = i64 l1.length ∧ f 13 = i64 k ∧ l1.take k = l2.take k) l1.length
    ⟨0, by simp, rfl, by simp -implicitDefEqProofs only [go_sem, ↓reduceIte, reduceCtorEq, Int.reduceEq, Int.reduceLT, Int.reduceLE, Nat.reduceEqDiff, Nat.reduceAdd, Nat.reduceMul, Nat.reduceLeDiff, Nat.reduceSub, Int.reduceNeg, e1, e2], by simp -implicitDefEqProofs only [go_sem, ↓reduceIte, reduceCtorEq, Int.reduceEq, Int.reduceLT, Int.reduceLE, Nat.reduceEqDiff, Nat.reduceAdd, Nat.reduceMul, Nat.reduceLeDiff, Nat.reduceSub, Int.reduceNeg, e1, e2], by simp -implicitDefEqProofs only [go_sem, ↓reduceIte, reduceCtorEq, Int.reduceEq, Int.reduceLT, Int.reduceLE, Nat.reduceEqDiff, Nat.reduceAdd, Nat.reduceMul, Nat.reduceLeDiff, Nat.reduceSub, Int.reduceNeg, e1, e2], by simp -implicitDefEqProofs only [go_sem, ↓reduceIte, reduceCtorEq, Int.reduceEq, Int.reduceLT, Int.reduceLE, Nat.reduceEqDiff, Nat.reduceAdd, Nat.reduceMul, Nat.reduceLeDiff, Nat.reduceSub, Int.reduceNeg, e1, e2]; rfl, by simp⟩ ?_
  rintro m f h' ⟨k, hm, rfl, f0, f1, f12, f13, ht⟩
  skip
  by_cases hk : k < l1.length
  · have hk2 : k < l2.length := by omega
    have d1 := r3 k _ (show (List.map UMove.cells l1)[k]? = some (l1[k]).cells by simp [hk])
    have d2 := q3 k _ (show (List.map UMove.cells l2)[k]? = some (l2[k]).cells by simp [hk2])
    have hs : l1.take (k + 1) = l2.take (k + 1) ↔ l1[k] = l2[k] := by
      rw [List.take_succ_eq_append_getElem hk, List.take_succ_eq_append_getElem hk2, ht]
      exact ⟨fun h => (List.cons.inj (List.append_cancel_left h)).1, fun h => by rw [h]⟩
    by_cases he : l1[k] = l2[k]
    · have he2 : (l1[k].kind = l2[k].kind ∧ l1[k].step = l2[k].step ∧ l1[k].block = l2[k].block ∧ l1[k].slot = l2[k].slot) = True := eq_true (by rw [he]; simp)
      simp -implicitDefEqProofs only [go_sem, ↓reduceIte, reduceCtorEq, Int.reduceEq, Int.reduceLT, Int.reduceLE, Nat.reduceEqDiff, Nat.reduceAdd, Nat.reduceMul, Nat.reduceLeDiff, Nat.reduceSub, Int.reduceNeg, hk, hk2, r2, q2, d1, d2, cellsEq_iiii, he2, wrap_i64 (show -(9223372036854775808 : Int) ≤ ((k : Int) + 1) by omega) (show ((k : Int) + 1) < 9223372036854775808 by omega), e1, e2, f0, f1, f12, f13, Int.ofNat_lt, Int.natCast_nonneg]
      exact ⟨m - 1, by omega, h', Ext.refl _, k + 1, by omega, rfl, rfl, hs.2 he⟩
    · have he2 : (l1[k].kind = l2[k].kind ∧ l1[k].step = l2[k].step ∧ l1[k].block = l2[k].block ∧ l1[k].slot = l2[k].slot) = False := eq_false fun q => he (by cases h1 : l1[k]; cases h2 : l2[k]; simp_all)
      simp -implicitDefEqProofs only [go_sem, ↓reduceIte, reduceCtorEq, Int.reduceEq, Int.reduceLT, Int.reduceLE, Nat.reduceEqDiff, Nat.reduceAdd, Nat.reduceMul, Nat.reduceLeDiff, Nat.reduceSub, Int.reduceNeg, hk, hk2, r2, q2, d1, d2, cellsEq_iiii, he2, e1, e2, f0, f1, f12, f13, Int.ofNat_lt, Int.natCast_nonneg]
      exact dec_f fun h => he (hs.1 (by rw [h]))
  · have e : k = l1.length := by omega
    subst e
    simp -implicitDefEqProofs only [go_sem, ↓reduceIte, reduceCtorEq, Int.reduceEq, Int.reduceLT, Int.reduceLE, Nat.reduceEqDiff, Nat.reduceAdd, Nat.reduceMul, Nat.reduceLeDiff, Nat.reduceSub, Int.reduceNeg, Nat.lt_irrefl, e1, e2, f0, f1, f12, f13, Int.ofNat_lt, Int.natCast_nonneg]
    exact dec_t (by rw [List.take_length, hl, List.take_length] at ht; exact ht)
end Go.Proofs.Ytpponffjeilhmaa
