/- A helper of this seat's claims (contracts of the functions): what it shows is shown for every input that its statements name, on no other condition. -/
import Derived.Test.YtpponffjeilhmaaC0
set_option linter.unusedVariables false
set_option linter.unusedSimpArgs false
set_option maxRecDepth 100000
namespace Go.Proofs.Ytpponffjeilhmaa
open Go.KH

/-! ## Snapshot reads -/
def isTouch (block : Int) (s : UStep) : Bool := decide (¬ s.kind = 5 ∧ s.dst = block)
def touch (l : List UStep) (block : Int) : Int := firstAt (isTouch block) l
def touches (l : List UStep) (block : Int) : Int := if l.length ≤ 20 then touch l block else -1
/-- slices.IndexFunc[[]impl.Step,impl.Step] -/
def b_slices_IndexFunc_impl_Step_impl_Step : C := (.seq (.ops [q 4 (.mv (.c (i64 0)))])
 (.seq (.seq (.ops [q 6 (.mv (.t 0)), q 7 (.len (.t 6)), q 8 (.mv (.c (i64 0)))])
 (.block 0 (.loop (.seq (.ops [q 9 (.bin .lss (.t 8) (.t 7))])
 (.seq (.cond (.t 9) .skip (.exit 0))
 (.seq (.block 1 (.seq (.ops [q 10 (.mv (.t 8)), q 5 (.mv (.t 10))])
 (.seq (.ops [q 11 (.mv (.t 1)), q 12 (.mv (.t 0)), q 13 (.mv (.t 5)), q 14 (.idx 4 (.t 12) (.t 13)), q 15 (.ld true 4 (.t 14)), ⟨(some 16), none, .call (.t 11) [(.t 15)]⟩])
 (.cond (.t 16) (.seq (.ops [q 17 (.mv (.t 5)), q 4 (.mv (.t 17))])
 .ret) .skip))))
 (.ops [q 18 (.bin .add (.t 8) (.c (i64 1))), q 8 (.mv (.t 18))])))))))
 (.seq (.ops [q 4 (.mv (.c (i64 (-1))))])
 .ret)))
theorem w_slices_IndexFunc_impl_Step_impl_Step {args : List Value} {h : H} {Q : Value → H → Prop} (hl : args.length ≤ 19) (hk : wpc Try.prog b_slices_IndexFunc_impl_Step_impl_Step (retw [.tmp 4] Q) (argsFr args) h) : AC Try.prog 230 args h Q :=
  AC.of_wpc mixedOrders Try.func230 (by kernel_rfl) (by kernel_rfl : prepF Try.prog Try.f230 = some ⟨19, [.tmp 4], b_slices_IndexFunc_impl_Step_impl_Step⟩) hl hk

/-- impl.touches$1 -/
def b_impl_touches_1 : C := (.seq (.ops [⟨(some 2), none, .box (.t 0)⟩, q 3 (.mv (.c (.bool false)))])
 (.seq (.ops [q 4 (.fld 0 (.t 2)), q 5 (.ld false 1 (.t 4)), q 6 (.bin .neq (.t 5) (.c (i64 5))), q 7 (.mv (.t 6)), qg 8 7 true (.fld 1 (.t 2)), qg 9 7 true (.ld false 1 (.t 8)), qg 10 7 true (.ld false 1 (.t 1)), qg 11 7 true (.bin .eql (.t 9) (.t 10)), q 12 (.pick (.t 7) (.t 11) (.c (.bool false))), q 3 (.mv (.t 12))])
 .ret))
theorem w_impl_touches_1 {args : List Value} {h : H} {Q : Value → H → Prop} (hl : args.length ≤ 13) (hk : wpc Try.prog b_impl_touches_1 (retw [.tmp 3] Q) (argsFr args) h) : AC Try.prog 231 args h Q :=
  AC.of_wpc mixedOrders Try.func231 (by kernel_rfl) (by kernel_rfl : prepF Try.prog Try.f231 = some ⟨13, [.tmp 3], b_impl_touches_1⟩) hl hk

/-- impl.touches -/
def b_impl_touches : C := (.seq (.ops [⟨(some 3), none, .box (.t 1)⟩, q 4 (.mv (.c (i64 0)))])
 (.seq (.ops [q 5 (.mv (.t 0)), q 6 (.mkf 231 [(.t 3)]), ⟨(some 7), none, .call (.c (.func (.func 230) #[] #[])) [(.t 5), (.t 6)]⟩, q 4 (.mv (.t 7))])
 .ret))
theorem w_impl_touches {args : List Value} {h : H} {Q : Value → H → Prop} (hl : args.length ≤ 8) (hk : wpc Try.prog b_impl_touches (retw [.tmp 4] Q) (argsFr args) h) : AC Try.prog 161 args h Q :=
  AC.of_wpc mixedOrders Try.func161 (by kernel_rfl) (by kernel_rfl : prepF Try.prog Try.f161 = some ⟨8, [.tmp 4], b_impl_touches⟩) hl hk

theorem touches1_pc {h : H} {s : UStep} {b : Nat} {block : Int} (hb : ldc h b 0 1 = some [i64 block]) : PC Try.prog 231 [.agg s.cells.toArray, ptr b 0] h (.bool (isTouch block s)) := by
  refine PC_of ?_
  unfold isTouch
  refine w_impl_touches_1 (by simp) ?_
  unfold b_impl_touches_1
  simp -implicitDefEqProofs only [go_sem, ↓reduceIte, reduceCtorEq, Int.reduceEq, Int.reduceLT, Int.reduceLE, Nat.reduceEqDiff, Nat.reduceAdd, Nat.reduceMul, Nat.reduceLeDiff, Nat.reduceSub, Int.reduceNeg]
  intro b1 hb_b1 n_b1
  have e1 : ldc (h.set b1 ⟨s.cells, 4⟩) b 0 1 = some [i64 block] := ldc_sub (Sub.set (Sub.refl h) n_b1 _) hb
  simp -implicitDefEqProofs only [go_sem, ↓reduceIte, reduceCtorEq, Int.reduceEq, Int.reduceLT, Int.reduceLE, Nat.reduceEqDiff, Nat.reduceAdd, Nat.reduceMul, Nat.reduceLeDiff, Nat.reduceSub, Int.reduceNeg, e1, hb_b1]
  repeat' (refine Br.of (fun hc => ?_) (fun hc => ?_) <;> simp -implicitDefEqProofs only [go_sem, ↓reduceIte, reduceCtorEq, Int.reduceEq, Int.reduceLT, Int.reduceLE, Nat.reduceEqDiff, Nat.reduceAdd, Nat.reduceMul, Nat.reduceLeDiff, Nat.reduceSub, Int.reduceNeg, hc, e1, hb_b1])
  all_goals first | exact ((Ext.refl _).set' n_b1 _) | exact ⟨((Ext.refl _).set' n_b1 _), by simp_all⟩
theorem touches_pc {h : H} {v : Value} {l : List UStep} {block : Int} (hv : Sl h v 4 (l.map UStep.cells)) (hb : l.length ≤ 1048576) : PC Try.prog 161 [v, i64 block] h (i64 (touch l block)) := by
  refine PC_of ?_
  refine w_impl_touches (by simp) ?_
  unfold b_impl_touches
  simp -implicitDefEqProofs only [go_sem, ↓reduceIte, reduceCtorEq, Int.reduceEq, Int.reduceLT, Int.reduceLE, Nat.reduceEqDiff, Nat.reduceAdd, Nat.reduceMul, Nat.reduceLeDiff, Nat.reduceSub, Int.reduceNeg]
  intro b1 hb_b1 n_b1
  simp -implicitDefEqProofs only [go_sem, ↓reduceIte, reduceCtorEq, Int.reduceEq, Int.reduceLT, Int.reduceLE, Nat.reduceEqDiff, Nat.reduceAdd, Nat.reduceMul, Nat.reduceLeDiff, Nat.reduceSub, Int.reduceNeg, hb_b1]
  have e1 : ldc (h.set b1 ⟨[i64 block], 1⟩) b1 0 1 = some [i64 block] := by simp -implicitDefEqProofs only [go_sem, ↓reduceIte, reduceCtorEq, Int.reduceEq, Int.reduceLT, Int.reduceLE, Nat.reduceEqDiff, Nat.reduceAdd, Nat.reduceMul, Nat.reduceLeDiff, Nat.reduceSub, Int.reduceNeg, hb_b1]
  have this := (w_slices_IndexFunc_impl_Step_impl_Step (by simp) (if_wpc (p := isTouch block) (n := 231) (caps := [ptr b1 0]) (hv.sub (Sub.set (Sub.refl h) n_b1 _)) hb (fun x _ => touches1_pc e1) ⟨rfl, rfl⟩) : PC Try.prog 230 [v, .func (.func 231) #[] #[ptr b1 0]] (h.set b1 ⟨[i64 block], 1⟩) (i64 (touch l block)))
  refine PC.use this ?_
  simp -implicitDefEqProofs only [go_sem, ↓reduceIte, reduceCtorEq, Int.reduceEq, Int.reduceLT, Int.reduceLE, Nat.reduceEqDiff, Nat.reduceAdd, Nat.reduceMul, Nat.reduceLeDiff, Nat.reduceSub, Int.reduceNeg, hb_b1]
  exact ((Ext.refl _).set' n_b1 _)
/-- impl.Touches -/
def b_impl_Touches : C := (.seq (.ops [q 4 (.mv (.c (i64 0)))])
 (.seq (.seq (.ops [q 5 (.mv (.t 0)), q 6 (.len (.t 5)), q 7 (.bin .gtr (.t 6) (.c (i64 20)))])
 (.cond (.t 7) (.seq (.ops [q 4 (.mv (.c (i64 (-1))))])
 .ret) .skip))
 (.seq (.ops [q 8 (.mv (.t 0)), q 9 (.mv (.t 1)), ⟨(some 10), none, .call (.c (.func (.func 161) #[] #[])) [(.t 8), (.t 9)]⟩, q 4 (.mv (.t 10))])
 .ret)))
theorem w_impl_Touches {args : List Value} {h : H} {Q : Value → H → Prop} (hl : args.length ≤ 11) (hk : wpc Try.prog b_impl_Touches (retw [.tmp 4] Q) (argsFr args) h) : AC Try.prog 70 args h Q :=
  AC.of_wpc mixedOrders Try.func70 (by kernel_rfl) (by kernel_rfl : prepF Try.prog Try.f70 = some ⟨11, [.tmp 4], b_impl_Touches⟩) hl hk

theorem implTouches_pc {h : H} {v : Value} {l : List UStep} {block : Int} (hv : Sl h v 4 (l.map UStep.cells)) (hb : l.length ≤ 1048576) : PC Try.prog 70 [v, i64 block] h (i64 (touches l block)) := by
  have hv' := hv
  obtain ⟨a, c, b, o, rfl, hcap, h2, h3⟩ := hv
  refine w_impl_Touches (by simp) ?_
  unfold b_impl_Touches
  simp -implicitDefEqProofs only [go_sem, ↓reduceIte, reduceCtorEq, Int.reduceEq, Int.reduceLT, Int.reduceLE, Nat.reduceEqDiff, Nat.reduceAdd, Nat.reduceMul, Nat.reduceLeDiff, Nat.reduceSub, Int.reduceNeg, List.length_map]
  by_cases h40 : l.length ≤ 20
  · simp -implicitDefEqProofs only [go_sem, ↓reduceIte, reduceCtorEq, Int.reduceEq, Int.reduceLT, Int.reduceLE, Nat.reduceEqDiff, Nat.reduceAdd, Nat.reduceMul, Nat.reduceLeDiff, Nat.reduceSub, Int.reduceNeg, show ¬ (20 : Int) < (l.length : Int) by omega]
    refine (touches_pc hv' hb).use ?_
    simp -implicitDefEqProofs only [go_sem, ↓reduceIte, reduceCtorEq, Int.reduceEq, Int.reduceLT, Int.reduceLE, Nat.reduceEqDiff, Nat.reduceAdd, Nat.reduceMul, Nat.reduceLeDiff, Nat.reduceSub, Int.reduceNeg, touches, h40]
  · simp -implicitDefEqProofs only [go_sem, ↓reduceIte, reduceCtorEq, Int.reduceEq, Int.reduceLT, Int.reduceLE, Nat.reduceEqDiff, Nat.reduceAdd, Nat.reduceMul, Nat.reduceLeDiff, Nat.reduceSub, Int.reduceNeg, show (20 : Int) < (l.length : Int) by omega, touches, h40]
/-- spec.l10Touch -/
def b_spec_l10Touch : C := (.seq (.ops [q 4 (.mv (.c (i64 0)))])
 (.seq (.seq (.ops [q 5 (.mv (.c (i64 0)))])
 (.block 0 (.loop (.seq (.seq (.ops [q 6 (.mv (.t 5)), q 7 (.mv (.t 0)), q 8 (.len (.t 7)), q 9 (.bin .lss (.t 6) (.t 8))])
 (.cond (.t 9) .skip (.exit 0)))
 (.seq (.block 1 (.seq (.ops [q 12 (.mv (.t 0)), q 13 (.mv (.t 5)), q 14 (.idx 4 (.t 12) (.t 13)), q 15 (.fld 0 (.t 14)), q 16 (.ld false 1 (.t 15)), q 17 (.bin .neq (.t 16) (.c (i64 5))), q 18 (.mv (.t 17)), qg 19 18 true (.mv (.t 0)), qg 20 18 true (.mv (.t 5)), qg 21 18 true (.idx 4 (.t 19) (.t 20)), qg 22 18 true (.fld 1 (.t 21)), qg 23 18 true (.ld false 1 (.t 22)), qg 24 18 true (.mv (.t 1)), qg 25 18 true (.bin .eql (.t 23) (.t 24)), q 26 (.pick (.t 18) (.t 25) (.c (.bool false)))])
 (.cond (.t 26) (.seq (.ops [q 27 (.mv (.t 5)), q 4 (.mv (.t 27))])
 .ret) .skip)))
 (.ops [q 10 (.mv (.t 5)), q 11 (.bin .add (.t 10) (.c (i64 1))), q 5 (.mv (.t 11))]))))))
 (.seq (.ops [q 4 (.mv (.c (i64 (-1))))])
 .ret)))
theorem w_spec_l10Touch {args : List Value} {h : H} {Q : Value → H → Prop} (hl : args.length ≤ 28) (hk : wpc Try.prog b_spec_l10Touch (retw [.tmp 4] Q) (argsFr args) h) : AC Try.prog 159 args h Q :=
  AC.of_wpc mixedOrders Try.func159 (by kernel_rfl) (by kernel_rfl : prepF Try.prog Try.f159 = some ⟨28, [.tmp 4], b_spec_l10Touch⟩) hl hk

theorem l10Touch_pc {h : H} {v : Value} {l : List UStep} {block : Int} (hv : Sl h v 4 (l.map UStep.cells)) (hb : l.length ≤ 1048576) : PC Try.prog 159 [v, i64 block] h (i64 (touch l block)) := by
  obtain ⟨a, c, b, o, rfl, hcap, h2, h3⟩ := hv
  simp only [List.length_map] at h2
  unfold touch
  refine w_spec_l10Touch (by simp) ?_
  unfold b_spec_l10Touch
  simp -implicitDefEqProofs only [go_sem, ↓reduceIte, reduceCtorEq, Int.reduceEq, Int.reduceLT, Int.reduceLE, Nat.reduceEqDiff, Nat.reduceAdd, Nat.reduceMul, Nat.reduceLeDiff, Nat.reduceSub, Int.reduceNeg, List.length_map]
  refine loopW_of (fun m f h' => ∃ k, m + k = l.length ∧ h' = h ∧ f 0 = .slice a l.length c ∧ f 1 = i64 block ∧ f 5 = i64 k ∧ ∀ i, (hi : i < l.length) → i < k → isTouch block l[i] = false) l.length
    ⟨0, by simp, rfl, by simp -implicitDefEqProofs only [go_sem, ↓reduceIte, reduceCtorEq, Int.reduceEq, Int.reduceLT, Int.reduceLE, Nat.reduceEqDiff, Nat.reduceAdd, Nat.reduceMul, Nat.reduceLeDiff, Nat.reduceSub, Int.reduceNeg, List.length_map], by simp -implicitDefEqProofs only [go_sem, ↓reduceIte, reduceCtorEq, Int.reduceEq, Int.reduceLT, Int.reduceLE, Nat.reduceEqDiff, Nat.reduceAdd, Nat.reduceMul, Nat.reduceLeDiff, Nat.reduceSub, Int.reduceNeg], by simp -implicitDefEqProofs only [go_sem, ↓reduceIte, reduceCtorEq, Int.reduceEq, Int.reduceLT, Int.reduceLE, Nat.reduceEqDiff, Nat.reduceAdd, Nat.reduceMul, Nat.reduceLeDiff, Nat.reduceSub, Int.reduceNeg]; rfl, by omega⟩ ?_
  rintro m f h' ⟨k, hm, rfl, f0, f1, f5, hno⟩
  skip
  by_cases hk : k < l.length
  · have e1 := h3 k (l[k]).cells (by simp [hk])
    have e2 := ldc_part e1 0 1 (by omega)
    have e3 := ldc_part e1 1 1 (by omega)
    simp only [Nat.add_zero] at e2
    skip
    simp -implicitDefEqProofs only [go_sem, ↓reduceIte, reduceCtorEq, Int.reduceEq, Int.reduceLT, Int.reduceLE, Nat.reduceEqDiff, Nat.reduceAdd, Nat.reduceMul, Nat.reduceLeDiff, Nat.reduceSub, Int.reduceNeg, f0, f1, f5, h2, Int.ofNat_lt, Int.natCast_nonneg, hk, e2, e3]
    refine Br.of (fun hk1 => ?_) (fun hk1 => ?_)
    · simp -implicitDefEqProofs only [go_sem, ↓reduceIte, reduceCtorEq, Int.reduceEq, Int.reduceLT, Int.reduceLE, Nat.reduceEqDiff, Nat.reduceAdd, Nat.reduceMul, Nat.reduceLeDiff, Nat.reduceSub, Int.reduceNeg, hk1, wrap_i64 (show -(9223372036854775808 : Int) ≤ ((k : Int) + 1) by omega) (show ((k : Int) + 1) < 9223372036854775808 by omega), f0, f1, f5, h2, Int.ofNat_lt, Int.natCast_nonneg, hk, e2, e3]
      refine ⟨m - 1, by omega, _, Ext.refl _, k + 1, by omega, rfl, rfl, fun i hi1 hi2 => ?_⟩
      by_cases e : i = k
      · subst e; simp [isTouch, hk1]
      · exact hno i hi1 (by omega)
    · simp -implicitDefEqProofs only [go_sem, ↓reduceIte, reduceCtorEq, Int.reduceEq, Int.reduceLT, Int.reduceLE, Nat.reduceEqDiff, Nat.reduceAdd, Nat.reduceMul, Nat.reduceLeDiff, Nat.reduceSub, Int.reduceNeg, hk1, f0, f1, f5, h2, Int.ofNat_lt, Int.natCast_nonneg, hk, e2, e3]
      refine Br.of (fun hk2 => ?_) (fun hk2 => ?_)
      · simp -implicitDefEqProofs only [go_sem, ↓reduceIte, reduceCtorEq, Int.reduceEq, Int.reduceLT, Int.reduceLE, Nat.reduceEqDiff, Nat.reduceAdd, Nat.reduceMul, Nat.reduceLeDiff, Nat.reduceSub, Int.reduceNeg, hk1, hk2, f0, f1, f5, h2, Int.ofNat_lt, Int.natCast_nonneg, hk, e2, e3]
        rw [firstAt_some (k := k) (by omega) (by simp [isTouch, hk1, hk2]) (fun i hi => hno i (by omega) hi)]
      · simp -implicitDefEqProofs only [go_sem, ↓reduceIte, reduceCtorEq, Int.reduceEq, Int.reduceLT, Int.reduceLE, Nat.reduceEqDiff, Nat.reduceAdd, Nat.reduceMul, Nat.reduceLeDiff, Nat.reduceSub, Int.reduceNeg, hk1, hk2, wrap_i64 (show -(9223372036854775808 : Int) ≤ ((k : Int) + 1) by omega) (show ((k : Int) + 1) < 9223372036854775808 by omega), f0, f1, f5, h2, Int.ofNat_lt, Int.natCast_nonneg, hk, e2, e3]
        refine ⟨m - 1, by omega, _, Ext.refl _, k + 1, by omega, rfl, rfl, fun i hi1 hi2 => ?_⟩
        by_cases e : i = k
        · subst e; simp [isTouch, hk2]
        · exact hno i hi1 (by omega)
  · have e : k = l.length := by omega
    subst e
    skip
    simp -implicitDefEqProofs only [go_sem, ↓reduceIte, reduceCtorEq, Int.reduceEq, Int.reduceLT, Int.reduceLE, Nat.reduceEqDiff, Nat.reduceAdd, Nat.reduceMul, Nat.reduceLeDiff, Nat.reduceSub, Int.reduceNeg, Nat.lt_irrefl, f0, f1, f5, h2, Int.ofNat_lt, Int.natCast_nonneg]
    rw [firstAt_none (fun i hi => hno i hi (by omega))]
/-- spec.Touches -/
def b_spec_Touches : C := (.seq (.ops [q 4 (.mv (.c (i64 0)))])
 (.seq (.seq (.ops [q 5 (.mv (.t 0)), q 6 (.len (.t 5)), q 7 (.bin .gtr (.t 6) (.c (i64 20)))])
 (.cond (.t 7) (.seq (.ops [q 4 (.mv (.c (i64 (-1))))])
 .ret) .skip))
 (.seq (.ops [q 8 (.mv (.t 0)), q 9 (.mv (.t 1)), ⟨(some 10), none, .call (.c (.func (.func 159) #[] #[])) [(.t 8), (.t 9)]⟩, q 4 (.mv (.t 10))])
 .ret)))
theorem w_spec_Touches {args : List Value} {h : H} {Q : Value → H → Prop} (hl : args.length ≤ 11) (hk : wpc Try.prog b_spec_Touches (retw [.tmp 4] Q) (argsFr args) h) : AC Try.prog 71 args h Q :=
  AC.of_wpc mixedOrders Try.func71 (by kernel_rfl) (by kernel_rfl : prepF Try.prog Try.f71 = some ⟨11, [.tmp 4], b_spec_Touches⟩) hl hk

theorem specTouches_pc {h : H} {v : Value} {l : List UStep} {block : Int} (hv : Sl h v 4 (l.map UStep.cells)) (hb : l.length ≤ 1048576) : PC Try.prog 71 [v, i64 block] h (i64 (touches l block)) := by
  have hv' := hv
  obtain ⟨a, c, b, o, rfl, hcap, h2, h3⟩ := hv
  refine w_spec_Touches (by simp) ?_
  unfold b_spec_Touches
  simp -implicitDefEqProofs only [go_sem, ↓reduceIte, reduceCtorEq, Int.reduceEq, Int.reduceLT, Int.reduceLE, Nat.reduceEqDiff, Nat.reduceAdd, Nat.reduceMul, Nat.reduceLeDiff, Nat.reduceSub, Int.reduceNeg, List.length_map]
  by_cases h40 : l.length ≤ 20
  · simp -implicitDefEqProofs only [go_sem, ↓reduceIte, reduceCtorEq, Int.reduceEq, Int.reduceLT, Int.reduceLE, Nat.reduceEqDiff, Nat.reduceAdd, Nat.reduceMul, Nat.reduceLeDiff, Nat.reduceSub, Int.reduceNeg, show ¬ (20 : Int) < (l.length : Int) by omega]
    refine (l10Touch_pc hv' hb).use ?_
    simp -implicitDefEqProofs only [go_sem, ↓reduceIte, reduceCtorEq, Int.reduceEq, Int.reduceLT, Int.reduceLE, Nat.reduceEqDiff, Nat.reduceAdd, Nat.reduceMul, Nat.reduceLeDiff, Nat.reduceSub, Int.reduceNeg, touches, h40]
  · simp -implicitDefEqProofs only [go_sem, ↓reduceIte, reduceCtorEq, Int.reduceEq, Int.reduceLT, Int.reduceLE, Nat.reduceEqDiff, Nat.reduceAdd, Nat.reduceMul, Nat.reduceLeDiff, Nat.reduceSub, Int.reduceNeg, show (20 : Int) < (l.length : Int) by omega, touches, h40]
end Go.Proofs.Ytpponffjeilhmaa
