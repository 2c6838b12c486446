/- A helper of this seat's claims (contracts of the functions): what it shows is shown for every input that its statements name, on no other condition. -/
import Derived.Test.YtpponffjeilhmaaC11z
import Derived.Test.YtpponffjeilhmaaC11m
set_option linter.unusedVariables false
set_option linter.unusedSimpArgs false
set_option maxRecDepth 100000
namespace Go.Proofs.Ytpponffjeilhmaa
open Go.KH

/-! ## PlanRun -/
/-- spec.l11Same -/
def b_spec_l11Same : C := (.seq (.ops [q 4 (.mv (.c (.bool false)))])
 (.seq (.seq (.ops [q 6 (.mv (.t 0)), q 7 (.len (.t 6)), q 8 (.mv (.t 1)), q 9 (.len (.t 8)), q 10 (.bin .neq (.t 7) (.t 9))])
 (.cond (.t 10) (.seq (.ops [q 4 (.mv (.c (.bool false)))])
 .ret) .skip))
 (.seq (.seq (.ops [q 5 (.mv (.c (i64 0)))])
 (.block 0 (.loop (.seq (.seq (.ops [q 11 (.mv (.t 5)), q 12 (.mv (.t 0)), q 13 (.len (.t 12)), q 14 (.bin .lss (.t 11) (.t 13))])
 (.cond (.t 14) .skip (.exit 0)))
 (.seq (.block 1 (.seq (.dops true (.tk (q 17 (.mv (.t 0))) (.tk (q 18 (.mv (.t 5))) (.tk (q 19 (.idx 4 (.t 17) (.t 18))) (.tk (q 20 (.ld true 4 (.t 19))) (.tk (q 21 (.mv (.t 1))) (.tk (q 22 (.mv (.t 5))) (.tk (q 23 (.idx 4 (.t 21) (.t 22))) (.tk (q 24 (.ld true 4 (.t 23))) (.tk (q 25 (.eqa true [.i, .i, .i, .i] (.t 20) (.t 24))) .nil))))))))))
 (.cond (.t 25) (.seq (.ops [q 4 (.mv (.c (.bool false)))])
 .ret) .skip)))
 (.ops [q 15 (.mv (.t 5)), q 16 (.bin .add (.t 15) (.c (i64 1))), q 5 (.mv (.t 16))]))))))
 (.seq (.ops [q 4 (.mv (.c (.bool true)))])
 .ret))))
theorem w_spec_l11Same {args : List Value} {h : H} {Q : Value → H → Prop} (hl : args.length ≤ 26) (hk : wpc Try.prog b_spec_l11Same (retw [.tmp 4] Q) (argsFr args) h) : AC Try.prog 137 args h Q :=
  AC.of_wpc mixedOrders Try.func137 (by kernel_rfl) (by kernel_rfl : prepF Try.prog Try.f137 = some ⟨26, [.tmp 4], b_spec_l11Same⟩) hl hk

theorem l11Same_pc {h : H} {v1 v2 : Value} {l1 l2 : List UMove} (hv : Sl h v1 4 (List.map UMove.cells l1)) (hu : Sl h v2 4 (List.map UMove.cells l2)) (hn : l1.length ≤ 1048576) : PC Try.prog 137 [v1, v2] h (.bool (decide (l1 = l2))) := by
  obtain ⟨a, c, b, o, rfl, hc, r2, r3⟩ := hv
  obtain ⟨a', c', b', o', rfl, hc', q2, q3⟩ := hu
  have e1 : (List.map UMove.cells l1).length = l1.length := by simp
  have e2 : (List.map UMove.cells l2).length = l2.length := by simp
  rw [e1] at r2
  rw [e2] at q2
  skip
  by_cases hl : l1.length = l2.length
  rotate_left
  · refine w_spec_l11Same (by simp) ?_
    unfold b_spec_l11Same
    simp -implicitDefEqProofs only [go_sem, ↓reduceIte, reduceCtorEq, Int.reduceEq, Int.reduceLT, Int.reduceLE, Nat.reduceEqDiff, Nat.reduceAdd, Nat.reduceMul, Nat.reduceLeDiff, Nat.reduceSub, Int.reduceNeg, hl, show ¬ ((l1.length : Int) = (l2.length : Int)) by omega, e1, e2]
    exact dec_f fun h => hl (by rw [h])
  have hl0 : decide ((l1.length : Int) = (l2.length : Int)) = true := decide_eq_true (by omega)
  have hl1 : ((l1.length : Int) ≠ (l2.length : Int)) = False := eq_false fun h => h (by omega)
  refine w_spec_l11Same (by simp) ?_
  unfold b_spec_l11Same
  simp -implicitDefEqProofs only [go_sem, ↓reduceIte, reduceCtorEq, Int.reduceEq, Int.reduceLT, Int.reduceLE, Nat.reduceEqDiff, Nat.reduceAdd, Nat.reduceMul, Nat.reduceLeDiff, Nat.reduceSub, Int.reduceNeg, hl0, hl1, e1, e2]
  refine loopW_of (fun m f h' => ∃ k, m + k = l1.length ∧ h' = h ∧ f 0 = .slice a l1.length c ∧ f 1 = .slice a' l2.length c' ∧ f 5 = i64 k ∧ l1.take k = l2.take k) l1.length
    ⟨0, by simp, rfl, by simp -implicitDefEqProofs only [go_sem, ↓reduceIte, reduceCtorEq, Int.reduceEq, Int.reduceLT, Int.reduceLE, Nat.reduceEqDiff, Nat.reduceAdd, Nat.reduceMul, Nat.reduceLeDiff, Nat.reduceSub, Int.reduceNeg, e1, e2], by simp -implicitDefEqProofs only [go_sem, ↓reduceIte, reduceCtorEq, Int.reduceEq, Int.reduceLT, Int.reduceLE, Nat.reduceEqDiff, Nat.reduceAdd, Nat.reduceMul, Nat.reduceLeDiff, Nat.reduceSub, Int.reduceNeg, e1, e2], by simp -implicitDefEqProofs only [go_sem, ↓reduceIte, reduceCtorEq, Int.reduceEq, Int.reduceLT, Int.reduceLE, Nat.reduceEqDiff, Nat.reduceAdd, Nat.reduceMul, Nat.reduceLeDiff, Nat.reduceSub, Int.reduceNeg, e1, e2]; rfl, by simp⟩ ?_
  rintro m f h' ⟨k, hm, rfl, f0, f1, f5, ht⟩
  skip
  by_cases hk : k < l1.length
  · have hk2 : k < l2.length := by omega
    have d1 := r3 k _ (show (List.map UMove.cells l1)[k]? = some (l1[k]).cells by simp [hk])
    have d2 := q3 k _ (show (List.map UMove.cells l2)[k]? = some (l2[k]).cells by simp [hk2])
    have hs : l1.take (k + 1) = l2.take (k + 1) ↔ l1[k] = l2[k] := by
      rw [List.take_succ_eq_append_getElem hk, List.take_succ_eq_append_getElem hk2, ht]
      exact ⟨fun h => (List.cons.inj (List.append_cancel_left h)).1, fun h => by rw [h]⟩
    by_cases he : l1[k] = l2[k]
    · have he2 : (l1[k].kind = l2[k].kind ∧ l1[k].step = l2[k].step ∧ l1[k].block = l2[k].block ∧ l1[k].slot = l2[k].slot) = True := eq_true (by rw [he]; simp)
      simp -implicitDefEqProofs only [go_sem, ↓reduceIte, reduceCtorEq, Int.reduceEq, Int.reduceLT, Int.reduceLE, Nat.reduceEqDiff, Nat.reduceAdd, Nat.reduceMul, Nat.reduceLeDiff, Nat.reduceSub, Int.reduceNeg, hk, hk2, r2, q2, d1, d2, cellsEq_iiii, he2, wrap_i64 (show -(9223372036854775808 : Int) ≤ ((k : Int) + 1) by omega) (show ((k : Int) + 1) < 9223372036854775808 by omega), e1, e2, f0, f1, f5, Int.ofNat_lt, Int.natCast_nonneg]
      exact ⟨m - 1, by omega, h', Ext.refl _, k + 1, by omega, rfl, rfl, hs.2 he⟩
    · have he2 : (l1[k].kind = l2[k].kind ∧ l1[k].step = l2[k].step ∧ l1[k].block = l2[k].block ∧ l1[k].slot = l2[k].slot) = False := eq_false fun q => he (by cases h1 : l1[k]; cases h2 : l2[k]; simp_all)
      simp -implicitDefEqProofs only [go_sem, ↓reduceIte, reduceCtorEq, Int.reduceEq, Int.reduceLT, Int.reduceLE, Nat.reduceEqDiff, Nat.reduceAdd, Nat.reduceMul, Nat.reduceLeDiff, Nat.reduceSub, Int.reduceNeg, hk, hk2, r2, q2, d1, d2, cellsEq_iiii, he2, e1, e2, f0, f1, f5, Int.ofNat_lt, Int.natCast_nonneg]
      exact dec_f fun h => he (hs.1 (by rw [h]))
  · have e : k = l1.length := by omega
    subst e
    simp -implicitDefEqProofs only [go_sem, ↓reduceIte, reduceCtorEq, Int.reduceEq, Int.reduceLT, Int.reduceLE, Nat.reduceEqDiff, Nat.reduceAdd, Nat.reduceMul, Nat.reduceLeDiff, Nat.reduceSub, Int.reduceNeg, Nat.lt_irrefl, e1, e2, f0, f1, f5, Int.ofNat_lt, Int.natCast_nonneg]
    exact dec_t (by rw [List.take_length, hl, List.take_length] at ht; exact ht)
open Classical in
noncomputable def runOut (im : List (List UInt8)) (l : List UStep) (mv : List UMove) : List (List UInt8) × Int :=
  if 400 < im.length ∨ 400 < l.length ∨ 400 < mv.length then ([], 2) else if imageOk im then (if codeOf l im.length = 0 then (if planB (l.filter isW) = mv then (applyB im l, 0) else ([], 10)) else ([], codeOf l im.length)) else ([], 1)
theorem runOut_len (im : List (List UInt8)) (l : List UStep) (mv : List UMove) : (runOut im l mv).1.length ≤ im.length := by
  unfold runOut
  split
  · simp
  · split
    · split
      · split
        · simp [applyB_len]
        · simp
      · simp
    · simp
theorem planB_400 {l : List UStep} {b : Int} (h : codeOf l b = 0) : (planB (l.filter isW)).length ≤ 28 := by
  have h1 := planOut_small l b
  unfold planOut at h1
  have := (code_zero h).1.1
  rw [if_neg (by omega), if_pos h] at h1
  exact h1
/-- impl.PlanRun -/
def b_impl_PlanRun : C := (.seq (.ops [⟨(some 6), none, .alloc [nils, (i64 0)]⟩])
 (.seq (.seq (.ops [q 8 (.mv (.t 0)), q 9 (.len (.t 8)), q 10 (.bin .gtr (.t 9) (.c (i64 400))), q 11 (.mv (.t 10)), qg 12 11 false (.mv (.t 1)), qg 13 11 false (.len (.t 12)), qg 14 11 false (.bin .gtr (.t 13) (.c (i64 400))), q 15 (.pick (.t 11) (.c (.bool true)) (.t 14)), q 16 (.mv (.t 15)), qg 17 16 false (.mv (.t 2)), qg 18 16 false (.len (.t 17)), qg 19 16 false (.bin .gtr (.t 18) (.c (i64 400))), q 20 (.pick (.t 16) (.c (.bool true)) (.t 19))])
 (.cond (.t 20) (.seq (.ops [q 21 (.build [nils, (i64 0)] [(1, 1, (.c (i64 2)))]), ⟨none, none, .st 2 (.t 6) (.t 21)⟩])
 .ret) .skip))
 (.seq (.seq (.ops [q 22 (.mv (.t 0)), ⟨(some 23), none, .call (.c (.func (.func 140) #[] #[])) [(.t 22)]⟩, q 24 (.un .not (.t 23))])
 (.cond (.t 24) (.seq (.ops [q 25 (.build [nils, (i64 0)] [(1, 1, (.c (i64 1)))]), ⟨none, none, .st 2 (.t 6) (.t 25)⟩])
 .ret) .skip))
 (.seq (.seq (.ops [q 26 (.mv (.t 1)), q 27 (.mv (.t 0)), ⟨(some 28), none, .call (.c (.func (.func 141) #[] #[])) [(.t 27)]⟩, ⟨(some 29), none, .call (.c (.func (.func 114) #[] #[])) [(.t 26), (.t 28)]⟩, q 7 (.mv (.t 29))])
 (.seq (.ops [q 30 (.mv (.t 7)), q 31 (.bin .neq (.t 30) (.c (i64 0)))])
 (.cond (.t 31) (.seq (.ops [q 32 (.mv (.t 7)), q 33 (.build [nils, (i64 0)] [(1, 1, (.t 32))]), ⟨none, none, .st 2 (.t 6) (.t 33)⟩])
 .ret) .skip)))
 (.seq (.seq (.ops [q 34 (.mv (.t 1)), ⟨(some 35), none, .call (.c (.func (.func 115) #[] #[])) [(.t 34)]⟩, q 36 (.mv (.t 2)), ⟨(some 37), none, .call (.c (.func (.func 142) #[] #[])) [(.t 35), (.t 36)]⟩, q 38 (.un .not (.t 37))])
 (.cond (.t 38) (.seq (.ops [q 39 (.build [nils, (i64 0)] [(1, 1, (.c (i64 10)))]), ⟨none, none, .st 2 (.t 6) (.t 39)⟩])
 .ret) .skip))
 (.seq (.ops [q 40 (.mv (.t 0)), q 41 (.mv (.t 1)), ⟨(some 42), none, .call (.c (.func (.func 143) #[] #[])) [(.t 40), (.t 41)]⟩, q 43 (.build [nils, (i64 0)] [(0, 1, (.t 42))]), ⟨none, none, .st 2 (.t 6) (.t 43)⟩])
 .ret))))))
theorem w_impl_PlanRun {args : List Value} {h : H} {Q : Value → H → Prop} (hl : args.length ≤ 44) (hk : wpc Try.prog b_impl_PlanRun (retw [.cell 6 true 2] Q) (argsFr args) h) : AC Try.prog 46 args h Q :=
  AC.of_wpc mixedOrders Try.func46 (by kernel_rfl) (by kernel_rfl : prepF Try.prog Try.f46 = some ⟨44, [.cell 6 true 2], b_impl_PlanRun⟩) hl hk

set_option maxHeartbeats 1600000 in
theorem implPlanRun_ac {h : H} {v u y : Value} {im : List (List UInt8)} {l : List UStep} {mv : List UMove} (hv : Sl h v 1 (strs im)) (hu : Sl h u 4 (l.map UStep.cells)) (hy : Sl h y 4 (mv.map UMove.cells)) (hi : im.length ≤ 1048576) (hn : l.length ≤ 1048576) (hm : mv.length ≤ 1048576) :
    AC Try.prog 46 [v, u, y] h fun r h' => Ext h h' ∧ ∃ cs, r = .agg cs.toArray ∧ RepF h h' (spImg (runOut im l mv)) cs := by
  obtain ⟨av, cv, rfl⟩ := hv.shape
  obtain ⟨au, cu, rfl⟩ := hu.shape
  obtain ⟨ay, cy, rfl⟩ := hy.shape
  have hl : (strs im).length = im.length := by simp
  have hll : (l.map UStep.cells).length = l.length := by simp
  have hly : (mv.map UMove.cells).length = mv.length := by simp
  rw [hl] at hv
  rw [hll] at hu
  rw [hly] at hy
  skip
  refine w_impl_PlanRun (by simp) ?_
  unfold b_impl_PlanRun
  simp -implicitDefEqProofs only [go_sem, ↓reduceIte, reduceCtorEq, Int.reduceEq, Int.reduceLT, Int.reduceLE, Nat.reduceEqDiff, Nat.reduceAdd, Nat.reduceMul, Nat.reduceLeDiff, Nat.reduceSub, Int.reduceNeg, hl, hll, hly]
  intro b4 hb_b4 n_b4
  unfold runOut
  by_cases h1 : 400 < im.length
  · rw [if_pos (.inl h1)]
    simp -implicitDefEqProofs only [go_sem, ↓reduceIte, reduceCtorEq, Int.reduceEq, Int.reduceLT, Int.reduceLE, Nat.reduceEqDiff, Nat.reduceAdd, Nat.reduceMul, Nat.reduceLeDiff, Nat.reduceSub, Int.reduceNeg, show (400 : Int) < (im.length : Int) by omega, hl, hll, hly, hb_b4]
    exact ⟨((Ext.refl _).set' n_b4 _), _, rfl, img_none⟩
  by_cases h2 : 400 < l.length
  · rw [if_pos (.inr (.inl h2))]
    simp -implicitDefEqProofs only [go_sem, ↓reduceIte, reduceCtorEq, Int.reduceEq, Int.reduceLT, Int.reduceLE, Nat.reduceEqDiff, Nat.reduceAdd, Nat.reduceMul, Nat.reduceLeDiff, Nat.reduceSub, Int.reduceNeg, show ¬ (400 : Int) < (im.length : Int) by omega, show (400 : Int) < (l.length : Int) by omega, hl, hll, hly, hb_b4]
    exact ⟨((Ext.refl _).set' n_b4 _), _, rfl, img_none⟩
  by_cases h9 : 400 < mv.length
  · rw [if_pos (.inr (.inr h9))]
    simp -implicitDefEqProofs only [go_sem, ↓reduceIte, reduceCtorEq, Int.reduceEq, Int.reduceLT, Int.reduceLE, Nat.reduceEqDiff, Nat.reduceAdd, Nat.reduceMul, Nat.reduceLeDiff, Nat.reduceSub, Int.reduceNeg, show ¬ (400 : Int) < (im.length : Int) by omega, show ¬ (400 : Int) < (l.length : Int) by omega, show (400 : Int) < (mv.length : Int) by omega, hl, hll, hly, hb_b4]
    exact ⟨((Ext.refl _).set' n_b4 _), _, rfl, img_none⟩
  rw [if_neg (by omega)]
  simp -implicitDefEqProofs only [go_sem, ↓reduceIte, reduceCtorEq, Int.reduceEq, Int.reduceLT, Int.reduceLE, Nat.reduceEqDiff, Nat.reduceAdd, Nat.reduceMul, Nat.reduceLeDiff, Nat.reduceSub, Int.reduceNeg, show ¬ (400 : Int) < (im.length : Int) by omega, show ¬ (400 : Int) < (l.length : Int) by omega, show ¬ (400 : Int) < (mv.length : Int) by omega, hl, hll, hly, hb_b4]
  refine (isImage_pc (hv.ext ((Ext.refl _).set' n_b4 _)) hi).use ?_
  by_cases h3 : imageOk im
  rotate_left
  · rw [if_neg h3]
    simp -implicitDefEqProofs only [go_sem, ↓reduceIte, reduceCtorEq, Int.reduceEq, Int.reduceLT, Int.reduceLE, Nat.reduceEqDiff, Nat.reduceAdd, Nat.reduceMul, Nat.reduceLeDiff, Nat.reduceSub, Int.reduceNeg, h3, hl, hll, hly, hb_b4]
    exact ⟨((Ext.refl _).set' n_b4 _), _, rfl, img_none⟩
  rw [if_pos h3]
  simp -implicitDefEqProofs only [go_sem, ↓reduceIte, reduceCtorEq, Int.reduceEq, Int.reduceLT, Int.reduceLE, Nat.reduceEqDiff, Nat.reduceAdd, Nat.reduceMul, Nat.reduceLeDiff, Nat.reduceSub, Int.reduceNeg, h3, hl, hll, hly, hb_b4]
  refine (sizeStr_pc (hv.ext ((Ext.refl _).set' n_b4 _))).use ?_
  simp -implicitDefEqProofs only [go_sem, ↓reduceIte, reduceCtorEq, Int.reduceEq, Int.reduceLT, Int.reduceLE, Nat.reduceEqDiff, Nat.reduceAdd, Nat.reduceMul, Nat.reduceLeDiff, Nat.reduceSub, Int.reduceNeg, hl, hll, hly, hb_b4]
  refine (stepsCode_pc (hu.ext ((Ext.refl _).set' n_b4 _)) hn).use ?_
  simp -implicitDefEqProofs only [go_sem, ↓reduceIte, reduceCtorEq, Int.reduceEq, Int.reduceLT, Int.reduceLE, Nat.reduceEqDiff, Nat.reduceAdd, Nat.reduceMul, Nat.reduceLeDiff, Nat.reduceSub, Int.reduceNeg, hl, hll, hly, hb_b4]
  by_cases h4 : codeOf l im.length = 0
  rotate_left
  · rw [if_neg h4]
    simp -implicitDefEqProofs only [go_sem, ↓reduceIte, reduceCtorEq, Int.reduceEq, Int.reduceLT, Int.reduceLE, Nat.reduceEqDiff, Nat.reduceAdd, Nat.reduceMul, Nat.reduceLeDiff, Nat.reduceSub, Int.reduceNeg, h4, hl, hll, hly, hb_b4]
    exact ⟨((Ext.refl _).set' n_b4 _), _, rfl, img_none⟩
  rw [if_pos h4]
  have hok := (code_zero h4).1
  have hp4 := planB_400 h4
  simp -implicitDefEqProofs only [go_sem, ↓reduceIte, reduceCtorEq, Int.reduceEq, Int.reduceLT, Int.reduceLE, Nat.reduceEqDiff, Nat.reduceAdd, Nat.reduceMul, Nat.reduceLeDiff, Nat.reduceSub, Int.reduceNeg, h4, hl, hll, hly, hb_b4]
  refine AC_of (planOf_ac (hu.ext ((Ext.refl _).set' n_b4 _)) hok.1 (steps_dst hok)) ?_
  rintro w h5 - ⟨e1, fw⟩
  have g27 := e1.2.g b4 _ (H.set_get_same _ _ _)
  have E7 := (((Ext.refl _).set' n_b4 _)).trans e1
  have hb46 : h5.base ≤ b4 := by rw [e1.1, H.set_base]; exact hb_b4
  simp -implicitDefEqProofs only [go_sem, ↓reduceIte, reduceCtorEq, Int.reduceEq, Int.reduceLT, Int.reduceLE, Nat.reduceEqDiff, Nat.reduceAdd, Nat.reduceMul, Nat.reduceLeDiff, Nat.reduceSub, Int.reduceNeg, hl, hll, hly, hb_b4]
  refine PC.use (eqlMove_pc fw.sl (hy.ext E7) (by omega)) ?_
  by_cases h6 : planB (l.filter isW) = mv
  rotate_left
  · rw [if_neg h6]
    simp -implicitDefEqProofs only [go_sem, ↓reduceIte, reduceCtorEq, Int.reduceEq, Int.reduceLT, Int.reduceLE, Nat.reduceEqDiff, Nat.reduceAdd, Nat.reduceMul, Nat.reduceLeDiff, Nat.reduceSub, Int.reduceNeg, h6, ldc_get g27, stc_get g27, hb46, hl, hll, hly, hb_b4]
    exact ⟨E7.set' n_b4 _, _, rfl, img_none⟩
  rw [if_pos h6]
  subst h6
  simp -implicitDefEqProofs only [go_sem, ↓reduceIte, reduceCtorEq, Int.reduceEq, Int.reduceLT, Int.reduceLE, Nat.reduceEqDiff, Nat.reduceAdd, Nat.reduceMul, Nat.reduceLeDiff, Nat.reduceSub, Int.reduceNeg, hl, hll, hly, hb_b4]
  refine AC_of (imageApply_ac (hv.ext E7) (hu.ext E7) h3 hn (code_zero h4).1.2.2) ?_
  rintro x h8 - ⟨e8, f8⟩
  have g28 := e8.2.g b4 _ g27
  have hb48 : h8.base ≤ b4 := by rw [e8.1]; exact hb46
  simp -implicitDefEqProofs only [go_sem, ↓reduceIte, reduceCtorEq, Int.reduceEq, Int.reduceLT, Int.reduceLE, Nat.reduceEqDiff, Nat.reduceAdd, Nat.reduceMul, Nat.reduceLeDiff, Nat.reduceSub, Int.reduceNeg, f8.sl.vcl, f8.sl.one, ldc_get g28, stc_get g28, hb48, hl, hll, hly, hb_b4]
  exact ⟨(E7.trans e8).set' n_b4 _, _, rfl, img_f.2 ⟨x, rfl, (f8.set (b := b4) g27 _).back E7⟩⟩
/-- spec.PlanRun -/
def b_spec_PlanRun : C := (.seq (.ops [⟨(some 6), none, .alloc [nils, (i64 0)]⟩])
 (.seq (.seq (.ops [q 8 (.mv (.t 0)), q 9 (.len (.t 8)), q 10 (.bin .gtr (.t 9) (.c (i64 400))), q 11 (.mv (.t 10)), qg 12 11 false (.mv (.t 1)), qg 13 11 false (.len (.t 12)), qg 14 11 false (.bin .gtr (.t 13) (.c (i64 400))), q 15 (.pick (.t 11) (.c (.bool true)) (.t 14)), q 16 (.mv (.t 15)), qg 17 16 false (.mv (.t 2)), qg 18 16 false (.len (.t 17)), qg 19 16 false (.bin .gtr (.t 18) (.c (i64 400))), q 20 (.pick (.t 16) (.c (.bool true)) (.t 19))])
 (.cond (.t 20) (.seq (.ops [⟨(some 21), none, .call (.c (.func (.func 136) #[] #[])) [(.c (i64 2))]⟩, ⟨none, none, .st 2 (.t 6) (.t 21)⟩])
 .ret) .skip))
 (.seq (.seq (.ops [q 22 (.mv (.t 0)), ⟨(some 23), none, .call (.c (.func (.func 120) #[] #[])) [(.t 22)]⟩, q 24 (.un .not (.t 23))])
 (.cond (.t 24) (.seq (.ops [⟨(some 25), none, .call (.c (.func (.func 136) #[] #[])) [(.c (i64 1))]⟩, ⟨none, none, .st 2 (.t 6) (.t 25)⟩])
 .ret) .skip))
 (.seq (.ops [q 26 (.mv (.t 1)), q 27 (.mv (.t 0)), q 28 (.len (.t 27)), ⟨(some 29), none, .call (.c (.func (.func 15) #[] #[])) [(.t 26), (.t 28)]⟩, ⟨(some 7), none, .alloc [nils, (i64 0)]⟩, ⟨none, none, .st 2 (.t 7) (.t 29)⟩])
 (.seq (.seq (.ops [q 30 (.fld 1 (.t 7)), q 31 (.ld false 1 (.t 30)), q 32 (.bin .neq (.t 31) (.c (i64 0)))])
 (.cond (.t 32) (.seq (.ops [q 33 (.fld 1 (.t 7)), q 34 (.ld false 1 (.t 33)), ⟨(some 35), none, .call (.c (.func (.func 136) #[] #[])) [(.t 34)]⟩, ⟨none, none, .st 2 (.t 6) (.t 35)⟩])
 .ret) .skip))
 (.seq (.seq (.ops [q 36 (.fld 0 (.t 7)), q 37 (.ld false 1 (.t 36)), q 38 (.mv (.t 2)), ⟨(some 39), none, .call (.c (.func (.func 137) #[] #[])) [(.t 37), (.t 38)]⟩, q 40 (.un .not (.t 39))])
 (.cond (.t 40) (.seq (.ops [⟨(some 41), none, .call (.c (.func (.func 136) #[] #[])) [(.c (i64 10))]⟩, ⟨none, none, .st 2 (.t 6) (.t 41)⟩])
 .ret) .skip))
 (.seq (.ops [q 42 (.mv (.t 0)), q 43 (.mv (.t 1)), q 44 (.mv (.t 2)), ⟨(some 45), none, .call (.c (.func (.func 138) #[] #[])) [(.t 42), (.t 43), (.t 44)]⟩, q 46 (.build [nils, (i64 0)] [(0, 1, (.t 45))]), ⟨none, none, .st 2 (.t 6) (.t 46)⟩])
 .ret)))))))
theorem w_spec_PlanRun {args : List Value} {h : H} {Q : Value → H → Prop} (hl : args.length ≤ 47) (hk : wpc Try.prog b_spec_PlanRun (retw [.cell 6 true 2] Q) (argsFr args) h) : AC Try.prog 43 args h Q :=
  AC.of_wpc mixedOrders Try.func43 (by kernel_rfl) (by kernel_rfl : prepF Try.prog Try.f43 = some ⟨47, [.cell 6 true 2], b_spec_PlanRun⟩) hl hk

set_option maxHeartbeats 1600000 in
theorem specPlanRun_ac {h : H} {v u y : Value} {im : List (List UInt8)} {l : List UStep} {mv : List UMove} (hv : Sl h v 1 (strs im)) (hu : Sl h u 4 (l.map UStep.cells)) (hy : Sl h y 4 (mv.map UMove.cells)) (hi : im.length ≤ 1048576) (hn : l.length ≤ 1048576) (hm : mv.length ≤ 1048576) :
    AC Try.prog 43 [v, u, y] h fun r h' => Ext h h' ∧ ∃ cs, r = .agg cs.toArray ∧ RepF h h' (spImg (runOut im l mv)) cs := by
  obtain ⟨av, cv, rfl⟩ := hv.shape
  obtain ⟨au, cu, rfl⟩ := hu.shape
  obtain ⟨ay, cy, rfl⟩ := hy.shape
  have hl : (strs im).length = im.length := by simp
  have hll : (l.map UStep.cells).length = l.length := by simp
  have hly : (mv.map UMove.cells).length = mv.length := by simp
  rw [hl] at hv
  rw [hll] at hu
  rw [hly] at hy
  skip
  refine w_spec_PlanRun (by simp) ?_
  unfold b_spec_PlanRun
  simp -implicitDefEqProofs only [go_sem, ↓reduceIte, reduceCtorEq, Int.reduceEq, Int.reduceLT, Int.reduceLE, Nat.reduceEqDiff, Nat.reduceAdd, Nat.reduceMul, Nat.reduceLeDiff, Nat.reduceSub, Int.reduceNeg, hl, hll, hly]
  intro b4 hb_b4 n_b4
  unfold runOut
  by_cases h1 : 400 < im.length
  · rw [if_pos (.inl h1)]
    simp -implicitDefEqProofs only [go_sem, ↓reduceIte, reduceCtorEq, Int.reduceEq, Int.reduceLT, Int.reduceLE, Nat.reduceEqDiff, Nat.reduceAdd, Nat.reduceMul, Nat.reduceLeDiff, Nat.reduceSub, Int.reduceNeg, show (400 : Int) < (im.length : Int) by omega, hl, hll, hly, hb_b4]
    refine (l07Ill_pc _ _).use ?_
    simp -implicitDefEqProofs only [go_sem, ↓reduceIte, reduceCtorEq, Int.reduceEq, Int.reduceLT, Int.reduceLE, Nat.reduceEqDiff, Nat.reduceAdd, Nat.reduceMul, Nat.reduceLeDiff, Nat.reduceSub, Int.reduceNeg, hl, hll, hly, hb_b4]
    exact ⟨((Ext.refl _).set' n_b4 _), _, rfl, img_none⟩
  by_cases h2 : 400 < l.length
  · rw [if_pos (.inr (.inl h2))]
    simp -implicitDefEqProofs only [go_sem, ↓reduceIte, reduceCtorEq, Int.reduceEq, Int.reduceLT, Int.reduceLE, Nat.reduceEqDiff, Nat.reduceAdd, Nat.reduceMul, Nat.reduceLeDiff, Nat.reduceSub, Int.reduceNeg, show ¬ (400 : Int) < (im.length : Int) by omega, show (400 : Int) < (l.length : Int) by omega, hl, hll, hly, hb_b4]
    refine (l07Ill_pc _ _).use ?_
    simp -implicitDefEqProofs only [go_sem, ↓reduceIte, reduceCtorEq, Int.reduceEq, Int.reduceLT, Int.reduceLE, Nat.reduceEqDiff, Nat.reduceAdd, Nat.reduceMul, Nat.reduceLeDiff, Nat.reduceSub, Int.reduceNeg, hl, hll, hly, hb_b4]
    exact ⟨((Ext.refl _).set' n_b4 _), _, rfl, img_none⟩
  by_cases h9 : 400 < mv.length
  · rw [if_pos (.inr (.inr h9))]
    simp -implicitDefEqProofs only [go_sem, ↓reduceIte, reduceCtorEq, Int.reduceEq, Int.reduceLT, Int.reduceLE, Nat.reduceEqDiff, Nat.reduceAdd, Nat.reduceMul, Nat.reduceLeDiff, Nat.reduceSub, Int.reduceNeg, show ¬ (400 : Int) < (im.length : Int) by omega, show ¬ (400 : Int) < (l.length : Int) by omega, show (400 : Int) < (mv.length : Int) by omega, hl, hll, hly, hb_b4]
    refine (l07Ill_pc _ _).use ?_
    simp -implicitDefEqProofs only [go_sem, ↓reduceIte, reduceCtorEq, Int.reduceEq, Int.reduceLT, Int.reduceLE, Nat.reduceEqDiff, Nat.reduceAdd, Nat.reduceMul, Nat.reduceLeDiff, Nat.reduceSub, Int.reduceNeg, hl, hll, hly, hb_b4]
    exact ⟨((Ext.refl _).set' n_b4 _), _, rfl, img_none⟩
  rw [if_neg (by omega)]
  simp -implicitDefEqProofs only [go_sem, ↓reduceIte, reduceCtorEq, Int.reduceEq, Int.reduceLT, Int.reduceLE, Nat.reduceEqDiff, Nat.reduceAdd, Nat.reduceMul, Nat.reduceLeDiff, Nat.reduceSub, Int.reduceNeg, show ¬ (400 : Int) < (im.length : Int) by omega, show ¬ (400 : Int) < (l.length : Int) by omega, show ¬ (400 : Int) < (mv.length : Int) by omega, hl, hll, hly, hb_b4]
  refine (specImageRight_pc (hv.ext ((Ext.refl _).set' n_b4 _)) hi).use ?_
  by_cases h3 : imageOk im
  rotate_left
  · rw [if_neg h3]
    simp -implicitDefEqProofs only [go_sem, ↓reduceIte, reduceCtorEq, Int.reduceEq, Int.reduceLT, Int.reduceLE, Nat.reduceEqDiff, Nat.reduceAdd, Nat.reduceMul, Nat.reduceLeDiff, Nat.reduceSub, Int.reduceNeg, h3, hl, hll, hly, hb_b4]
    refine (l07Ill_pc _ _).use ?_
    simp -implicitDefEqProofs only [go_sem, ↓reduceIte, reduceCtorEq, Int.reduceEq, Int.reduceLT, Int.reduceLE, Nat.reduceEqDiff, Nat.reduceAdd, Nat.reduceMul, Nat.reduceLeDiff, Nat.reduceSub, Int.reduceNeg, hl, hll, hly, hb_b4]
    exact ⟨((Ext.refl _).set' n_b4 _), _, rfl, img_none⟩
  rw [if_pos h3]
  simp -implicitDefEqProofs only [go_sem, ↓reduceIte, reduceCtorEq, Int.reduceEq, Int.reduceLT, Int.reduceLE, Nat.reduceEqDiff, Nat.reduceAdd, Nat.reduceMul, Nat.reduceLeDiff, Nat.reduceSub, Int.reduceNeg, h3, hl, hll, hly, hb_b4]
  refine AC_of (specPlanOf_ac (b := im.length) (hu.ext ((Ext.refl _).set' n_b4 _)) hn) ?_
  rintro r h5 - ⟨e1, cs, rfl, fp⟩
  obtain ⟨⟨P, c⟩, hpo⟩ : ∃ o, planOut l im.length = o := ⟨_, rfl⟩
  rw [hpo] at fp
  obtain ⟨w, rfl, fw⟩ := plan_f.1 fp
  have g2 := e1.2.g b4 _ (H.set_get_same _ _ _)
  have hb4 := e1.1
  simp only [H.set_base] at hb4
  have E1 := (((Ext.refl _).set' n_b4 _)).trans e1
  simp -implicitDefEqProofs only [go_sem, ↓reduceIte, reduceCtorEq, Int.reduceEq, Int.reduceLT, Int.reduceLE, Nat.reduceEqDiff, Nat.reduceAdd, Nat.reduceMul, Nat.reduceLeDiff, Nat.reduceSub, Int.reduceNeg, hl, hll, hly, hb_b4]
  intro b7 hb7 n7
  have e7 := (Ext.refl h5).set n7 ⟨[w, i64 c], 2⟩
  have g7 : (h5.set b7 ⟨[w, i64 c], 2⟩).get b7 = some ⟨[w, i64 c], 2⟩ := H.set_get_same _ _ _
  have g27 := e7.2.g b4 _ g2
  have E7 := E1.trans e7
  simp -implicitDefEqProofs only [go_sem, ↓reduceIte, reduceCtorEq, Int.reduceEq, Int.reduceLT, Int.reduceLE, Nat.reduceEqDiff, Nat.reduceAdd, Nat.reduceMul, Nat.reduceLeDiff, Nat.reduceSub, Int.reduceNeg, fw.sl.vcl, fw.sl.one, hl, hll, hly, hb_b4]
  have fw7 := fw.ext e7
  generalize hH : h5.set b7 ⟨[w, i64 c], 2⟩ = h6 at e7 g7 g27 E7 fw7
  have hb46 : h6.base ≤ b4 := by rw [e7.1, e1.1, H.set_base]; exact hb_b4
  unfold planOut at hpo
  rw [if_neg h2] at hpo
  by_cases h4 : codeOf l im.length = 0
  rotate_left
  · rw [if_neg h4]
    rw [if_neg h4] at hpo
    simp only [Prod.mk.injEq] at hpo
    obtain ⟨rfl, rfl⟩ := hpo
    simp -implicitDefEqProofs only [go_sem, ↓reduceIte, reduceCtorEq, Int.reduceEq, Int.reduceLT, Int.reduceLE, Nat.reduceEqDiff, Nat.reduceAdd, Nat.reduceMul, Nat.reduceLeDiff, Nat.reduceSub, Int.reduceNeg, hb7, hH, h4, fw.sl.vcl, fw.sl.one, ldc_get g7, hl, hll, hly, hb_b4]
    refine (l07Ill_pc _ _).use ?_
    simp -implicitDefEqProofs only [go_sem, ↓reduceIte, reduceCtorEq, Int.reduceEq, Int.reduceLT, Int.reduceLE, Nat.reduceEqDiff, Nat.reduceAdd, Nat.reduceMul, Nat.reduceLeDiff, Nat.reduceSub, Int.reduceNeg, ldc_get g27, stc_get g27, hb46, hl, hll, hly, hb_b4]
    exact ⟨E7.set' n_b4 _, _, rfl, img_none⟩
  rw [if_pos h4]
  rw [if_pos h4] at hpo
  simp only [Prod.mk.injEq] at hpo
  obtain ⟨rfl, rfl⟩ := hpo
  have hp4 := planB_400 h4
  simp -implicitDefEqProofs only [go_sem, ↓reduceIte, reduceCtorEq, Int.reduceEq, Int.reduceLT, Int.reduceLE, Nat.reduceEqDiff, Nat.reduceAdd, Nat.reduceMul, Nat.reduceLeDiff, Nat.reduceSub, Int.reduceNeg, hb7, hH, fw.sl.vcl, fw.sl.one, ldc_get g7, hl, hll, hly, hb_b4]
  refine PC.use (l11Same_pc (l1 := planB (l.filter isW)) fw7.sl (hy.ext E7) (by omega)) ?_
  by_cases h6 : planB (l.filter isW) = mv
  rotate_left
  · rw [if_neg h6]
    simp -implicitDefEqProofs only [go_sem, ↓reduceIte, reduceCtorEq, Int.reduceEq, Int.reduceLT, Int.reduceLE, Nat.reduceEqDiff, Nat.reduceAdd, Nat.reduceMul, Nat.reduceLeDiff, Nat.reduceSub, Int.reduceNeg, h6, hl, hll, hly, hb_b4]
    refine (l07Ill_pc _ _).use ?_
    simp -implicitDefEqProofs only [go_sem, ↓reduceIte, reduceCtorEq, Int.reduceEq, Int.reduceLT, Int.reduceLE, Nat.reduceEqDiff, Nat.reduceAdd, Nat.reduceMul, Nat.reduceLeDiff, Nat.reduceSub, Int.reduceNeg, ldc_get g27, stc_get g27, hb46, hl, hll, hly, hb_b4]
    exact ⟨E7.set' n_b4 _, _, rfl, img_none⟩
  rw [if_pos h6]
  subst h6
  simp -implicitDefEqProofs only [go_sem, ↓reduceIte, reduceCtorEq, Int.reduceEq, Int.reduceLT, Int.reduceLE, Nat.reduceEqDiff, Nat.reduceAdd, Nat.reduceMul, Nat.reduceLeDiff, Nat.reduceSub, Int.reduceNeg, hl, hll, hly, hb_b4]
  refine AC_of (l11Run_ac (hv.ext E7) (hu.ext E7) (hy.ext E7) h3 h4) ?_
  rintro x h8 - ⟨e8, f8⟩
  have g28 := e8.2.g b4 _ g27
  have hb48 : h8.base ≤ b4 := by rw [e8.1]; exact hb46
  simp -implicitDefEqProofs only [go_sem, ↓reduceIte, reduceCtorEq, Int.reduceEq, Int.reduceLT, Int.reduceLE, Nat.reduceEqDiff, Nat.reduceAdd, Nat.reduceMul, Nat.reduceLeDiff, Nat.reduceSub, Int.reduceNeg, f8.sl.vcl, f8.sl.one, ldc_get g28, stc_get g28, hb48, hl, hll, hly, hb_b4]
  exact ⟨(E7.trans e8).set' n_b4 _, _, rfl, img_f.2 ⟨x, rfl, (f8.set (b := b4) g27 _).back E7⟩⟩
end Go.Proofs.Ytpponffjeilhmaa
