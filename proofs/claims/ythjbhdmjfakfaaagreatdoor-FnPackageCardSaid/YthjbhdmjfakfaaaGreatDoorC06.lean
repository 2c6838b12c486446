/- A helper of this seat's claims (contracts of the functions): what it shows is shown for every input that its statements name, on no other condition. -/
import Derived.Test.YthjbhdmjfakfaaaGreatDoorMC0
set_option linter.unusedVariables false
set_option linter.unusedSimpArgs false
set_option maxRecDepth 100000
namespace Go.Proofs.YthjbhdmjfakfaaaGreatDoor
open Go.KH

/-! ## Steps -/
def stepOk (s : UStep) (blocks : Int) : Prop := (1 ≤ s.kind ∧ s.kind ≤ 5) ∧ (if s.kind = 5 then s.dst = 0 else 0 ≤ s.dst ∧ s.dst ≤ blocks - 1) ∧
  (if s.kind = 5 then 0 ≤ s.src ∧ s.src ≤ 1000000 else if s.kind = 3 ∨ s.kind = 4 then 0 ≤ s.src ∧ s.src ≤ blocks - 1 else s.src = 0) ∧ (if s.kind = 2 ∨ s.kind = 4 then s.data.length = 8 else s.data = [])
instance (s : UStep) (blocks : Int) : Decidable (stepOk s blocks) := by unfold stepOk; infer_instance
/-- impl.isTime -/
def b_impl_isTime : C := (.seq (.ops [q 2 (.mv (.c (.bool false)))])
 (.seq (.ops [q 3 (.mv (.t 0)), ⟨(some 4), none, .call (.c (.func (.func 140) #[] #[])) [(.t 3), (.c (i64 0)), (.c (i64 1000000))]⟩, q 2 (.mv (.t 4))])
 .ret))
theorem w_impl_isTime {args : List Value} {h : H} {Q : Value → H → Prop} (hl : args.length ≤ 5) (hk : wpc Tryz.prog b_impl_isTime (retw [.tmp 2] Q) (argsFr args) h) : AC Tryz.prog 141 args h Q :=
  AC.of_wpc mixedOrders Tryz.func141 (by kernel_rfl) (by kernel_rfl : prepF Tryz.prog Tryz.f141 = some ⟨5, [.tmp 2], b_impl_isTime⟩) hl hk

theorem isTime_pc (h : H) (n : Int) : PC Tryz.prog 141 [i64 n] h (.bool (decide (0 ≤ n ∧ n ≤ 1000000))) := by
  refine w_impl_isTime (by simp) ?_
  unfold b_impl_isTime
  simp -implicitDefEqProofs only [go_sem]
  refine (within_pc _ _ _ _).use ?_
  simp -implicitDefEqProofs only [go_sem]
/-- impl.isStep -/
def b_impl_isStep : C := (.seq (.ops [⟨(some 2), none, .box (.t 0)⟩, q 4 (.mv (.c (.bool false)))])
 (.seq (.dops true (.tk (q 8 (.fld 1 (.t 2))) (.tk (q 9 (.ld false 1 (.t 8))) (.tk (q 10 (.mv (.t 1))) (.tk (q 11 (.bin .sub (.t 10) (.c (i64 1)))) (.tk (q 13 (.fld 2 (.t 2))) (.tk (q 14 (.ld false 1 (.t 13))) (.tk (q 15 (.bin .eql (.t 14) (.c (i64 0)))) (.tk (q 16 (.fld 3 (.t 2))) (.tk (q 17 (.ld false 1 (.t 16))) (.tk (q 18 (.bin .eql (.t 17) (.c (str [])))) (.sq (⟨(some 12), none, .call (.c (.func (.func 140) #[] #[])) [(.t 9), (.c (i64 0)), (.t 11)]⟩) (.tk (q 5 (.mv (.t 12))) (.tk (q 6 (.mv (.t 15))) (.tk (q 7 (.mv (.t 18))) .nil)))))))))))))))
 (.seq (.seq (.ops [q 19 (.fld 0 (.t 2)), q 20 (.ld false 1 (.t 19)), q 21 (.bin .eql (.t 20) (.c (i64 3))), q 22 (.mv (.t 21)), qg 23 22 false (.fld 0 (.t 2)), qg 24 22 false (.ld false 1 (.t 23)), qg 25 22 false (.bin .eql (.t 24) (.c (i64 4))), q 26 (.pick (.t 22) (.c (.bool true)) (.t 25))])
 (.cond (.t 26) (.ops [q 27 (.fld 2 (.t 2)), q 28 (.ld false 1 (.t 27)), q 29 (.mv (.t 1)), q 30 (.bin .sub (.t 29) (.c (i64 1))), ⟨(some 31), none, .call (.c (.func (.func 140) #[] #[])) [(.t 28), (.c (i64 0)), (.t 30)]⟩, q 6 (.mv (.t 31))]) .skip))
 (.seq (.seq (.ops [q 32 (.fld 0 (.t 2)), q 33 (.ld false 1 (.t 32)), q 34 (.bin .eql (.t 33) (.c (i64 2))), q 35 (.mv (.t 34)), qg 36 35 false (.fld 0 (.t 2)), qg 37 35 false (.ld false 1 (.t 36)), qg 38 35 false (.bin .eql (.t 37) (.c (i64 4))), q 39 (.pick (.t 35) (.c (.bool true)) (.t 38))])
 (.cond (.t 39) (.ops [q 40 (.fld 3 (.t 2)), q 41 (.ld false 1 (.t 40)), q 42 (.slen (.t 41)), q 43 (.bin .eql (.t 42) (.c (i64 8))), q 7 (.mv (.t 43))]) .skip))
 (.seq (.seq (.ops [q 44 (.fld 0 (.t 2)), q 45 (.ld false 1 (.t 44)), q 46 (.bin .eql (.t 45) (.c (i64 5)))])
 (.cond (.t 46) (.dops true (.tk (q 47 (.fld 1 (.t 2))) (.tk (q 48 (.ld false 1 (.t 47))) (.tk (q 49 (.bin .eql (.t 48) (.c (i64 0)))) (.tk (q 50 (.fld 2 (.t 2))) (.tk (q 51 (.ld false 1 (.t 50))) (.sq (⟨(some 52), none, .call (.c (.func (.func 141) #[] #[])) [(.t 51)]⟩) (.tk (q 5 (.mv (.t 49))) (.tk (q 6 (.mv (.t 52))) .nil))))))))) .skip))
 (.seq (.ops [q 53 (.fld 0 (.t 2)), q 54 (.ld false 1 (.t 53)), ⟨(some 55), none, .call (.c (.func (.func 140) #[] #[])) [(.t 54), (.c (i64 1)), (.c (i64 5))]⟩, q 56 (.mv (.t 55)), qg 57 56 true (.mv (.t 5)), q 58 (.pick (.t 56) (.t 57) (.c (.bool false))), q 59 (.mv (.t 58)), qg 60 59 true (.mv (.t 6)), q 61 (.pick (.t 59) (.t 60) (.c (.bool false))), q 62 (.mv (.t 61)), qg 63 62 true (.mv (.t 7)), q 64 (.pick (.t 62) (.t 63) (.c (.bool false))), q 4 (.mv (.t 64))])
 .ret))))))
theorem w_impl_isStep {args : List Value} {h : H} {Q : Value → H → Prop} (hl : args.length ≤ 65) (hk : wpc Tryz.prog b_impl_isStep (retw [.tmp 4] Q) (argsFr args) h) : AC Tryz.prog 122 args h Q :=
  AC.of_wpc mixedOrders Tryz.func122 (by kernel_rfl) (by kernel_rfl : prepF Tryz.prog Tryz.f122 = some ⟨65, [.tmp 4], b_impl_isStep⟩) hl hk

theorem isStep_pc (h : H) (s : UStep) {blocks : Int} (hb : in64 blocks) (hb' : -1000 ≤ blocks) : PC Tryz.prog 122 [.agg s.cells.toArray, i64 blocks] h (.bool (decide (stepOk s blocks))) := by
  obtain ⟨kind, dst, src, data⟩ := s
  unfold in64 at hb
  refine PC_of ?_
  refine w_impl_isStep (by simp) ?_
  unfold b_impl_isStep
  simp -implicitDefEqProofs only [go_sem]
  intro b1 hb_b1 n_b1
  skip
  simp -implicitDefEqProofs only [go_sem, hb_b1, wrap_i64 (show -(9223372036854775808 : Int) ≤ (blocks - 1) by omega) (show (blocks - 1) < 9223372036854775808 by omega)]
  refine (within_pc _ _ _ _).use ?_
  by_cases h3 : kind = 3
  · subst h3
    simp -implicitDefEqProofs only [go_sem, hb_b1, wrap_i64 (show -(9223372036854775808 : Int) ≤ (blocks - 1) by omega) (show (blocks - 1) < 9223372036854775808 by omega)]
    repeat' first | (refine Br.of (fun hc => ?_) (fun hc => ?_) <;> simp -implicitDefEqProofs only [go_sem, *, wrap_i64 (show -(9223372036854775808 : Int) ≤ (blocks - 1) by omega) (show (blocks - 1) < 9223372036854775808 by omega)]) | (refine PC.use (within_pc _ _ _ _) ?_; simp -implicitDefEqProofs only [go_sem, *, wrap_i64 (show -(9223372036854775808 : Int) ≤ (blocks - 1) by omega) (show (blocks - 1) < 9223372036854775808 by omega)]) | (refine PC.use (isTime_pc _ _) ?_; simp -implicitDefEqProofs only [go_sem, *, wrap_i64 (show -(9223372036854775808 : Int) ≤ (blocks - 1) by omega) (show (blocks - 1) < 9223372036854775808 by omega)])
    all_goals first | exact ((Ext.refl _).set' n_b1 _) | exact ⟨((Ext.refl _).set' n_b1 _), by first | (simp_all [stepOk]; done) | (simp_all [stepOk]; intros; omega)⟩
  by_cases h4 : kind = 4
  · subst h4
    simp -implicitDefEqProofs only [go_sem, hb_b1, wrap_i64 (show -(9223372036854775808 : Int) ≤ (blocks - 1) by omega) (show (blocks - 1) < 9223372036854775808 by omega)]
    repeat' first | (refine Br.of (fun hc => ?_) (fun hc => ?_) <;> simp -implicitDefEqProofs only [go_sem, *, wrap_i64 (show -(9223372036854775808 : Int) ≤ (blocks - 1) by omega) (show (blocks - 1) < 9223372036854775808 by omega)]) | (refine PC.use (within_pc _ _ _ _) ?_; simp -implicitDefEqProofs only [go_sem, *, wrap_i64 (show -(9223372036854775808 : Int) ≤ (blocks - 1) by omega) (show (blocks - 1) < 9223372036854775808 by omega)]) | (refine PC.use (isTime_pc _ _) ?_; simp -implicitDefEqProofs only [go_sem, *, wrap_i64 (show -(9223372036854775808 : Int) ≤ (blocks - 1) by omega) (show (blocks - 1) < 9223372036854775808 by omega)])
    all_goals first | exact ((Ext.refl _).set' n_b1 _) | exact ⟨((Ext.refl _).set' n_b1 _), by first | (simp_all [stepOk]; done) | (simp_all [stepOk]; intros; omega)⟩
  by_cases h2 : kind = 2
  · subst h2
    simp -implicitDefEqProofs only [go_sem, hb_b1, wrap_i64 (show -(9223372036854775808 : Int) ≤ (blocks - 1) by omega) (show (blocks - 1) < 9223372036854775808 by omega)]
    repeat' first | (refine Br.of (fun hc => ?_) (fun hc => ?_) <;> simp -implicitDefEqProofs only [go_sem, *, wrap_i64 (show -(9223372036854775808 : Int) ≤ (blocks - 1) by omega) (show (blocks - 1) < 9223372036854775808 by omega)]) | (refine PC.use (within_pc _ _ _ _) ?_; simp -implicitDefEqProofs only [go_sem, *, wrap_i64 (show -(9223372036854775808 : Int) ≤ (blocks - 1) by omega) (show (blocks - 1) < 9223372036854775808 by omega)]) | (refine PC.use (isTime_pc _ _) ?_; simp -implicitDefEqProofs only [go_sem, *, wrap_i64 (show -(9223372036854775808 : Int) ≤ (blocks - 1) by omega) (show (blocks - 1) < 9223372036854775808 by omega)])
    all_goals first | exact ((Ext.refl _).set' n_b1 _) | exact ⟨((Ext.refl _).set' n_b1 _), by first | (simp_all [stepOk]; done) | (simp_all [stepOk]; intros; omega)⟩
  by_cases h5 : kind = 5
  · subst h5
    simp -implicitDefEqProofs only [go_sem, hb_b1, wrap_i64 (show -(9223372036854775808 : Int) ≤ (blocks - 1) by omega) (show (blocks - 1) < 9223372036854775808 by omega)]
    repeat' first | (refine Br.of (fun hc => ?_) (fun hc => ?_) <;> simp -implicitDefEqProofs only [go_sem, *, wrap_i64 (show -(9223372036854775808 : Int) ≤ (blocks - 1) by omega) (show (blocks - 1) < 9223372036854775808 by omega)]) | (refine PC.use (within_pc _ _ _ _) ?_; simp -implicitDefEqProofs only [go_sem, *, wrap_i64 (show -(9223372036854775808 : Int) ≤ (blocks - 1) by omega) (show (blocks - 1) < 9223372036854775808 by omega)]) | (refine PC.use (isTime_pc _ _) ?_; simp -implicitDefEqProofs only [go_sem, *, wrap_i64 (show -(9223372036854775808 : Int) ≤ (blocks - 1) by omega) (show (blocks - 1) < 9223372036854775808 by omega)])
    all_goals first | exact ((Ext.refl _).set' n_b1 _) | exact ⟨((Ext.refl _).set' n_b1 _), by first | (simp_all [stepOk]; done) | (simp_all [stepOk]; intros; omega)⟩
  · simp -implicitDefEqProofs only [go_sem, h2, h3, h4, h5, hb_b1, wrap_i64 (show -(9223372036854775808 : Int) ≤ (blocks - 1) by omega) (show (blocks - 1) < 9223372036854775808 by omega)]
    repeat' first | (refine Br.of (fun hc => ?_) (fun hc => ?_) <;> simp -implicitDefEqProofs only [go_sem, h2, h3, h4, h5, *, wrap_i64 (show -(9223372036854775808 : Int) ≤ (blocks - 1) by omega) (show (blocks - 1) < 9223372036854775808 by omega)]) | (refine PC.use (within_pc _ _ _ _) ?_; simp -implicitDefEqProofs only [go_sem, h2, h3, h4, h5, *, wrap_i64 (show -(9223372036854775808 : Int) ≤ (blocks - 1) by omega) (show (blocks - 1) < 9223372036854775808 by omega)]) | (refine PC.use (isTime_pc _ _) ?_; simp -implicitDefEqProofs only [go_sem, h2, h3, h4, h5, *, wrap_i64 (show -(9223372036854775808 : Int) ≤ (blocks - 1) by omega) (show (blocks - 1) < 9223372036854775808 by omega)])
    all_goals first | exact ((Ext.refl _).set' n_b1 _) | exact ⟨((Ext.refl _).set' n_b1 _), by first | (simp_all [stepOk]; done) | (simp_all [stepOk]; intros; omega)⟩
/-- spec.StepRight -/
def b_spec_StepRight : C := (.seq (.ops [⟨(some 2), none, .box (.t 0)⟩, q 4 (.mv (.c (.bool false)))])
 (.seq (.seq (.ops [q 7 (.mv (.t 1)), ⟨(some 8), none, .call (.c (.func (.func 118) #[] #[])) [(.t 7), (.c (i64 1)), (.c (i64 8))]⟩, q 9 (.un .not (.t 8))])
 (.cond (.t 9) (.seq (.ops [q 4 (.mv (.c (.bool false)))])
 .ret) .skip))
 (.seq (.dops true (.tk (q 10 (.fld 1 (.t 2))) (.tk (q 11 (.ld false 1 (.t 10))) (.tk (q 12 (.mv (.t 1))) (.tk (q 13 (.bin .sub (.t 12) (.c (i64 1)))) (.tk (q 15 (.fld 2 (.t 2))) (.tk (q 16 (.ld false 1 (.t 15))) (.tk (q 17 (.mv (.t 1))) (.tk (q 18 (.bin .sub (.t 17) (.c (i64 1)))) (.sq (⟨(some 14), none, .call (.c (.func (.func 118) #[] #[])) [(.t 11), (.c (i64 0)), (.t 13)]⟩) (.sq (⟨(some 19), none, .call (.c (.func (.func 118) #[] #[])) [(.t 16), (.c (i64 0)), (.t 18)]⟩) (.tk (q 5 (.mv (.t 14))) (.tk (q 6 (.mv (.t 19))) .nil)))))))))))))
 (.seq (.seq (.ops [q 20 (.fld 0 (.t 2)), q 21 (.ld false 1 (.t 20))])
 (.block 0 (.seq (.ops [q 23 (.bin .eql (.t 21) (.c (i64 1))), q 22 (.mv (.t 23))])
 (.cond (.t 22) (.seq (.ops [q 24 (.mv (.t 5)), q 25 (.mv (.t 24)), qg 26 25 true (.fld 2 (.t 2)), qg 27 25 true (.ld false 1 (.t 26)), qg 28 25 true (.bin .eql (.t 27) (.c (i64 0))), q 29 (.pick (.t 25) (.t 28) (.c (.bool false))), q 30 (.mv (.t 29)), qg 31 30 true (.fld 3 (.t 2)), qg 32 30 true (.ld false 1 (.t 31)), qg 33 30 true (.bin .eql (.t 32) (.c (str []))), q 34 (.pick (.t 30) (.t 33) (.c (.bool false))), q 4 (.mv (.t 34))])
 .ret) (.seq (.ops [q 36 (.bin .eql (.t 21) (.c (i64 2))), q 35 (.mv (.t 36))])
 (.cond (.t 35) (.seq (.ops [q 37 (.mv (.t 5)), q 38 (.mv (.t 37)), qg 39 38 true (.fld 2 (.t 2)), qg 40 38 true (.ld false 1 (.t 39)), qg 41 38 true (.bin .eql (.t 40) (.c (i64 0))), q 42 (.pick (.t 38) (.t 41) (.c (.bool false))), q 43 (.mv (.t 42)), qg 44 43 true (.fld 3 (.t 2)), qg 45 43 true (.ld false 1 (.t 44)), qg 46 43 true (.slen (.t 45)), qg 47 43 true (.bin .eql (.t 46) (.c (i64 8))), q 48 (.pick (.t 43) (.t 47) (.c (.bool false))), q 4 (.mv (.t 48))])
 .ret) (.seq (.ops [q 50 (.bin .eql (.t 21) (.c (i64 3))), q 49 (.mv (.t 50))])
 (.cond (.t 49) (.seq (.ops [q 51 (.mv (.t 5)), q 52 (.mv (.t 51)), qg 53 52 true (.mv (.t 6)), q 54 (.pick (.t 52) (.t 53) (.c (.bool false))), q 55 (.mv (.t 54)), qg 56 55 true (.fld 3 (.t 2)), qg 57 55 true (.ld false 1 (.t 56)), qg 58 55 true (.bin .eql (.t 57) (.c (str []))), q 59 (.pick (.t 55) (.t 58) (.c (.bool false))), q 4 (.mv (.t 59))])
 .ret) (.seq (.ops [q 61 (.bin .eql (.t 21) (.c (i64 4))), q 60 (.mv (.t 61))])
 (.cond (.t 60) (.seq (.ops [q 62 (.mv (.t 5)), q 63 (.mv (.t 62)), qg 64 63 true (.mv (.t 6)), q 65 (.pick (.t 63) (.t 64) (.c (.bool false))), q 66 (.mv (.t 65)), qg 67 66 true (.fld 3 (.t 2)), qg 68 66 true (.ld false 1 (.t 67)), qg 69 66 true (.slen (.t 68)), qg 70 66 true (.bin .eql (.t 69) (.c (i64 8))), q 71 (.pick (.t 66) (.t 70) (.c (.bool false))), q 4 (.mv (.t 71))])
 .ret) (.seq (.ops [q 73 (.bin .eql (.t 21) (.c (i64 5))), q 72 (.mv (.t 73))])
 (.cond (.t 72) (.seq (.ops [q 74 (.fld 1 (.t 2)), q 75 (.ld false 1 (.t 74)), q 76 (.bin .eql (.t 75) (.c (i64 0))), q 77 (.mv (.t 76)), qg 78 77 true (.fld 2 (.t 2)), qg 79 77 true (.ld false 1 (.t 78)), ⟨(some 80), (some (77, true)), .call (.c (.func (.func 118) #[] #[])) [(.t 79), (.c (i64 0)), (.c (i64 1000000))]⟩, q 81 (.pick (.t 77) (.t 80) (.c (.bool false))), q 82 (.mv (.t 81)), qg 83 82 true (.fld 3 (.t 2)), qg 84 82 true (.ld false 1 (.t 83)), qg 85 82 true (.bin .eql (.t 84) (.c (str []))), q 86 (.pick (.t 82) (.t 85) (.c (.bool false))), q 4 (.mv (.t 86))])
 .ret) .skip))))))))))))
 (.seq (.ops [q 4 (.mv (.c (.bool false)))])
 .ret)))))
theorem w_spec_StepRight {args : List Value} {h : H} {Q : Value → H → Prop} (hl : args.length ≤ 87) (hk : wpc Tryz.prog b_spec_StepRight (retw [.tmp 4] Q) (argsFr args) h) : AC Tryz.prog 119 args h Q :=
  AC.of_wpc mixedOrders Tryz.func119 (by kernel_rfl) (by kernel_rfl : prepF Tryz.prog Tryz.f119 = some ⟨87, [.tmp 4], b_spec_StepRight⟩) hl hk

theorem specStepRight_pc (h : H) (s : UStep) {blocks : Int} : PC Tryz.prog 119 [.agg s.cells.toArray, i64 blocks] h (.bool (decide ((1 ≤ blocks ∧ blocks ≤ 8) ∧ stepOk s blocks))) := by
  obtain ⟨kind, dst, src, data⟩ := s
  refine PC_of ?_
  refine w_spec_StepRight (by simp) ?_
  unfold b_spec_StepRight
  simp -implicitDefEqProofs only [go_sem]
  intro b1 hb_b1 n_b1
  simp -implicitDefEqProofs only [go_sem, hb_b1]
  refine (l03Is_pc _ _ _ _).use ?_
  simp -implicitDefEqProofs only [go_sem, hb_b1]
  refine Br.of (fun hb => ?_) (fun hb => ?_)
  rotate_left
  · simp -implicitDefEqProofs only [go_sem, hb, hb_b1]
    all_goals first | exact ((Ext.refl _).set' n_b1 _) | exact ⟨((Ext.refl _).set' n_b1 _), by simp_all⟩
  skip
  simp -implicitDefEqProofs only [go_sem, hb, hb_b1, wrap_i64 (show -(9223372036854775808 : Int) ≤ (blocks - 1) by omega) (show (blocks - 1) < 9223372036854775808 by omega)]
  refine (l03Is_pc _ _ _ _).use ?_
  simp -implicitDefEqProofs only [go_sem, hb_b1, wrap_i64 (show -(9223372036854775808 : Int) ≤ (blocks - 1) by omega) (show (blocks - 1) < 9223372036854775808 by omega)]
  refine (l03Is_pc _ _ _ _).use ?_
  by_cases h3 : kind = 3
  · subst h3
    simp -implicitDefEqProofs only [go_sem, hb_b1, wrap_i64 (show -(9223372036854775808 : Int) ≤ (blocks - 1) by omega) (show (blocks - 1) < 9223372036854775808 by omega)]
    repeat' first | (refine Br.of (fun hc => ?_) (fun hc => ?_) <;> simp -implicitDefEqProofs only [go_sem, *, wrap_i64 (show -(9223372036854775808 : Int) ≤ (blocks - 1) by omega) (show (blocks - 1) < 9223372036854775808 by omega)]) | (refine PC.use (l03Is_pc _ _ _ _) ?_; simp -implicitDefEqProofs only [go_sem, *, wrap_i64 (show -(9223372036854775808 : Int) ≤ (blocks - 1) by omega) (show (blocks - 1) < 9223372036854775808 by omega)])
    all_goals first | exact ((Ext.refl _).set' n_b1 _) | exact ⟨((Ext.refl _).set' n_b1 _), by first | (simp_all [stepOk]; done) | (simp_all [stepOk]; intros; omega)⟩
  by_cases h4 : kind = 4
  · subst h4
    simp -implicitDefEqProofs only [go_sem, hb_b1, wrap_i64 (show -(9223372036854775808 : Int) ≤ (blocks - 1) by omega) (show (blocks - 1) < 9223372036854775808 by omega)]
    repeat' first | (refine Br.of (fun hc => ?_) (fun hc => ?_) <;> simp -implicitDefEqProofs only [go_sem, *, wrap_i64 (show -(9223372036854775808 : Int) ≤ (blocks - 1) by omega) (show (blocks - 1) < 9223372036854775808 by omega)]) | (refine PC.use (l03Is_pc _ _ _ _) ?_; simp -implicitDefEqProofs only [go_sem, *, wrap_i64 (show -(9223372036854775808 : Int) ≤ (blocks - 1) by omega) (show (blocks - 1) < 9223372036854775808 by omega)])
    all_goals first | exact ((Ext.refl _).set' n_b1 _) | exact ⟨((Ext.refl _).set' n_b1 _), by first | (simp_all [stepOk]; done) | (simp_all [stepOk]; intros; omega)⟩
  by_cases h2 : kind = 2
  · subst h2
    simp -implicitDefEqProofs only [go_sem, hb_b1, wrap_i64 (show -(9223372036854775808 : Int) ≤ (blocks - 1) by omega) (show (blocks - 1) < 9223372036854775808 by omega)]
    repeat' first | (refine Br.of (fun hc => ?_) (fun hc => ?_) <;> simp -implicitDefEqProofs only [go_sem, *, wrap_i64 (show -(9223372036854775808 : Int) ≤ (blocks - 1) by omega) (show (blocks - 1) < 9223372036854775808 by omega)]) | (refine PC.use (l03Is_pc _ _ _ _) ?_; simp -implicitDefEqProofs only [go_sem, *, wrap_i64 (show -(9223372036854775808 : Int) ≤ (blocks - 1) by omega) (show (blocks - 1) < 9223372036854775808 by omega)])
    all_goals first | exact ((Ext.refl _).set' n_b1 _) | exact ⟨((Ext.refl _).set' n_b1 _), by first | (simp_all [stepOk]; done) | (simp_all [stepOk]; intros; omega)⟩
  by_cases h5 : kind = 5
  · subst h5
    simp -implicitDefEqProofs only [go_sem, hb_b1, wrap_i64 (show -(9223372036854775808 : Int) ≤ (blocks - 1) by omega) (show (blocks - 1) < 9223372036854775808 by omega)]
    repeat' first | (refine Br.of (fun hc => ?_) (fun hc => ?_) <;> simp -implicitDefEqProofs only [go_sem, *, wrap_i64 (show -(9223372036854775808 : Int) ≤ (blocks - 1) by omega) (show (blocks - 1) < 9223372036854775808 by omega)]) | (refine PC.use (l03Is_pc _ _ _ _) ?_; simp -implicitDefEqProofs only [go_sem, *, wrap_i64 (show -(9223372036854775808 : Int) ≤ (blocks - 1) by omega) (show (blocks - 1) < 9223372036854775808 by omega)])
    all_goals first | exact ((Ext.refl _).set' n_b1 _) | exact ⟨((Ext.refl _).set' n_b1 _), by first | (simp_all [stepOk]; done) | (simp_all [stepOk]; intros; omega)⟩
  by_cases h1 : kind = 1
  · subst h1
    simp -implicitDefEqProofs only [go_sem, hb_b1, wrap_i64 (show -(9223372036854775808 : Int) ≤ (blocks - 1) by omega) (show (blocks - 1) < 9223372036854775808 by omega)]
    repeat' first | (refine Br.of (fun hc => ?_) (fun hc => ?_) <;> simp -implicitDefEqProofs only [go_sem, *, wrap_i64 (show -(9223372036854775808 : Int) ≤ (blocks - 1) by omega) (show (blocks - 1) < 9223372036854775808 by omega)]) | (refine PC.use (l03Is_pc _ _ _ _) ?_; simp -implicitDefEqProofs only [go_sem, *, wrap_i64 (show -(9223372036854775808 : Int) ≤ (blocks - 1) by omega) (show (blocks - 1) < 9223372036854775808 by omega)])
    all_goals first | exact ((Ext.refl _).set' n_b1 _) | exact ⟨((Ext.refl _).set' n_b1 _), by first | (simp_all [stepOk]; done) | (simp_all [stepOk]; intros; omega)⟩
  · simp -implicitDefEqProofs only [go_sem, h1, h2, h3, h4, h5, hb_b1, wrap_i64 (show -(9223372036854775808 : Int) ≤ (blocks - 1) by omega) (show (blocks - 1) < 9223372036854775808 by omega)]
    refine ⟨((Ext.refl _).set' n_b1 _), dec_f ?_⟩
    unfold stepOk
    simp only
    omega
end Go.Proofs.YthjbhdmjfakfaaaGreatDoor
