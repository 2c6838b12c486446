/- A helper of this seat's claims (contracts of the functions): what it shows is shown for every input that its statements name, on no other condition. -/
import Derived.Test.YtiokibikhanfcaaGreatCA
import Derived.Test.YtiokibikhanfcaaGreatKD
set_option linter.unusedVariables false
set_option linter.unusedSimpArgs false
set_option maxRecDepth 100000
namespace Go.Proofs.YtiokibikhanfcaaGreat
open Go.KH

/-! ## The helpers of the laws -/
/-- laws.eqStep -/
def b_laws_eqStep : C := (.seq (.ops [⟨(some 2), none, .box (.t 0)⟩, ⟨(some 3), none, .box (.t 1)⟩, q 4 (.mv (.c (.bool false)))])
 (.seq (.seq (.ops [q 5 (.fld 0 (.t 2)), q 6 (.ld false 1 (.t 5)), q 7 (.fld 0 (.t 3)), q 8 (.ld false 1 (.t 7)), q 9 (.bin .neq (.t 6) (.t 8))])
 (.cond (.t 9) (.seq (.ops [q 4 (.mv (.c (.bool false)))])
 .ret) .skip))
 (.seq (.seq (.ops [q 10 (.fld 1 (.t 2)), q 11 (.ld false 1 (.t 10)), q 12 (.fld 1 (.t 3)), q 13 (.ld false 1 (.t 12)), q 14 (.bin .neq (.t 11) (.t 13))])
 (.cond (.t 14) (.seq (.ops [q 4 (.mv (.c (.bool false)))])
 .ret) .skip))
 (.seq (.seq (.ops [q 15 (.fld 2 (.t 2)), q 16 (.ld false 1 (.t 15)), q 17 (.fld 2 (.t 3)), q 18 (.ld false 1 (.t 17)), q 19 (.bin .neq (.t 16) (.t 18))])
 (.cond (.t 19) (.seq (.ops [q 4 (.mv (.c (.bool false)))])
 .ret) .skip))
 (.seq (.seq (.ops [q 20 (.fld 3 (.t 2)), q 21 (.ld false 1 (.t 20)), q 22 (.fld 3 (.t 3)), q 23 (.ld false 1 (.t 22)), q 24 (.bin .neq (.t 21) (.t 23))])
 (.cond (.t 24) (.seq (.ops [q 4 (.mv (.c (.bool false)))])
 .ret) .skip))
 (.seq (.ops [q 4 (.mv (.c (.bool true)))])
 .ret))))))
theorem w_laws_eqStep {args : List Value} {h : H} {Q : Value → H → Prop} (hl : args.length ≤ 25) (hk : wpc Tryz.prog b_laws_eqStep (retw [.tmp 4] Q) (argsFr args) h) : AC Tryz.prog 198 args h Q :=
  AC.of_wpc mixedOrders Tryz.func198 (by kernel_rfl) (by kernel_rfl : prepF Tryz.prog Tryz.f198 = some ⟨25, [.tmp 4], b_laws_eqStep⟩) hl hk

theorem eqStep_pc (h : H) (a b : UStep) : PC Tryz.prog 198 [.agg a.cells.toArray, .agg b.cells.toArray] h (.bool (decide (a = b))) := by
  obtain ⟨x1, x2, x3, x4⟩ := a
  obtain ⟨u1, u2, u3, u4⟩ := b
  refine PC_of ?_
  refine w_laws_eqStep (by simp) ?_
  unfold b_laws_eqStep
  simp -implicitDefEqProofs only [go_sem]
  intro b1 hb_b1 n_b1
  simp -implicitDefEqProofs only [go_sem, hb_b1]
  intro b2 hb_b2 m0_b2
  obtain ⟨z_b2_b1, y_b2_b1, n_b2⟩ := fne m0_b2
  simp only [H.set_base] at hb_b2
  simp -implicitDefEqProofs only [go_sem, hb_b1, hb_b2, z_b2_b1, y_b2_b1]
  repeat' (refine Br.of (fun hc => ?_) (fun hc => ?_) <;> simp -implicitDefEqProofs only [go_sem, hc, hb_b1, hb_b2, z_b2_b1, y_b2_b1])
  all_goals exact ⟨(((Ext.refl _).set' n_b1 _).set' n_b2 _), by simp_all⟩
/-- laws.eqStepS -/
def b_laws_eqStepS : C := (.seq (.ops [q 4 (.mv (.c (.bool false)))])
 (.seq (.seq (.ops [q 6 (.mv (.t 0)), q 7 (.len (.t 6)), q 8 (.mv (.t 1)), q 9 (.len (.t 8)), q 10 (.bin .neq (.t 7) (.t 9))])
 (.cond (.t 10) (.seq (.ops [q 4 (.mv (.c (.bool false)))])
 .ret) .skip))
 (.seq (.seq (.ops [q 5 (.mv (.c (i64 0)))])
 (.block 0 (.loop (.seq (.seq (.ops [q 11 (.mv (.t 5)), q 12 (.mv (.t 0)), q 13 (.len (.t 12)), q 14 (.bin .lss (.t 11) (.t 13))])
 (.cond (.t 14) .skip (.exit 0)))
 (.seq (.block 1 (.seq (.dops true (.tk (q 17 (.mv (.t 0))) (.tk (q 18 (.mv (.t 5))) (.tk (q 19 (.idx 4 (.t 17) (.t 18))) (.tk (q 20 (.ld true 4 (.t 19))) (.tk (q 21 (.mv (.t 1))) (.tk (q 22 (.mv (.t 5))) (.tk (q 23 (.idx 4 (.t 21) (.t 22))) (.tk (q 24 (.ld true 4 (.t 23))) (.sq (⟨(some 25), none, .call (.c (.func (.func 198) #[] #[])) [(.t 20), (.t 24)]⟩) (.tk (q 26 (.un .not (.t 25))) .nil)))))))))))
 (.cond (.t 26) (.seq (.ops [q 4 (.mv (.c (.bool false)))])
 .ret) .skip)))
 (.ops [q 15 (.mv (.t 5)), q 16 (.bin .add (.t 15) (.c (i64 1))), q 5 (.mv (.t 16))]))))))
 (.seq (.ops [q 4 (.mv (.c (.bool true)))])
 .ret))))
theorem w_laws_eqStepS {args : List Value} {h : H} {Q : Value → H → Prop} (hl : args.length ≤ 27) (hk : wpc Tryz.prog b_laws_eqStepS (retw [.tmp 4] Q) (argsFr args) h) : AC Tryz.prog 136 args h Q :=
  AC.of_wpc mixedOrders Tryz.func136 (by kernel_rfl) (by kernel_rfl : prepF Tryz.prog Tryz.f136 = some ⟨27, [.tmp 4], b_laws_eqStepS⟩) hl hk

theorem eqStepS_pc {h : H} {v1 v2 : Value} {l1 l2 : List UStep} (hv : Sl h v1 4 (l1.map UStep.cells)) (hu : Sl h v2 4 (l2.map UStep.cells)) (hn : l1.length ≤ maxLen) : PC Tryz.prog 136 [v1, v2] h (.bool (decide (l1 = l2))) :=
  w_laws_eqStepS (by simp) (eq_wpc hv hu hn (fun a b _ _ => eqStep_pc h a b) ⟨rfl, rfl⟩)
/-- impl.within -/
def b_impl_within : C := (.seq (.ops [q 6 (.mv (.c (.bool false)))])
 (.seq (.ops [q 7 (.mv (.t 0)), q 8 (.mv (.t 1)), q 9 (.bin .geq (.t 7) (.t 8)), q 10 (.mv (.t 9)), qg 11 10 true (.mv (.t 0)), qg 12 10 true (.mv (.t 2)), qg 13 10 true (.bin .leq (.t 11) (.t 12)), q 14 (.pick (.t 10) (.t 13) (.c (.bool false))), q 6 (.mv (.t 14))])
 .ret))
theorem w_impl_within {args : List Value} {h : H} {Q : Value → H → Prop} (hl : args.length ≤ 15) (hk : wpc Tryz.prog b_impl_within (retw [.tmp 6] Q) (argsFr args) h) : AC Tryz.prog 148 args h Q :=
  AC.of_wpc mixedOrders Tryz.func148 (by kernel_rfl) (by kernel_rfl : prepF Tryz.prog Tryz.f148 = some ⟨15, [.tmp 6], b_impl_within⟩) hl hk

theorem within_pc (h : H) (n a b : Int) : PC Tryz.prog 148 [i64 n, i64 a, i64 b] h (.bool (decide (a ≤ n ∧ n ≤ b))) := by
  refine w_impl_within (by simp) ?_
  unfold b_impl_within
  simp -implicitDefEqProofs only [go_sem]
  repeat' (refine Br.of (fun hc => ?_) (fun hc => ?_) <;> simp -implicitDefEqProofs only [go_sem, hc])
  all_goals simp_all
/-- impl.size[impl.Move] -/
def b_impl_size_impl_Move : C := (.seq (.ops [q 2 (.mv (.c (i64 0)))])
 (.seq (.ops [q 3 (.mv (.t 0)), q 4 (.len (.t 3)), q 2 (.mv (.t 4))])
 .ret))
theorem w_impl_size_impl_Move {args : List Value} {h : H} {Q : Value → H → Prop} (hl : args.length ≤ 5) (hk : wpc Tryz.prog b_impl_size_impl_Move (retw [.tmp 2] Q) (argsFr args) h) : AC Tryz.prog 98 args h Q :=
  AC.of_wpc mixedOrders Tryz.func98 (by kernel_rfl) (by kernel_rfl : prepF Tryz.prog Tryz.f98 = some ⟨5, [.tmp 2], b_impl_size_impl_Move⟩) hl hk

theorem sizeMove_pc {h : H} {v : Value} {rows : List (List Value)} {w : Nat} (hv : Sl h v w rows) : PC Tryz.prog 98 [v] h (i64 rows.length) := by
  obtain ⟨a, c, b, o, rfl, hcap, h2, h3⟩ := hv
  refine w_impl_size_impl_Move (by simp) ?_
  unfold b_impl_size_impl_Move
  simp -implicitDefEqProofs only [go_sem]
/-- spec.l03Is -/
def b_spec_l03Is : C := (.seq (.ops [q 6 (.mv (.c (.bool false)))])
 (.seq (.ops [q 7 (.mv (.t 0)), q 8 (.mv (.t 1)), q 9 (.bin .geq (.t 7) (.t 8)), q 10 (.mv (.t 9)), qg 11 10 true (.mv (.t 0)), qg 12 10 true (.mv (.t 2)), qg 13 10 true (.bin .leq (.t 11) (.t 12)), q 14 (.pick (.t 10) (.t 13) (.c (.bool false))), q 6 (.mv (.t 14))])
 .ret))
theorem w_spec_l03Is {args : List Value} {h : H} {Q : Value → H → Prop} (hl : args.length ≤ 15) (hk : wpc Tryz.prog b_spec_l03Is (retw [.tmp 6] Q) (argsFr args) h) : AC Tryz.prog 76 args h Q :=
  AC.of_wpc mixedOrders Tryz.func76 (by kernel_rfl) (by kernel_rfl : prepF Tryz.prog Tryz.f76 = some ⟨15, [.tmp 6], b_spec_l03Is⟩) hl hk

theorem l03Is_pc (h : H) (n a b : Int) : PC Tryz.prog 76 [i64 n, i64 a, i64 b] h (.bool (decide (a ≤ n ∧ n ≤ b))) := by
  refine w_spec_l03Is (by simp) ?_
  unfold b_spec_l03Is
  simp -implicitDefEqProofs only [go_sem]
  repeat' (refine Br.of (fun hc => ?_) (fun hc => ?_) <;> simp -implicitDefEqProofs only [go_sem, hc])
  all_goals simp_all
end Go.Proofs.YtiokibikhanfcaaGreat
