/- A helper of this seat's claims (contracts of the functions): what it shows is shown for every input that its statements name, on no other condition. -/
import Derived.Test.YtiokibikhanfcaaGreatCA
import Derived.Test.YtiokibikhanfcaaGreatKD
set_option linter.unusedVariables false
set_option linter.unusedSimpArgs false
set_option maxRecDepth 100000
namespace Go.Proofs.YtiokibikhanfcaaGreat
open Go.KH

/-! ## The helpers of the laws -/
/-- impl.within -/
def b_impl_within : C := (.seq (.ops [q 6 (.mv (.c (.bool false)))])
 (.seq (.ops [q 7 (.mv (.t 0)), q 8 (.mv (.t 1)), q 9 (.bin .geq (.t 7) (.t 8)), q 10 (.mv (.t 9)), qg 11 10 true (.mv (.t 0)), qg 12 10 true (.mv (.t 2)), qg 13 10 true (.bin .leq (.t 11) (.t 12)), q 14 (.pick (.t 10) (.t 13) (.c (.bool false))), q 6 (.mv (.t 14))])
 .ret))
theorem w_impl_within {args : List Value} {h : H} {Q : Value → H → Prop} (hl : args.length ≤ 15) (hk : wpc Tryz.prog b_impl_within (retw [.tmp 6] Q) (argsFr args) h) : AC Tryz.prog 148 args h Q :=
  AC.of_wpc mixedOrders Tryz.func148 (by kernel_rfl) (by kernel_rfl : prepF Tryz.prog Tryz.f148 = some ⟨15, [.tmp 6], b_impl_within⟩) hl hk

theorem within_pc (h : H) (n a b : Int) : PC Tryz.prog 148 [i64 n, i64 a, i64 b] h (.bool (decide (a ≤ n ∧ n ≤ b))) := by
  refine w_impl_within (by simp) ?_
  unfold b_impl_within
  simp -implicitDefEqProofs only [go_sem]
  repeat' (refine Br.of (fun hc => ?_) (fun hc => ?_) <;> simp -implicitDefEqProofs only [go_sem, hc])
  all_goals simp_all
/-- impl.size[impl.Move] -/
def b_impl_size_impl_Move : C := (.seq (.ops [q 2 (.mv (.c (i64 0)))])
 (.seq (.ops [q 3 (.mv (.t 0)), q 4 (.len (.t 3)), q 2 (.mv (.t 4))])
 .ret))
theorem w_impl_size_impl_Move {args : List Value} {h : H} {Q : Value → H → Prop} (hl : args.length ≤ 5) (hk : wpc Tryz.prog b_impl_size_impl_Move (retw [.tmp 2] Q) (argsFr args) h) : AC Tryz.prog 98 args h Q :=
  AC.of_wpc mixedOrders Tryz.func98 (by kernel_rfl) (by kernel_rfl : prepF Tryz.prog Tryz.f98 = some ⟨5, [.tmp 2], b_impl_size_impl_Move⟩) hl hk

theorem sizeMove_pc {h : H} {v : Value} {rows : List (List Value)} {w : Nat} (hv : Sl h v w rows) : PC Tryz.prog 98 [v] h (i64 rows.length) := by
  obtain ⟨a, c, b, o, rfl, hcap, h2, h3⟩ := hv
  refine w_impl_size_impl_Move (by simp) ?_
  unfold b_impl_size_impl_Move
  simp -implicitDefEqProofs only [go_sem]
/-- spec.l03Is -/
def b_spec_l03Is : C := (.seq (.ops [q 6 (.mv (.c (.bool false)))])
 (.seq (.ops [q 7 (.mv (.t 0)), q 8 (.mv (.t 1)), q 9 (.bin .geq (.t 7) (.t 8)), q 10 (.mv (.t 9)), qg 11 10 true (.mv (.t 0)), qg 12 10 true (.mv (.t 2)), qg 13 10 true (.bin .leq (.t 11) (.t 12)), q 14 (.pick (.t 10) (.t 13) (.c (.bool false))), q 6 (.mv (.t 14))])
 .ret))
theorem w_spec_l03Is {args : List Value} {h : H} {Q : Value → H → Prop} (hl : args.length ≤ 15) (hk : wpc Tryz.prog b_spec_l03Is (retw [.tmp 6] Q) (argsFr args) h) : AC Tryz.prog 76 args h Q :=
  AC.of_wpc mixedOrders Tryz.func76 (by kernel_rfl) (by kernel_rfl : prepF Tryz.prog Tryz.f76 = some ⟨15, [.tmp 6], b_spec_l03Is⟩) hl hk

theorem l03Is_pc (h : H) (n a b : Int) : PC Tryz.prog 76 [i64 n, i64 a, i64 b] h (.bool (decide (a ≤ n ∧ n ≤ b))) := by
  refine w_spec_l03Is (by simp) ?_
  unfold b_spec_l03Is
  simp -implicitDefEqProofs only [go_sem]
  repeat' (refine Br.of (fun hc => ?_) (fun hc => ?_) <;> simp -implicitDefEqProofs only [go_sem, hc])
  all_goals simp_all
end Go.Proofs.YtiokibikhanfcaaGreat
