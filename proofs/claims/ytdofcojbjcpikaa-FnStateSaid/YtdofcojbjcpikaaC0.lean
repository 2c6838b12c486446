/- A helper of this seat's claims (contracts of the functions): what it shows is shown for every input that its statements name, on no other condition. -/
import Derived.Test.YtdofcojbjcpikaaCA
import Derived.Test.YtdofcojbjcpikaaKD
set_option linter.unusedVariables false
set_option linter.unusedSimpArgs false
set_option maxRecDepth 100000
namespace Go.Proofs.Ytdofcojbjcpikaa
open Go.KH

/-! ## The helpers of the laws -/
/-- impl.within -/
def b_impl_within : C := (.seq (.ops [q 6 (.mv (.c (.bool false)))])
 (.seq (.ops [q 7 (.mv (.t 0)), q 8 (.mv (.t 1)), q 9 (.bin .geq (.t 7) (.t 8)), q 10 (.mv (.t 9)), qg 11 10 true (.mv (.t 0)), qg 12 10 true (.mv (.t 2)), qg 13 10 true (.bin .leq (.t 11) (.t 12)), q 14 (.pick (.t 10) (.t 13) (.c (.bool false))), q 6 (.mv (.t 14))])
 .ret))
theorem w_impl_within {args : List Value} {h : H} {Q : Value → H → Prop} (hl : args.length ≤ 15) (hk : wpc Try.prog b_impl_within (retw [.tmp 6] Q) (argsFr args) h) : AC Try.prog 40 args h Q :=
  AC.of_wpc mixedOrders Try.func40 (by kernel_rfl) (by kernel_rfl : prepF Try.prog Try.f40 = some ⟨15, [.tmp 6], b_impl_within⟩) hl hk

theorem within_pc (h : H) (n a b : Int) : PC Try.prog 40 [i64 n, i64 a, i64 b] h (.bool (decide (a ≤ n ∧ n ≤ b))) := by
  refine w_impl_within (by simp) ?_
  unfold b_impl_within
  simp -implicitDefEqProofs only [go_sem]
  repeat' (refine Br.of (fun hc => ?_) (fun hc => ?_) <;> simp -implicitDefEqProofs only [go_sem, hc])
  all_goals simp_all
/-- spec.l03Is -/
def b_spec_l03Is : C := (.seq (.ops [q 6 (.mv (.c (.bool false)))])
 (.seq (.ops [q 7 (.mv (.t 0)), q 8 (.mv (.t 1)), q 9 (.bin .geq (.t 7) (.t 8)), q 10 (.mv (.t 9)), qg 11 10 true (.mv (.t 0)), qg 12 10 true (.mv (.t 2)), qg 13 10 true (.bin .leq (.t 11) (.t 12)), q 14 (.pick (.t 10) (.t 13) (.c (.bool false))), q 6 (.mv (.t 14))])
 .ret))
theorem w_spec_l03Is {args : List Value} {h : H} {Q : Value → H → Prop} (hl : args.length ≤ 15) (hk : wpc Try.prog b_spec_l03Is (retw [.tmp 6] Q) (argsFr args) h) : AC Try.prog 31 args h Q :=
  AC.of_wpc mixedOrders Try.func31 (by kernel_rfl) (by kernel_rfl : prepF Try.prog Try.f31 = some ⟨15, [.tmp 6], b_spec_l03Is⟩) hl hk

theorem l03Is_pc (h : H) (n a b : Int) : PC Try.prog 31 [i64 n, i64 a, i64 b] h (.bool (decide (a ≤ n ∧ n ≤ b))) := by
  refine w_spec_l03Is (by simp) ?_
  unfold b_spec_l03Is
  simp -implicitDefEqProofs only [go_sem]
  repeat' (refine Br.of (fun hc => ?_) (fun hc => ?_) <;> simp -implicitDefEqProofs only [go_sem, hc])
  all_goals simp_all
end Go.Proofs.Ytdofcojbjcpikaa
