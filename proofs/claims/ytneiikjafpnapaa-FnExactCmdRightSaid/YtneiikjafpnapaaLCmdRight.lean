/- CmdRight of the program returns what CmdRight of the reference returns, for all arguments: the given statement, with no condition. -/
import Derived.Test.YtneiikjafpnapaaC14a
import Derived.Test.YtneiikjafpnapaaRows
import Derived.ProofKit
import Derived.ShutString
import Derived.ChangeOld
import Derived.Below
set_option linter.unusedVariables false
set_option linter.unusedSimpArgs false
set_option maxRecDepth 100000
namespace Go.Proofs.Ytneiikjafpnapaa
open Go.KH

/-- laws.FnExactCmdRight -/
def b_laws_FnExactCmdRight : C := (.seq (.ops [⟨(some 1), none, .box (.t 0)⟩, q 2 (.mv (.c (.bool false)))])
 (.seq (.ops [q 3 (.mv (.c (i64 1048576)))])
 (.seq (.ops [q 6 (.ld true 8 (.t 1)), q 7 (.mv (.t 3)), ⟨(some 8), none, .call (.c (.func (.func 31) #[] #[])) [(.t 6), (.t 7)]⟩, q 3 (.mv (.t 8))])
 (.seq (.seq (.ops [q 9 (.mv (.t 3)), q 10 (.bin .lss (.t 9) (.c (i64 0)))])
 (.cond (.t 10) (.seq (.ops [q 2 (.mv (.c (.bool true)))])
 .ret) .skip))
 (.seq (.ops [q 11 (.ld true 8 (.t 1)), ⟨(some 12), none, .call (.c (.func (.func 33) #[] #[])) [(.t 11)]⟩, ⟨(some 13), none, .call (.c (.func (.func 32) #[] #[])) [(.t 12)]⟩, q 4 (.mv (.t 13))])
 (.seq (.ops [q 14 (.ld true 8 (.t 1)), ⟨(some 15), none, .call (.c (.func (.func 33) #[] #[])) [(.t 14)]⟩, ⟨(some 16), none, .call (.c (.func (.func 34) #[] #[])) [(.t 15)]⟩, q 5 (.mv (.t 16))])
 (.seq (.seq (.ops [q 17 (.mv (.t 5)), q 18 (.mv (.t 4)), q 19 (.eqb true (.t 17) (.t 18))])
 (.cond (.t 19) (.seq (.ops [q 2 (.mv (.c (.bool false)))])
 .ret) .skip))
 (.seq (.ops [q 2 (.mv (.c (.bool true)))])
 .ret))))))))
theorem w_laws_FnExactCmdRight {args : List Value} {h : H} {Q : Value → H → Prop} (hl : args.length ≤ 20) (hk : wpc Try.prog b_laws_FnExactCmdRight (retw [.tmp 2] Q) (argsFr args) h) : AC Try.prog 8 args h Q :=
  AC.of_wpc mixedOrders Try.func8 (by kernel_rfl) (by kernel_rfl : prepF Try.prog Try.f8 = some ⟨20, [.tmp 2], b_laws_FnExactCmdRight⟩) hl hk

theorem cmdRight_walk {h : H} {c : UCmd} (hn : c.digest.length ≤ maxLen) (hn2 : c.step.data.length ≤ maxLen) : AC Try.prog 8 [.agg c.cells.toArray] h fun r _ => r = .bool true := by
  refine w_laws_FnExactCmdRight (by simp) ?_
  unfold b_laws_FnExactCmdRight
  simp -implicitDefEqProofs only [go_sem, ↓reduceIte, reduceCtorEq, Int.reduceEq, Int.reduceLT, Int.reduceLE, Nat.reduceEqDiff, Nat.reduceAdd, Nat.reduceMul, Nat.reduceLeDiff, Nat.reduceSub, Int.reduceNeg]
  intro b1 hb_b1 n_b1
  simp -implicitDefEqProofs only [go_sem, ↓reduceIte, reduceCtorEq, Int.reduceEq, Int.reduceLT, Int.reduceLE, Nat.reduceEqDiff, Nat.reduceAdd, Nat.reduceMul, Nat.reduceLeDiff, Nat.reduceSub, Int.reduceNeg, hb_b1]
  refine (szCmd_pc _ c hn hn2 (by omega)).use ?_
  simp -implicitDefEqProofs only [go_sem, ↓reduceIte, reduceCtorEq, Int.reduceEq, Int.reduceLT, Int.reduceLE, Nat.reduceEqDiff, Nat.reduceAdd, Nat.reduceMul, Nat.reduceLeDiff, Nat.reduceSub, Int.reduceNeg, hb_b1]
  refine Br.of (fun hc => ?_) (fun hc => ?_)
  · simp -implicitDefEqProofs only [go_sem, ↓reduceIte, reduceCtorEq, Int.reduceEq, Int.reduceLT, Int.reduceLE, Nat.reduceEqDiff, Nat.reduceAdd, Nat.reduceMul, Nat.reduceLeDiff, Nat.reduceSub, Int.reduceNeg, hc, hb_b1]
  · simp -implicitDefEqProofs only [go_sem, ↓reduceIte, reduceCtorEq, Int.reduceEq, Int.reduceLT, Int.reduceLE, Nat.reduceEqDiff, Nat.reduceAdd, Nat.reduceMul, Nat.reduceLeDiff, Nat.reduceSub, Int.reduceNeg, hc, hb_b1]
    refine (toCmd_pc _ c).use ?_
    simp -implicitDefEqProofs only [go_sem, ↓reduceIte, reduceCtorEq, Int.reduceEq, Int.reduceLT, Int.reduceLE, Nat.reduceEqDiff, Nat.reduceAdd, Nat.reduceMul, Nat.reduceLeDiff, Nat.reduceSub, Int.reduceNeg, hb_b1]
    refine (specCmdRight_pc _ c).use ?_
    simp -implicitDefEqProofs only [go_sem, ↓reduceIte, reduceCtorEq, Int.reduceEq, Int.reduceLT, Int.reduceLE, Nat.reduceEqDiff, Nat.reduceAdd, Nat.reduceMul, Nat.reduceLeDiff, Nat.reduceSub, Int.reduceNeg, hb_b1]
    refine (toCmd_pc _ c).use ?_
    simp -implicitDefEqProofs only [go_sem, ↓reduceIte, reduceCtorEq, Int.reduceEq, Int.reduceLT, Int.reduceLE, Nat.reduceEqDiff, Nat.reduceAdd, Nat.reduceMul, Nat.reduceLeDiff, Nat.reduceSub, Int.reduceNeg, hb_b1]
    refine (implCmdRight_pc _ c).use ?_
    simp -implicitDefEqProofs only [go_sem, ↓reduceIte, reduceCtorEq, Int.reduceEq, Int.reduceLT, Int.reduceLE, Nat.reduceEqDiff, Nat.reduceAdd, Nat.reduceMul, Nat.reduceLeDiff, Nat.reduceSub, Int.reduceNeg, hb_b1]
theorem cmdRight_law (h : H) (args : List Value) (ha : okAs h [.agg [.f (.int .i64), .f (.int .i64), .f (.int .i64), .f .str, .f (.int .i64), .f (.int .i64), .f (.int .i64), .f .str]] args) : AC Try.prog 8 args h fun r _ => r = .bool true := by
  obtain ⟨v, _, rfl, ⟨cs, rfl, q0⟩, a0⟩ := okAs_cons ha
  obtain rfl := okAs_nil a0
  obtain ⟨c, rfl, k1, k2⟩ := cmd_of q0
  exact cmdRight_walk k1 k2
section
open Go.ChangeShapes Go.WideShapes Go.ChangeAt Go.RowKit
theorem fnExactCmdRight_lifted (os : Os) (started : os.Started) (H' : Type) (enc : TypeId × Value → H') : ReturnsInHanded {} Try.checked os 8 .any (Rows.fnExactCmdRightSpec.pre6 enc Try.prog Try.f8 Rows.fnExactCmdRightRow.domain false) (Rows.fnExactCmdRightSpec.post enc Try.prog Try.f8 false true false false) :=
  law_row (Ck := Try.checked) [.agg [.f (.int .i64), .f (.int .i64), .f (.int .i64), .f .str, .f (.int .i64), .f (.int .i64), .f (.int .i64), .f .str]] (by kernel_rfl) started (by kernel_rfl) Try.func8 (ChangeSpec.witness6 (enc := enc) (C := Try.checked) false ⟨#[], #[.agg #[.int .i64 0, .int .i64 0, .int .i64 0, .string ByteArray.empty, .int .i64 0, .int .i64 0, .int .i64 0, .string ByteArray.empty]], []⟩ 8 (by kernel_rfl) (by kernel_rfl) (by kernel_rfl) (by kernel_rfl))
    (by kernel_rfl) (by kernel_rfl) rfl (by kernel_rfl : Try.prog.underlying (Try.f8.resultTypes.getD 0 0) = some .bool) rfl
    (fun ds hd => by
      rw [show Try.f8.params.toList.length = 1 by kernel_rfl] at hd
      match ds, hd with
      | [_], _ => rfl)
    (by kernel_rfl) cmdRight_law
theorem fnExactCmdRight_holds : Rows.FnExactCmdRightSaid :=
  OpenClaim.holds_of_wide 8 Try.f8 rfl rfl rfl rfl rfl rfl rfl ⟨rfl, rfl, rfl, rfl, rfl⟩ rfl rfl rfl rfl rfl (by kernel_rfl) Try.func8 (by kernel_rfl)
    (of_decide_eq_true (by kernel_rfl)) (by unfold Func.isWrapper; first | (rw [if_pos (by decide +kernel)]; kernel_rfl) | (rw [if_neg (by decide +kernel)]; exact ⟨rfl, rfl⟩))
    (fun os started H' enc _ => fnExactCmdRight_lifted os started H' enc)
end
end Go.Proofs.Ytneiikjafpnapaa
