/- RecordBytes of the program returns what RecordBytes of the reference returns, for all arguments: the given statement, with no condition. -/
import Derived.Test.YtneiikjafpnapaaC09b
import Derived.Test.YtneiikjafpnapaaRows
import Derived.ProofKit
import Derived.ShutString
import Derived.ChangeOld
import Derived.Below
set_option linter.unusedVariables false
set_option linter.unusedSimpArgs false
set_option maxRecDepth 100000
namespace Go.Proofs.Ytneiikjafpnapaa
open Go.KH

/-- laws.FnExactRecordBytes -/
def b_laws_FnExactRecordBytes : C := (.seq (.ops [⟨(some 3), none, .box (.t 1)⟩, q 4 (.mv (.c (.bool false)))])
 (.seq (.ops [q 5 (.mv (.c (i64 1048576)))])
 (.seq (.ops [q 8 (.ld true 4 (.t 3)), q 9 (.mv (.t 5)), ⟨(some 10), none, .call (.c (.func (.func 40) #[] #[])) [(.t 8), (.t 9)]⟩, q 5 (.mv (.t 10))])
 (.seq (.seq (.ops [q 11 (.mv (.t 5)), q 12 (.bin .lss (.t 11) (.c (i64 0)))])
 (.cond (.t 12) (.seq (.ops [q 4 (.mv (.c (.bool true)))])
 .ret) .skip))
 (.seq (.ops [q 13 (.mv (.t 0)), q 14 (.ld true 4 (.t 3)), ⟨(some 15), none, .call (.c (.func (.func 42) #[] #[])) [(.t 14)]⟩, ⟨(some 16), none, .call (.c (.func (.func 41) #[] #[])) [(.t 13), (.t 15)]⟩, q 6 (.mv (.t 16))])
 (.seq (.ops [q 17 (.mv (.t 0)), q 18 (.ld true 4 (.t 3)), ⟨(some 19), none, .call (.c (.func (.func 42) #[] #[])) [(.t 18)]⟩, ⟨(some 20), none, .call (.c (.func (.func 43) #[] #[])) [(.t 17), (.t 19)]⟩, q 7 (.mv (.t 20))])
 (.seq (.seq (.ops [q 21 (.mv (.t 7)), q 22 (.mv (.t 6)), q 23 (.bin .neq (.t 21) (.t 22))])
 (.cond (.t 23) (.seq (.ops [q 4 (.mv (.c (.bool false)))])
 .ret) .skip))
 (.seq (.ops [q 4 (.mv (.c (.bool true)))])
 .ret))))))))
theorem w_laws_FnExactRecordBytes {args : List Value} {h : H} {Q : Value → H → Prop} (hl : args.length ≤ 24) (hk : wpc Try.prog b_laws_FnExactRecordBytes (retw [.tmp 4] Q) (argsFr args) h) : AC Try.prog 10 args h Q :=
  AC.of_wpc mixedOrders Try.func10 (by kernel_rfl) (by kernel_rfl : prepF Try.prog Try.f10 = some ⟨24, [.tmp 4], b_laws_FnExactRecordBytes⟩) hl hk

theorem recordBytes_walk {h : H} {n : Int} {s : UStep} (hn : in64 n) (hs : s.ok) : AC Try.prog 10 [i64 n, .agg s.cells.toArray] h fun r _ => r = .bool true := by
  refine w_laws_FnExactRecordBytes (by simp) ?_
  unfold b_laws_FnExactRecordBytes
  simp -implicitDefEqProofs only [go_sem, ↓reduceIte, reduceCtorEq, Int.reduceEq, Int.reduceLT, Int.reduceLE, Nat.reduceEqDiff, Nat.reduceAdd, Nat.reduceMul, Nat.reduceLeDiff, Nat.reduceSub, Int.reduceNeg]
  intro b1 hb_b1 n_b1
  simp -implicitDefEqProofs only [go_sem, ↓reduceIte, reduceCtorEq, Int.reduceEq, Int.reduceLT, Int.reduceLE, Nat.reduceEqDiff, Nat.reduceAdd, Nat.reduceMul, Nat.reduceLeDiff, Nat.reduceSub, Int.reduceNeg, hb_b1]
  refine (szStep_pc _ s hs.2.2.2 (by omega)).use ?_
  simp -implicitDefEqProofs only [go_sem, ↓reduceIte, reduceCtorEq, Int.reduceEq, Int.reduceLT, Int.reduceLE, Nat.reduceEqDiff, Nat.reduceAdd, Nat.reduceMul, Nat.reduceLeDiff, Nat.reduceSub, Int.reduceNeg, hb_b1]
  refine Br.of (fun hc => ?_) (fun hc => ?_)
  · simp -implicitDefEqProofs only [go_sem, ↓reduceIte, reduceCtorEq, Int.reduceEq, Int.reduceLT, Int.reduceLE, Nat.reduceEqDiff, Nat.reduceAdd, Nat.reduceMul, Nat.reduceLeDiff, Nat.reduceSub, Int.reduceNeg, hc, hb_b1]
  · simp -implicitDefEqProofs only [go_sem, ↓reduceIte, reduceCtorEq, Int.reduceEq, Int.reduceLT, Int.reduceLE, Nat.reduceEqDiff, Nat.reduceAdd, Nat.reduceMul, Nat.reduceLeDiff, Nat.reduceSub, Int.reduceNeg, hc, hb_b1]
    refine (toStep_pc _ s).use ?_
    simp -implicitDefEqProofs only [go_sem, ↓reduceIte, reduceCtorEq, Int.reduceEq, Int.reduceLT, Int.reduceLE, Nat.reduceEqDiff, Nat.reduceAdd, Nat.reduceMul, Nat.reduceLeDiff, Nat.reduceSub, Int.reduceNeg, hb_b1]
    refine (specRecordBytes_pc _ _ s hn hs).use ?_
    simp -implicitDefEqProofs only [go_sem, ↓reduceIte, reduceCtorEq, Int.reduceEq, Int.reduceLT, Int.reduceLE, Nat.reduceEqDiff, Nat.reduceAdd, Nat.reduceMul, Nat.reduceLeDiff, Nat.reduceSub, Int.reduceNeg, hb_b1]
    refine (toStep_pc _ s).use ?_
    simp -implicitDefEqProofs only [go_sem, ↓reduceIte, reduceCtorEq, Int.reduceEq, Int.reduceLT, Int.reduceLE, Nat.reduceEqDiff, Nat.reduceAdd, Nat.reduceMul, Nat.reduceLeDiff, Nat.reduceSub, Int.reduceNeg, hb_b1]
    refine (implRecordBytes_pc _ _ s hn hs).use ?_
    simp -implicitDefEqProofs only [go_sem, ↓reduceIte, reduceCtorEq, Int.reduceEq, Int.reduceLT, Int.reduceLE, Nat.reduceEqDiff, Nat.reduceAdd, Nat.reduceMul, Nat.reduceLeDiff, Nat.reduceSub, Int.reduceNeg, hb_b1]
theorem recordBytes_law (h : H) (args : List Value) (ha : okAs h [.one (.f (.int .i64)), .agg [.f (.int .i64), .f (.int .i64), .f (.int .i64), .f .str]] args) : AC Try.prog 10 args h fun r _ => r = .bool true := by
  obtain ⟨_, _, rfl, q0, a0⟩ := okAs_cons ha
  obtain ⟨_, _, rfl, ⟨cs, rfl, q1⟩, a1⟩ := okAs_cons a0
  obtain rfl := okAs_nil a1
  obtain ⟨n, rfl, hn⟩ := okF_i q0
  obtain ⟨s, rfl, hs⟩ := step_of q1
  exact recordBytes_walk hn hs
section
open Go.ChangeShapes Go.WideShapes Go.ChangeAt Go.RowKit
theorem fnExactRecordBytes_lifted (os : Os) (started : os.Started) (H' : Type) (enc : TypeId × Value → H') : ReturnsInHanded {} Try.checked os 10 .any (Rows.fnExactRecordBytesSpec.pre6 enc Try.prog Try.f10 Rows.fnExactRecordBytesRow.domain false) (Rows.fnExactRecordBytesSpec.post enc Try.prog Try.f10 false true false false) :=
  law_row (Ck := Try.checked) [.one (.f (.int .i64)), .agg [.f (.int .i64), .f (.int .i64), .f (.int .i64), .f .str]] (by kernel_rfl) started (by kernel_rfl) Try.func10 (ChangeSpec.witness6 (enc := enc) (C := Try.checked) false ⟨#[], #[.int .i64 0, .agg #[.int .i64 0, .int .i64 0, .int .i64 0, .string ByteArray.empty]], []⟩ 8 (by kernel_rfl) (by kernel_rfl) (by kernel_rfl) (by kernel_rfl))
    (by kernel_rfl) (by kernel_rfl) rfl (by kernel_rfl : Try.prog.underlying (Try.f10.resultTypes.getD 0 0) = some .bool) rfl
    (fun ds hd => by
      rw [show Try.f10.params.toList.length = 2 by kernel_rfl] at hd
      match ds, hd with
      | [_, _], _ => rfl)
    (by kernel_rfl) recordBytes_law
theorem fnExactRecordBytes_holds : Rows.FnExactRecordBytesSaid :=
  OpenClaim.holds_of_wide 10 Try.f10 rfl rfl rfl rfl rfl rfl rfl ⟨rfl, rfl, rfl, rfl, rfl⟩ rfl rfl rfl rfl rfl (by kernel_rfl) Try.func10 (by kernel_rfl)
    (of_decide_eq_true (by kernel_rfl)) (by unfold Func.isWrapper; first | (rw [if_pos (by decide +kernel)]; kernel_rfl) | (rw [if_neg (by decide +kernel)]; exact ⟨rfl, rfl⟩))
    (fun os started H' enc _ => fnExactRecordBytes_lifted os started H' enc)
end
end Go.Proofs.Ytneiikjafpnapaa
