/- RecordRead of the program returns what RecordRead of the reference returns, for all arguments: the given statement, with no condition. -/
import Derived.Test.YtjgonndohjlhlaaC09s
import Derived.Test.YtjgonndohjlhlaaRows
import Derived.ProofKit
import Derived.ShutString
import Derived.ChangeOld
import Derived.Below
set_option linter.unusedVariables false
set_option linter.unusedSimpArgs false
set_option maxRecDepth 100000
namespace Go.Proofs.Ytjgonndohjlhlaa
open Go.KH

/-- laws.eqStepOut -/
def b_laws_eqStepOut : C := (.seq (.ops [⟨(some 2), none, .box (.t 0)⟩, ⟨(some 3), none, .box (.t 1)⟩, q 4 (.mv (.c (.bool false)))])
 (.seq (.seq (.ops [q 5 (.fld 0 (.t 2)), q 6 (.ld true 4 (.t 5)), q 7 (.fld 0 (.t 3)), q 8 (.ld true 4 (.t 7)), ⟨(some 9), none, .call (.c (.func (.func 80) #[] #[])) [(.t 6), (.t 8)]⟩, q 10 (.un .not (.t 9))])
 (.cond (.t 10) (.seq (.ops [q 4 (.mv (.c (.bool false)))])
 .ret) .skip))
 (.seq (.seq (.ops [q 11 (.fld 4 (.t 2)), q 12 (.ld false 1 (.t 11)), q 13 (.fld 4 (.t 3)), q 14 (.ld false 1 (.t 13)), q 15 (.bin .neq (.t 12) (.t 14))])
 (.cond (.t 15) (.seq (.ops [q 4 (.mv (.c (.bool false)))])
 .ret) .skip))
 (.seq (.ops [q 4 (.mv (.c (.bool true)))])
 .ret))))
theorem w_laws_eqStepOut {args : List Value} {h : H} {Q : Value → H → Prop} (hl : args.length ≤ 16) (hk : wpc Try.prog b_laws_eqStepOut (retw [.tmp 4] Q) (argsFr args) h) : AC Try.prog 17 args h Q :=
  AC.of_wpc mixedOrders Try.func17 (by kernel_rfl) (by kernel_rfl : prepF Try.prog Try.f17 = some ⟨16, [.tmp 4], b_laws_eqStepOut⟩) hl hk

theorem eqStepOut_pc (h : H) (a b : UStep × Int) : PC Try.prog 17 [.agg (outC a).toArray, .agg (outC b).toArray] h (.bool (decide (a = b))) := by
  obtain ⟨⟨x1, x2, x3, x4⟩, x5⟩ := a
  obtain ⟨⟨u1, u2, u3, u4⟩, u5⟩ := b
  refine PC_of ?_
  refine w_laws_eqStepOut (by simp) ?_
  unfold b_laws_eqStepOut
  simp -implicitDefEqProofs only [go_sem, ↓reduceIte, reduceCtorEq, Int.reduceEq, Int.reduceLT, Int.reduceLE, Nat.reduceEqDiff, Nat.reduceAdd, Nat.reduceMul, Nat.reduceLeDiff, Nat.reduceSub, Int.reduceNeg]
  intro b1 hb_b1 n_b1
  simp -implicitDefEqProofs only [go_sem, ↓reduceIte, reduceCtorEq, Int.reduceEq, Int.reduceLT, Int.reduceLE, Nat.reduceEqDiff, Nat.reduceAdd, Nat.reduceMul, Nat.reduceLeDiff, Nat.reduceSub, Int.reduceNeg, hb_b1]
  intro b2 hb_b2 m0_b2
  obtain ⟨z_b2_b1, y_b2_b1, n_b2⟩ := fne m0_b2
  simp only [H.set_base] at hb_b2
  simp -implicitDefEqProofs only [go_sem, ↓reduceIte, reduceCtorEq, Int.reduceEq, Int.reduceLT, Int.reduceLE, Nat.reduceEqDiff, Nat.reduceAdd, Nat.reduceMul, Nat.reduceLeDiff, Nat.reduceSub, Int.reduceNeg, hb_b1, hb_b2, z_b2_b1, y_b2_b1]
  refine (eqStep_pc _ ⟨x1, x2, x3, x4⟩ ⟨u1, u2, u3, u4⟩).use ?_
  simp -implicitDefEqProofs only [go_sem, ↓reduceIte, reduceCtorEq, Int.reduceEq, Int.reduceLT, Int.reduceLE, Nat.reduceEqDiff, Nat.reduceAdd, Nat.reduceMul, Nat.reduceLeDiff, Nat.reduceSub, Int.reduceNeg, hb_b1, hb_b2, z_b2_b1, y_b2_b1]
  repeat' (refine Br.of (fun hc => ?_) (fun hc => ?_) <;> simp -implicitDefEqProofs only [go_sem, ↓reduceIte, reduceCtorEq, Int.reduceEq, Int.reduceLT, Int.reduceLE, Nat.reduceEqDiff, Nat.reduceAdd, Nat.reduceMul, Nat.reduceLeDiff, Nat.reduceSub, Int.reduceNeg, hc, hb_b1, hb_b2, z_b2_b1, y_b2_b1])
  all_goals exact ⟨(((Ext.refl _).set' n_b1 _).set' n_b2 _), by simp_all⟩
/-- laws.FnExactRecordRead -/
def b_laws_FnExactRecordRead : C := (.seq (.ops [q 4 (.mv (.c (.bool false)))])
 (.seq (.seq (.ops [q 7 (.mv (.t 0)), q 8 (.slen (.t 7)), q 9 (.bin .gtr (.t 8) (.c (i64 1048576)))])
 (.cond (.t 9) (.seq (.ops [q 4 (.mv (.c (.bool true)))])
 .ret) .skip))
 (.seq (.ops [q 10 (.mv (.t 0)), q 11 (.mv (.t 1)), ⟨(some 12), none, .call (.c (.func (.func 15) #[] #[])) [(.t 10), (.t 11)]⟩, ⟨(some 5), none, .alloc [(i64 0), (i64 0), (i64 0), (str []), (i64 0)]⟩, ⟨none, none, .st 5 (.t 5) (.t 12)⟩])
 (.seq (.ops [q 13 (.mv (.t 0)), q 14 (.mv (.t 1)), ⟨(some 15), none, .call (.c (.func (.func 16) #[] #[])) [(.t 13), (.t 14)]⟩, ⟨(some 6), none, .alloc [(i64 0), (i64 0), (i64 0), (str []), (i64 0)]⟩, ⟨none, none, .st 5 (.t 6) (.t 15)⟩])
 (.seq (.seq (.ops [q 16 (.ld true 5 (.t 6)), q 17 (.ld true 5 (.t 5)), ⟨(some 18), none, .call (.c (.func (.func 17) #[] #[])) [(.t 16), (.t 17)]⟩, q 19 (.un .not (.t 18))])
 (.cond (.t 19) (.seq (.ops [q 4 (.mv (.c (.bool false)))])
 .ret) .skip))
 (.seq (.ops [q 4 (.mv (.c (.bool true)))])
 .ret))))))
theorem w_laws_FnExactRecordRead {args : List Value} {h : H} {Q : Value → H → Prop} (hl : args.length ≤ 20) (hk : wpc Try.prog b_laws_FnExactRecordRead (retw [.tmp 4] Q) (argsFr args) h) : AC Try.prog 3 args h Q :=
  AC.of_wpc mixedOrders Try.func3 (by kernel_rfl) (by kernel_rfl : prepF Try.prog Try.f3 = some ⟨20, [.tmp 4], b_laws_FnExactRecordRead⟩) hl hk

theorem recordRead_walk {h : H} {t : List UInt8} {n : Int} (hn : in64 n) : AC Try.prog 3 [str t, i64 n] h fun r _ => r = .bool true := by
  refine w_laws_FnExactRecordRead (by simp) ?_
  unfold b_laws_FnExactRecordRead
  simp -implicitDefEqProofs only [go_sem, ↓reduceIte, reduceCtorEq, Int.reduceEq, Int.reduceLT, Int.reduceLE, Nat.reduceEqDiff, Nat.reduceAdd, Nat.reduceMul, Nat.reduceLeDiff, Nat.reduceSub, Int.reduceNeg]
  refine Br.of (fun hc => ?_) (fun hc => ?_)
  · simp -implicitDefEqProofs only [go_sem, ↓reduceIte, reduceCtorEq, Int.reduceEq, Int.reduceLT, Int.reduceLE, Nat.reduceEqDiff, Nat.reduceAdd, Nat.reduceMul, Nat.reduceLeDiff, Nat.reduceSub, Int.reduceNeg, hc]
  · simp -implicitDefEqProofs only [go_sem, ↓reduceIte, reduceCtorEq, Int.reduceEq, Int.reduceLT, Int.reduceLE, Nat.reduceEqDiff, Nat.reduceAdd, Nat.reduceMul, Nat.reduceLeDiff, Nat.reduceSub, Int.reduceNeg, hc]
    refine (specRecordRead_pc _ t n hn (by omega)).use ?_
    simp -implicitDefEqProofs only [go_sem, ↓reduceIte, reduceCtorEq, Int.reduceEq, Int.reduceLT, Int.reduceLE, Nat.reduceEqDiff, Nat.reduceAdd, Nat.reduceMul, Nat.reduceLeDiff, Nat.reduceSub, Int.reduceNeg]
    intro b3 hb_b3 n_b3
    simp -implicitDefEqProofs only [go_sem, ↓reduceIte, reduceCtorEq, Int.reduceEq, Int.reduceLT, Int.reduceLE, Nat.reduceEqDiff, Nat.reduceAdd, Nat.reduceMul, Nat.reduceLeDiff, Nat.reduceSub, Int.reduceNeg, hb_b3]
    refine (implRecordRead_pc _ t n).use ?_
    simp -implicitDefEqProofs only [go_sem, ↓reduceIte, reduceCtorEq, Int.reduceEq, Int.reduceLT, Int.reduceLE, Nat.reduceEqDiff, Nat.reduceAdd, Nat.reduceMul, Nat.reduceLeDiff, Nat.reduceSub, Int.reduceNeg, hb_b3]
    intro b4 hb_b4 m0_b4
    obtain ⟨z_b4_b3, y_b4_b3, n_b4⟩ := fne m0_b4
    simp only [H.set_base] at hb_b4
    simp -implicitDefEqProofs only [go_sem, ↓reduceIte, reduceCtorEq, Int.reduceEq, Int.reduceLT, Int.reduceLE, Nat.reduceEqDiff, Nat.reduceAdd, Nat.reduceMul, Nat.reduceLeDiff, Nat.reduceSub, Int.reduceNeg, hb_b3, hb_b4, z_b4_b3, y_b4_b3]
    refine (eqStepOut_pc _ (recOut t n) (recOut t n)).use ?_
    simp -implicitDefEqProofs only [go_sem, ↓reduceIte, reduceCtorEq, Int.reduceEq, Int.reduceLT, Int.reduceLE, Nat.reduceEqDiff, Nat.reduceAdd, Nat.reduceMul, Nat.reduceLeDiff, Nat.reduceSub, Int.reduceNeg, hb_b3, hb_b4, z_b4_b3, y_b4_b3]
theorem recordRead_law (h : H) (args : List Value) (ha : okAs h [.one (.f .str), .one (.f (.int .i64))] args) : AC Try.prog 3 args h fun r _ => r = .bool true := by
  obtain ⟨v, _, rfl, ⟨t, rfl, ht⟩, a0⟩ := okAs_cons ha
  obtain ⟨_, _, rfl, q1, a1⟩ := okAs_cons a0
  obtain rfl := okAs_nil a1
  obtain ⟨n, rfl, hn⟩ := okF_i q1
  exact recordRead_walk hn
section
open Go.ChangeShapes Go.WideShapes Go.ChangeAt Go.RowKit
theorem fnExactRecordRead_lifted (os : Os) (started : os.Started) (H' : Type) (enc : TypeId × Value → H') : ReturnsInHanded {} Try.checked os 3 .any (Rows.fnExactRecordReadSpec.pre6 enc Try.prog Try.f3 Rows.fnExactRecordReadRow.domain false) (Rows.fnExactRecordReadSpec.post enc Try.prog Try.f3 false true false false) :=
  law_row (Ck := Try.checked) [.one (.f .str), .one (.f (.int .i64))] (by kernel_rfl) started (by kernel_rfl) Try.func3 (ChangeSpec.witness6 (enc := enc) (C := Try.checked) false ⟨#[], #[.string ByteArray.empty, .int .i64 0], []⟩ 8 (by kernel_rfl) (by kernel_rfl) (by kernel_rfl) (by kernel_rfl))
    (by kernel_rfl) (by kernel_rfl) rfl (by kernel_rfl : Try.prog.underlying (Try.f3.resultTypes.getD 0 0) = some .bool) rfl
    (fun ds hd => by
      rw [show Try.f3.params.toList.length = 2 by kernel_rfl] at hd
      match ds, hd with
      | [_, _], _ => rfl)
    (by kernel_rfl) recordRead_law
theorem fnExactRecordRead_holds : Rows.FnExactRecordReadSaid :=
  OpenClaim.holds_of_wide 3 Try.f3 rfl rfl rfl rfl rfl rfl rfl ⟨rfl, rfl, rfl, rfl, rfl⟩ rfl rfl rfl rfl rfl (by kernel_rfl) Try.func3 (by kernel_rfl)
    (of_decide_eq_true (by kernel_rfl)) (by unfold Func.isWrapper; first | (rw [if_pos (by decide +kernel)]; kernel_rfl) | (rw [if_neg (by decide +kernel)]; exact ⟨rfl, rfl⟩))
    (fun os started H' enc _ => fnExactRecordRead_lifted os started H' enc)
end
end Go.Proofs.Ytjgonndohjlhlaa
