/- StepRead of the program returns what StepRead of the reference returns, for all arguments: the given statement, with no condition. -/
import Derived.Test.YtneiikjafpnapaaC06r
import Derived.Test.YtneiikjafpnapaaRows
import Derived.ProofKit
import Derived.ShutString
import Derived.ChangeOld
import Derived.Below
set_option linter.unusedVariables false
set_option linter.unusedSimpArgs false
set_option maxRecDepth 100000
namespace Go.Proofs.Ytneiikjafpnapaa
open Go.KH

/-- laws.eqStepOut -/
def b_laws_eqStepOut : C := (.seq (.ops [⟨(some 2), none, .box (.t 0)⟩, ⟨(some 3), none, .box (.t 1)⟩, q 4 (.mv (.c (.bool false)))])
 (.seq (.seq (.ops [q 5 (.fld 0 (.t 2)), q 6 (.ld true 4 (.t 5)), q 7 (.fld 0 (.t 3)), q 8 (.ld true 4 (.t 7)), ⟨(some 9), none, .call (.c (.func (.func 65) #[] #[])) [(.t 6), (.t 8)]⟩, q 10 (.un .not (.t 9))])
 (.cond (.t 10) (.seq (.ops [q 4 (.mv (.c (.bool false)))])
 .ret) .skip))
 (.seq (.seq (.ops [q 11 (.fld 4 (.t 2)), q 12 (.ld false 1 (.t 11)), q 13 (.fld 4 (.t 3)), q 14 (.ld false 1 (.t 13)), q 15 (.bin .neq (.t 12) (.t 14))])
 (.cond (.t 15) (.seq (.ops [q 4 (.mv (.c (.bool false)))])
 .ret) .skip))
 (.seq (.ops [q 4 (.mv (.c (.bool true)))])
 .ret))))
theorem w_laws_eqStepOut {args : List Value} {h : H} {Q : Value → H → Prop} (hl : args.length ≤ 16) (hk : wpc Try.prog b_laws_eqStepOut (retw [.tmp 4] Q) (argsFr args) h) : AC Try.prog 52 args h Q :=
  AC.of_wpc mixedOrders Try.func52 (by kernel_rfl) (by kernel_rfl : prepF Try.prog Try.f52 = some ⟨16, [.tmp 4], b_laws_eqStepOut⟩) hl hk

theorem eqStepOut_pc (h : H) (a b : UStep × Int) : PC Try.prog 52 [.agg (outC a).toArray, .agg (outC b).toArray] h (.bool (decide (a = b))) := by
  obtain ⟨⟨x1, x2, x3, x4⟩, x5⟩ := a
  obtain ⟨⟨u1, u2, u3, u4⟩, u5⟩ := b
  refine PC_of ?_
  refine w_laws_eqStepOut (by simp) ?_
  unfold b_laws_eqStepOut
  simp -implicitDefEqProofs only [go_sem, ↓reduceIte, reduceCtorEq, Int.reduceEq, Int.reduceLT, Int.reduceLE, Nat.reduceEqDiff, Nat.reduceAdd, Nat.reduceMul, Nat.reduceLeDiff, Nat.reduceSub, Int.reduceNeg]
  intro b1 hb_b1 n_b1
  simp -implicitDefEqProofs only [go_sem, ↓reduceIte, reduceCtorEq, Int.reduceEq, Int.reduceLT, Int.reduceLE, Nat.reduceEqDiff, Nat.reduceAdd, Nat.reduceMul, Nat.reduceLeDiff, Nat.reduceSub, Int.reduceNeg, hb_b1]
  intro b2 hb_b2 m0_b2
  obtain ⟨z_b2_b1, y_b2_b1, n_b2⟩ := fne m0_b2
  simp only [H.set_base] at hb_b2
  simp -implicitDefEqProofs only [go_sem, ↓reduceIte, reduceCtorEq, Int.reduceEq, Int.reduceLT, Int.reduceLE, Nat.reduceEqDiff, Nat.reduceAdd, Nat.reduceMul, Nat.reduceLeDiff, Nat.reduceSub, Int.reduceNeg, hb_b1, hb_b2, z_b2_b1, y_b2_b1]
  refine (eqStep_pc _ ⟨x1, x2, x3, x4⟩ ⟨u1, u2, u3, u4⟩).use ?_
  simp -implicitDefEqProofs only [go_sem, ↓reduceIte, reduceCtorEq, Int.reduceEq, Int.reduceLT, Int.reduceLE, Nat.reduceEqDiff, Nat.reduceAdd, Nat.reduceMul, Nat.reduceLeDiff, Nat.reduceSub, Int.reduceNeg, hb_b1, hb_b2, z_b2_b1, y_b2_b1]
  repeat' (refine Br.of (fun hc => ?_) (fun hc => ?_) <;> simp -implicitDefEqProofs only [go_sem, ↓reduceIte, reduceCtorEq, Int.reduceEq, Int.reduceLT, Int.reduceLE, Nat.reduceEqDiff, Nat.reduceAdd, Nat.reduceMul, Nat.reduceLeDiff, Nat.reduceSub, Int.reduceNeg, hc, hb_b1, hb_b2, z_b2_b1, y_b2_b1])
  all_goals exact ⟨(((Ext.refl _).set' n_b1 _).set' n_b2 _), by simp_all⟩
/-- laws.FnExactStepRead -/
def b_laws_FnExactStepRead : C := (.seq (.ops [q 2 (.mv (.c (.bool false)))])
 (.seq (.seq (.ops [q 5 (.mv (.t 0)), q 6 (.slen (.t 5)), q 7 (.bin .gtr (.t 6) (.c (i64 1048576)))])
 (.cond (.t 7) (.seq (.ops [q 2 (.mv (.c (.bool true)))])
 .ret) .skip))
 (.seq (.ops [q 8 (.mv (.t 0)), ⟨(some 9), none, .call (.c (.func (.func 50) #[] #[])) [(.t 8)]⟩, ⟨(some 3), none, .alloc [(i64 0), (i64 0), (i64 0), (str []), (i64 0)]⟩, ⟨none, none, .st 5 (.t 3) (.t 9)⟩])
 (.seq (.ops [q 10 (.mv (.t 0)), ⟨(some 11), none, .call (.c (.func (.func 51) #[] #[])) [(.t 10)]⟩, ⟨(some 4), none, .alloc [(i64 0), (i64 0), (i64 0), (str []), (i64 0)]⟩, ⟨none, none, .st 5 (.t 4) (.t 11)⟩])
 (.seq (.seq (.ops [q 12 (.ld true 5 (.t 4)), q 13 (.ld true 5 (.t 3)), ⟨(some 14), none, .call (.c (.func (.func 52) #[] #[])) [(.t 12), (.t 13)]⟩, q 15 (.un .not (.t 14))])
 (.cond (.t 15) (.seq (.ops [q 2 (.mv (.c (.bool false)))])
 .ret) .skip))
 (.seq (.ops [q 2 (.mv (.c (.bool true)))])
 .ret))))))
theorem w_laws_FnExactStepRead {args : List Value} {h : H} {Q : Value → H → Prop} (hl : args.length ≤ 16) (hk : wpc Try.prog b_laws_FnExactStepRead (retw [.tmp 2] Q) (argsFr args) h) : AC Try.prog 13 args h Q :=
  AC.of_wpc mixedOrders Try.func13 (by kernel_rfl) (by kernel_rfl : prepF Try.prog Try.f13 = some ⟨16, [.tmp 2], b_laws_FnExactStepRead⟩) hl hk

theorem stepRead_walk {h : H} {t : List UInt8} (ht : t.length ≤ maxLen) : AC Try.prog 13 [str t] h fun r _ => r = .bool true := by
  refine w_laws_FnExactStepRead (by simp) ?_
  unfold b_laws_FnExactStepRead
  simp -implicitDefEqProofs only [go_sem, ↓reduceIte, reduceCtorEq, Int.reduceEq, Int.reduceLT, Int.reduceLE, Nat.reduceEqDiff, Nat.reduceAdd, Nat.reduceMul, Nat.reduceLeDiff, Nat.reduceSub, Int.reduceNeg]
  refine Br.of (fun hc => ?_) (fun hc => ?_)
  · simp -implicitDefEqProofs only [go_sem, ↓reduceIte, reduceCtorEq, Int.reduceEq, Int.reduceLT, Int.reduceLE, Nat.reduceEqDiff, Nat.reduceAdd, Nat.reduceMul, Nat.reduceLeDiff, Nat.reduceSub, Int.reduceNeg, hc]
  · simp -implicitDefEqProofs only [go_sem, ↓reduceIte, reduceCtorEq, Int.reduceEq, Int.reduceLT, Int.reduceLE, Nat.reduceEqDiff, Nat.reduceAdd, Nat.reduceMul, Nat.reduceLeDiff, Nat.reduceSub, Int.reduceNeg, hc]
    refine (specStepRead_pc _ t ht).use ?_
    simp -implicitDefEqProofs only [go_sem, ↓reduceIte, reduceCtorEq, Int.reduceEq, Int.reduceLT, Int.reduceLE, Nat.reduceEqDiff, Nat.reduceAdd, Nat.reduceMul, Nat.reduceLeDiff, Nat.reduceSub, Int.reduceNeg]
    intro b3 hb_b3 n_b3
    simp -implicitDefEqProofs only [go_sem, ↓reduceIte, reduceCtorEq, Int.reduceEq, Int.reduceLT, Int.reduceLE, Nat.reduceEqDiff, Nat.reduceAdd, Nat.reduceMul, Nat.reduceLeDiff, Nat.reduceSub, Int.reduceNeg, hb_b3]
    refine (implStepRead_pc _ t ht).use ?_
    simp -implicitDefEqProofs only [go_sem, ↓reduceIte, reduceCtorEq, Int.reduceEq, Int.reduceLT, Int.reduceLE, Nat.reduceEqDiff, Nat.reduceAdd, Nat.reduceMul, Nat.reduceLeDiff, Nat.reduceSub, Int.reduceNeg, hb_b3]
    intro b4 hb_b4 m0_b4
    obtain ⟨z_b4_b3, y_b4_b3, n_b4⟩ := fne m0_b4
    simp only [H.set_base] at hb_b4
    simp -implicitDefEqProofs only [go_sem, ↓reduceIte, reduceCtorEq, Int.reduceEq, Int.reduceLT, Int.reduceLE, Nat.reduceEqDiff, Nat.reduceAdd, Nat.reduceMul, Nat.reduceLeDiff, Nat.reduceSub, Int.reduceNeg, hb_b3, hb_b4, z_b4_b3, y_b4_b3]
    refine (eqStepOut_pc _ (stepOut t) (stepOut t)).use ?_
    simp -implicitDefEqProofs only [go_sem, ↓reduceIte, reduceCtorEq, Int.reduceEq, Int.reduceLT, Int.reduceLE, Nat.reduceEqDiff, Nat.reduceAdd, Nat.reduceMul, Nat.reduceLeDiff, Nat.reduceSub, Int.reduceNeg, hb_b3, hb_b4, z_b4_b3, y_b4_b3]
theorem stepRead_law (h : H) (args : List Value) (ha : okAs h [.one (.f .str)] args) : AC Try.prog 13 args h fun r _ => r = .bool true := by
  obtain ⟨v, _, rfl, ⟨t, rfl, ht⟩, a0⟩ := okAs_cons ha
  obtain rfl := okAs_nil a0
  exact stepRead_walk ht
section
open Go.ChangeShapes Go.WideShapes Go.ChangeAt Go.RowKit
theorem fnExactStepRead_lifted (os : Os) (started : os.Started) (H' : Type) (enc : TypeId × Value → H') : ReturnsInHanded {} Try.checked os 13 .any (Rows.fnExactStepReadSpec.pre6 enc Try.prog Try.f13 Rows.fnExactStepReadRow.domain false) (Rows.fnExactStepReadSpec.post enc Try.prog Try.f13 false true false false) :=
  law_row (Ck := Try.checked) [.one (.f .str)] (by kernel_rfl) started (by kernel_rfl) Try.func13 (ChangeSpec.witness6 (enc := enc) (C := Try.checked) false ⟨#[], #[.string ByteArray.empty], []⟩ 8 (by kernel_rfl) (by kernel_rfl) (by kernel_rfl) (by kernel_rfl))
    (by kernel_rfl) (by kernel_rfl) rfl (by kernel_rfl : Try.prog.underlying (Try.f13.resultTypes.getD 0 0) = some .bool) rfl
    (fun ds hd => by
      rw [show Try.f13.params.toList.length = 1 by kernel_rfl] at hd
      match ds, hd with
      | [_], _ => rfl)
    (by kernel_rfl) stepRead_law
theorem fnExactStepRead_holds : Rows.FnExactStepReadSaid :=
  OpenClaim.holds_of_wide 13 Try.f13 rfl rfl rfl rfl rfl rfl rfl ⟨rfl, rfl, rfl, rfl, rfl⟩ rfl rfl rfl rfl rfl (by kernel_rfl) Try.func13 (by kernel_rfl)
    (of_decide_eq_true (by kernel_rfl)) (by unfold Func.isWrapper; first | (rw [if_pos (by decide +kernel)]; kernel_rfl) | (rw [if_neg (by decide +kernel)]; exact ⟨rfl, rfl⟩))
    (fun os started H' enc _ => fnExactStepRead_lifted os started H' enc)
end
end Go.Proofs.Ytneiikjafpnapaa
