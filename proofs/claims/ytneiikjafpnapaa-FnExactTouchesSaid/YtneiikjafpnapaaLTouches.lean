/- Touches of the program returns what Touches of the reference returns, for all arguments: the given statement, with no condition. -/
import Derived.Test.YtneiikjafpnapaaC10
import Derived.Test.YtneiikjafpnapaaRows
import Derived.ProofKit
import Derived.ShutString
import Derived.ChangeOld
import Derived.Below
set_option linter.unusedVariables false
set_option linter.unusedSimpArgs false
set_option maxRecDepth 100000
namespace Go.Proofs.Ytneiikjafpnapaa
open Go.KH

/-- laws.FnExactTouches -/
def b_laws_FnExactTouches : C := (.seq (.ops [q 4 (.mv (.c (.bool false)))])
 (.seq (.ops [q 5 (.mv (.c (i64 1048576)))])
 (.seq (.ops [q 9 (.mv (.t 0)), q 10 (.mv (.t 5)), ⟨(some 11), none, .call (.c (.func (.func 22) #[] #[])) [(.t 9), (.t 10)]⟩, q 5 (.mv (.t 11))])
 (.seq (.seq (.ops [q 12 (.mv (.t 5)), q 13 (.bin .lss (.t 12) (.c (i64 0)))])
 (.cond (.t 13) (.seq (.ops [q 4 (.mv (.c (.bool true)))])
 .ret) .skip))
 (.seq (.ops [q 14 (.mv (.t 0)), ⟨(some 15), none, .call (.c (.func (.func 24) #[] #[])) [(.t 14)]⟩, q 16 (.mv (.t 1)), ⟨(some 17), none, .call (.c (.func (.func 27) #[] #[])) [(.t 15), (.t 16)]⟩, q 6 (.mv (.t 17))])
 (.seq (.ops [q 18 (.mv (.t 0)), ⟨(some 19), none, .call (.c (.func (.func 24) #[] #[])) [(.t 18)]⟩, q 7 (.mv (.t 19))])
 (.seq (.ops [q 20 (.mv (.t 7)), q 21 (.mv (.t 1)), ⟨(some 22), none, .call (.c (.func (.func 28) #[] #[])) [(.t 20), (.t 21)]⟩, q 8 (.mv (.t 22))])
 (.seq (.seq (.ops [q 23 (.mv (.t 8)), q 24 (.mv (.t 6)), q 25 (.bin .neq (.t 23) (.t 24))])
 (.cond (.t 25) (.seq (.ops [q 4 (.mv (.c (.bool false)))])
 .ret) .skip))
 (.seq (.seq (.ops [q 26 (.mv (.t 7)), q 27 (.mv (.t 0)), ⟨(some 28), none, .call (.c (.func (.func 24) #[] #[])) [(.t 27)]⟩, ⟨(some 29), none, .call (.c (.func (.func 26) #[] #[])) [(.t 26), (.t 28)]⟩, q 30 (.un .not (.t 29))])
 (.cond (.t 30) (.seq (.ops [q 4 (.mv (.c (.bool false)))])
 .ret) .skip))
 (.seq (.ops [q 4 (.mv (.c (.bool true)))])
 .ret))))))))))
theorem w_laws_FnExactTouches {args : List Value} {h : H} {Q : Value → H → Prop} (hl : args.length ≤ 31) (hk : wpc Try.prog b_laws_FnExactTouches (retw [.tmp 4] Q) (argsFr args) h) : AC Try.prog 6 args h Q :=
  AC.of_wpc mixedOrders Try.func6 (by kernel_rfl) (by kernel_rfl : prepF Try.prog Try.f6 = some ⟨31, [.tmp 4], b_laws_FnExactTouches⟩) hl hk

theorem touches_walk {h : H} {v : Value} {l : List UStep} {block : Int} (hv : Sl h v 4 (l.map UStep.cells)) (hn : l.length ≤ maxLen) (hok : ∀ s ∈ l, s.ok) : AC Try.prog 6 [v, i64 block] h fun r _ => r = .bool true := by
  refine w_laws_FnExactTouches (by simp) ?_
  unfold b_laws_FnExactTouches
  simp -implicitDefEqProofs only [go_sem, ↓reduceIte, reduceCtorEq, Nat.reduceEqDiff, Nat.reduceAdd, Nat.reduceMul, Nat.reduceLeDiff, Nat.reduceSub, Int.reduceNeg]
  refine (szStepS_pc hv hn hok (by omega)).use ?_
  simp -implicitDefEqProofs only [go_sem, ↓reduceIte, reduceCtorEq, Nat.reduceEqDiff, Nat.reduceAdd, Nat.reduceMul, Nat.reduceLeDiff, Nat.reduceSub, Int.reduceNeg]
  refine Br.of (fun hc => ?_) (fun hc => ?_)
  · simp -implicitDefEqProofs only [go_sem, ↓reduceIte, reduceCtorEq, Nat.reduceEqDiff, Nat.reduceAdd, Nat.reduceMul, Nat.reduceLeDiff, Nat.reduceSub, Int.reduceNeg, hc]
  · simp -implicitDefEqProofs only [go_sem, ↓reduceIte, reduceCtorEq, Nat.reduceEqDiff, Nat.reduceAdd, Nat.reduceMul, Nat.reduceLeDiff, Nat.reduceSub, Int.reduceNeg, hc]
    have hb : l.length ≤ 1048576 := by have := lessn_nn hc; omega
    refine AC_of (toStepS_ac hv hb) ?_
    rintro x1 h1 - ⟨e1, f1⟩
    simp -implicitDefEqProofs only [go_sem, ↓reduceIte, reduceCtorEq, Nat.reduceEqDiff, Nat.reduceAdd, Nat.reduceMul, Nat.reduceLeDiff, Nat.reduceSub, Int.reduceNeg]
    refine (specTouches_pc f1.sl hb).use ?_
    simp -implicitDefEqProofs only [go_sem, ↓reduceIte, reduceCtorEq, Nat.reduceEqDiff, Nat.reduceAdd, Nat.reduceMul, Nat.reduceLeDiff, Nat.reduceSub, Int.reduceNeg]
    refine AC_of (toStepS_ac (hv.ext e1) hb) ?_
    rintro x2 h2 - ⟨e2, f2⟩
    simp -implicitDefEqProofs only [go_sem, ↓reduceIte, reduceCtorEq, Nat.reduceEqDiff, Nat.reduceAdd, Nat.reduceMul, Nat.reduceLeDiff, Nat.reduceSub, Int.reduceNeg]
    refine (implTouches_pc f2.sl hb).use ?_
    simp -implicitDefEqProofs only [go_sem, ↓reduceIte, reduceCtorEq, Nat.reduceEqDiff, Nat.reduceAdd, Nat.reduceMul, Nat.reduceLeDiff, Nat.reduceSub, Int.reduceNeg]
    refine AC_of (toStepS_ac ((hv.ext e1).ext e2) hb) ?_
    rintro x3 h3 - ⟨e3, f3⟩
    simp -implicitDefEqProofs only [go_sem, ↓reduceIte, reduceCtorEq, Nat.reduceEqDiff, Nat.reduceAdd, Nat.reduceMul, Nat.reduceLeDiff, Nat.reduceSub, Int.reduceNeg]
    refine (eqStepS_pc (f2.ext e3).sl f3.sl (by have := show maxLen = 9223372036854775807 from rfl; omega)).use ?_
    simp -implicitDefEqProofs only [go_sem, ↓reduceIte, reduceCtorEq, Nat.reduceEqDiff, Nat.reduceAdd, Nat.reduceMul, Nat.reduceLeDiff, Nat.reduceSub, Int.reduceNeg]
theorem touches_law (h : H) (args : List Value) (ha : okAs h [.one (.sl [.int .i64, .int .i64, .int .i64, .str]), .one (.f (.int .i64))] args) : AC Try.prog 6 args h fun r _ => r = .bool true := by
  obtain ⟨v, _, rfl, ⟨rows, hs, hf, hn⟩, a0⟩ := okAs_cons ha
  obtain ⟨_, _, rfl, q1, a1⟩ := okAs_cons a0
  obtain ⟨block, rfl, _⟩ := q1
  obtain rfl := okAs_nil a1
  obtain ⟨l, rfl, hok⟩ := steps_of rows hf
  exact touches_walk hs (by simpa using hn) hok
section
open Go.ChangeShapes Go.WideShapes Go.ChangeAt Go.RowKit
theorem fnExactTouches_lifted (os : Os) (started : os.Started) (H' : Type) (enc : TypeId × Value → H') : ReturnsInHanded {} Try.checked os 6 .any (Rows.fnExactTouchesSpec.pre6 enc Try.prog Try.f6 Rows.fnExactTouchesRow.domain false) (Rows.fnExactTouchesSpec.post enc Try.prog Try.f6 false true false false) :=
  law_row (Ck := Try.checked) [.one (.sl [.int .i64, .int .i64, .int .i64, .str]), .one (.f (.int .i64))] (by kernel_rfl) started (by kernel_rfl) Try.func6 (ChangeSpec.witness6 (enc := enc) (C := Try.checked) false ⟨#[], #[.slice none 0 0, .int .i64 0], []⟩ 8 (by kernel_rfl) (by kernel_rfl) (by kernel_rfl) (by kernel_rfl))
    (by kernel_rfl) (by kernel_rfl) rfl (by kernel_rfl : Try.prog.underlying (Try.f6.resultTypes.getD 0 0) = some .bool) rfl
    (fun ds hd => by
      rw [show Try.f6.params.toList.length = 2 by kernel_rfl] at hd
      match ds, hd with
      | [_, _], _ => rfl)
    (by kernel_rfl) touches_law
theorem fnExactTouches_holds : Rows.FnExactTouchesSaid :=
  OpenClaim.holds_of_wide 6 Try.f6 rfl rfl rfl rfl rfl rfl rfl ⟨rfl, rfl, rfl, rfl, rfl⟩ rfl rfl rfl rfl rfl (by kernel_rfl) Try.func6 (by kernel_rfl)
    (of_decide_eq_true (by kernel_rfl)) (by unfold Func.isWrapper; first | (rw [if_pos (by decide +kernel)]; kernel_rfl) | (rw [if_neg (by decide +kernel)]; exact ⟨rfl, rfl⟩))
    (fun os started H' enc _ => fnExactTouches_lifted os started H' enc)
end
end Go.Proofs.Ytneiikjafpnapaa
