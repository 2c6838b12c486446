/- KeptOf of the program returns what KeptOf of the reference returns, for all arguments: the given statement, with no condition. -/
import Derived.Test.YtneiikjafpnapaaC09
import Derived.Test.YtneiikjafpnapaaRows
import Derived.ProofKit
import Derived.ShutString
import Derived.ChangeOld
import Derived.Below
set_option linter.unusedVariables false
set_option linter.unusedSimpArgs false
set_option maxRecDepth 100000
namespace Go.Proofs.Ytneiikjafpnapaa
open Go.KH

/-- laws.FnExactKeptOf -/
def b_laws_FnExactKeptOf : C := (.seq (.ops [q 2 (.mv (.c (.bool false)))])
 (.seq (.ops [q 3 (.mv (.c (i64 1048576)))])
 (.seq (.ops [q 7 (.mv (.t 0)), q 8 (.mv (.t 3)), ⟨(some 9), none, .call (.c (.func (.func 22) #[] #[])) [(.t 7), (.t 8)]⟩, q 3 (.mv (.t 9))])
 (.seq (.seq (.ops [q 10 (.mv (.t 3)), q 11 (.bin .lss (.t 10) (.c (i64 0)))])
 (.cond (.t 11) (.seq (.ops [q 2 (.mv (.c (.bool true)))])
 .ret) .skip))
 (.seq (.ops [q 12 (.mv (.t 0)), ⟨(some 13), none, .call (.c (.func (.func 24) #[] #[])) [(.t 12)]⟩, ⟨(some 14), none, .call (.c (.func (.func 23) #[] #[])) [(.t 13)]⟩, q 4 (.mv (.t 14))])
 (.seq (.ops [q 15 (.mv (.t 0)), ⟨(some 16), none, .call (.c (.func (.func 24) #[] #[])) [(.t 15)]⟩, q 5 (.mv (.t 16))])
 (.seq (.ops [q 17 (.mv (.t 5)), ⟨(some 18), none, .call (.c (.func (.func 25) #[] #[])) [(.t 17)]⟩, q 6 (.mv (.t 18))])
 (.seq (.seq (.ops [q 19 (.mv (.t 6)), q 20 (.mv (.t 4)), q 21 (.bin .neq (.t 19) (.t 20))])
 (.cond (.t 21) (.seq (.ops [q 2 (.mv (.c (.bool false)))])
 .ret) .skip))
 (.seq (.seq (.ops [q 22 (.mv (.t 5)), q 23 (.mv (.t 0)), ⟨(some 24), none, .call (.c (.func (.func 24) #[] #[])) [(.t 23)]⟩, ⟨(some 25), none, .call (.c (.func (.func 26) #[] #[])) [(.t 22), (.t 24)]⟩, q 26 (.un .not (.t 25))])
 (.cond (.t 26) (.seq (.ops [q 2 (.mv (.c (.bool false)))])
 .ret) .skip))
 (.seq (.ops [q 2 (.mv (.c (.bool true)))])
 .ret))))))))))
theorem w_laws_FnExactKeptOf {args : List Value} {h : H} {Q : Value → H → Prop} (hl : args.length ≤ 27) (hk : wpc Try.prog b_laws_FnExactKeptOf (retw [.tmp 2] Q) (argsFr args) h) : AC Try.prog 5 args h Q :=
  AC.of_wpc mixedOrders Try.func5 (by kernel_rfl) (by kernel_rfl : prepF Try.prog Try.f5 = some ⟨27, [.tmp 2], b_laws_FnExactKeptOf⟩) hl hk

theorem keptOf_walk {h : H} {v : Value} {l : List UStep} (hv : Sl h v 4 (l.map UStep.cells)) (hn : l.length ≤ maxLen) (hok : ∀ s ∈ l, s.ok) : AC Try.prog 5 [v] h fun r _ => r = .bool true := by
  refine w_laws_FnExactKeptOf (by simp) ?_
  unfold b_laws_FnExactKeptOf
  simp -implicitDefEqProofs only [go_sem, ↓reduceIte, reduceCtorEq, Nat.reduceEqDiff, Nat.reduceAdd, Nat.reduceMul, Nat.reduceLeDiff, Nat.reduceSub, Int.reduceNeg]
  refine (szStepS_pc hv hn hok (by omega)).use ?_
  simp -implicitDefEqProofs only [go_sem, ↓reduceIte, reduceCtorEq, Nat.reduceEqDiff, Nat.reduceAdd, Nat.reduceMul, Nat.reduceLeDiff, Nat.reduceSub, Int.reduceNeg]
  refine Br.of (fun hc => ?_) (fun hc => ?_)
  · simp -implicitDefEqProofs only [go_sem, ↓reduceIte, reduceCtorEq, Nat.reduceEqDiff, Nat.reduceAdd, Nat.reduceMul, Nat.reduceLeDiff, Nat.reduceSub, Int.reduceNeg, hc]
  · simp -implicitDefEqProofs only [go_sem, ↓reduceIte, reduceCtorEq, Nat.reduceEqDiff, Nat.reduceAdd, Nat.reduceMul, Nat.reduceLeDiff, Nat.reduceSub, Int.reduceNeg, hc]
    have hb : l.length ≤ 1048576 := by have := lessn_nn hc; omega
    refine AC_of (toStepS_ac hv hb) ?_
    rintro x1 h1 - ⟨e1, f1⟩
    simp -implicitDefEqProofs only [go_sem, ↓reduceIte, reduceCtorEq, Nat.reduceEqDiff, Nat.reduceAdd, Nat.reduceMul, Nat.reduceLeDiff, Nat.reduceSub, Int.reduceNeg]
    refine (specKeptOf_pc f1.sl hb).use ?_
    simp -implicitDefEqProofs only [go_sem, ↓reduceIte, reduceCtorEq, Nat.reduceEqDiff, Nat.reduceAdd, Nat.reduceMul, Nat.reduceLeDiff, Nat.reduceSub, Int.reduceNeg]
    refine AC_of (toStepS_ac (hv.ext e1) hb) ?_
    rintro x2 h2 - ⟨e2, f2⟩
    simp -implicitDefEqProofs only [go_sem, ↓reduceIte, reduceCtorEq, Nat.reduceEqDiff, Nat.reduceAdd, Nat.reduceMul, Nat.reduceLeDiff, Nat.reduceSub, Int.reduceNeg]
    refine (implKeptOf_pc f2.sl hb).use ?_
    simp -implicitDefEqProofs only [go_sem, ↓reduceIte, reduceCtorEq, Nat.reduceEqDiff, Nat.reduceAdd, Nat.reduceMul, Nat.reduceLeDiff, Nat.reduceSub, Int.reduceNeg]
    refine AC_of (toStepS_ac ((hv.ext e1).ext e2) hb) ?_
    rintro x3 h3 - ⟨e3, f3⟩
    simp -implicitDefEqProofs only [go_sem, ↓reduceIte, reduceCtorEq, Nat.reduceEqDiff, Nat.reduceAdd, Nat.reduceMul, Nat.reduceLeDiff, Nat.reduceSub, Int.reduceNeg]
    refine (eqStepS_pc (f2.ext e3).sl f3.sl (by have := show maxLen = 9223372036854775807 from rfl; omega)).use ?_
    simp -implicitDefEqProofs only [go_sem, ↓reduceIte, reduceCtorEq, Nat.reduceEqDiff, Nat.reduceAdd, Nat.reduceMul, Nat.reduceLeDiff, Nat.reduceSub, Int.reduceNeg]
theorem keptOf_law (h : H) (args : List Value) (ha : okAs h [.one (.sl [.int .i64, .int .i64, .int .i64, .str])] args) : AC Try.prog 5 args h fun r _ => r = .bool true := by
  obtain ⟨v, _, rfl, ⟨rows, hs, hf, hn⟩, ha⟩ := okAs_cons ha
  obtain rfl := okAs_nil ha
  obtain ⟨l, rfl, hok⟩ := steps_of rows hf
  exact keptOf_walk hs (by simpa using hn) hok
section
open Go.ChangeShapes Go.WideShapes Go.ChangeAt Go.RowKit
theorem fnExactKeptOf_lifted (os : Os) (started : os.Started) (H' : Type) (enc : TypeId × Value → H') : ReturnsInHanded {} Try.checked os 5 .any (Rows.fnExactKeptOfSpec.pre6 enc Try.prog Try.f5 Rows.fnExactKeptOfRow.domain false) (Rows.fnExactKeptOfSpec.post enc Try.prog Try.f5 false true false false) :=
  law_row (Ck := Try.checked) [.one (.sl [.int .i64, .int .i64, .int .i64, .str])] (by kernel_rfl) started (by kernel_rfl) Try.func5 (ChangeSpec.witness6 (enc := enc) (C := Try.checked) false ⟨#[], #[.slice none 0 0], []⟩ 8 (by kernel_rfl) (by kernel_rfl) (by kernel_rfl) (by kernel_rfl))
    (by kernel_rfl) (by kernel_rfl) rfl (by kernel_rfl : Try.prog.underlying (Try.f5.resultTypes.getD 0 0) = some .bool) rfl
    (fun ds hd => by
      rw [show Try.f5.params.toList.length = 1 by kernel_rfl] at hd
      match ds, hd with
      | [_], _ => rfl)
    (by kernel_rfl) keptOf_law
theorem fnExactKeptOf_holds : Rows.FnExactKeptOfSaid :=
  OpenClaim.holds_of_wide 5 Try.f5 rfl rfl rfl rfl rfl rfl rfl ⟨rfl, rfl, rfl, rfl, rfl⟩ rfl rfl rfl rfl rfl (by kernel_rfl) Try.func5 (by kernel_rfl)
    (of_decide_eq_true (by kernel_rfl)) (by unfold Func.isWrapper; first | (rw [if_pos (by decide +kernel)]; kernel_rfl) | (rw [if_neg (by decide +kernel)]; exact ⟨rfl, rfl⟩))
    (fun os started H' enc _ => fnExactKeptOf_lifted os started H' enc)
end
end Go.Proofs.Ytneiikjafpnapaa
