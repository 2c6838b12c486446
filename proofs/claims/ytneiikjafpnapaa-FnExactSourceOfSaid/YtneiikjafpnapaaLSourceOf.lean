/- SourceOf of the program returns what SourceOf of the reference returns, for all arguments: the given statement, with no condition. -/
import Derived.Test.YtneiikjafpnapaaC11
import Derived.Test.YtneiikjafpnapaaRows
import Derived.ProofKit
import Derived.ShutString
import Derived.ChangeOld
import Derived.Below
set_option linter.unusedVariables false
set_option linter.unusedSimpArgs false
set_option maxRecDepth 100000
namespace Go.Proofs.Ytneiikjafpnapaa
open Go.KH

/-- laws.FnExactSourceOf -/
def b_laws_FnExactSourceOf : C := (.seq (.ops [q 6 (.mv (.c (.bool false)))])
 (.seq (.ops [q 7 (.mv (.c (i64 1048576)))])
 (.seq (.ops [q 11 (.mv (.t 0)), q 12 (.mv (.t 7)), ⟨(some 13), none, .call (.c (.func (.func 15) #[] #[])) [(.t 11), (.t 12)]⟩, q 7 (.mv (.t 13))])
 (.seq (.seq (.ops [q 14 (.mv (.t 7)), q 15 (.bin .lss (.t 14) (.c (i64 0)))])
 (.cond (.t 15) (.seq (.ops [q 6 (.mv (.c (.bool true)))])
 .ret) .skip))
 (.seq (.ops [q 16 (.mv (.t 0)), ⟨(some 17), none, .call (.c (.func (.func 17) #[] #[])) [(.t 16)]⟩, q 18 (.mv (.t 1)), q 19 (.mv (.t 2)), ⟨(some 20), none, .call (.c (.func (.func 20) #[] #[])) [(.t 17), (.t 18), (.t 19)]⟩, q 8 (.mv (.t 20))])
 (.seq (.ops [q 21 (.mv (.t 0)), ⟨(some 22), none, .call (.c (.func (.func 17) #[] #[])) [(.t 21)]⟩, q 9 (.mv (.t 22))])
 (.seq (.ops [q 23 (.mv (.t 9)), q 24 (.mv (.t 1)), q 25 (.mv (.t 2)), ⟨(some 26), none, .call (.c (.func (.func 21) #[] #[])) [(.t 23), (.t 24), (.t 25)]⟩, q 10 (.mv (.t 26))])
 (.seq (.seq (.ops [q 27 (.mv (.t 10)), q 28 (.mv (.t 8)), q 29 (.bin .neq (.t 27) (.t 28))])
 (.cond (.t 29) (.seq (.ops [q 6 (.mv (.c (.bool false)))])
 .ret) .skip))
 (.seq (.seq (.ops [q 30 (.mv (.t 9)), q 31 (.mv (.t 0)), ⟨(some 32), none, .call (.c (.func (.func 17) #[] #[])) [(.t 31)]⟩, ⟨(some 33), none, .call (.c (.func (.func 19) #[] #[])) [(.t 30), (.t 32)]⟩, q 34 (.un .not (.t 33))])
 (.cond (.t 34) (.seq (.ops [q 6 (.mv (.c (.bool false)))])
 .ret) .skip))
 (.seq (.ops [q 6 (.mv (.c (.bool true)))])
 .ret))))))))))
theorem w_laws_FnExactSourceOf {args : List Value} {h : H} {Q : Value → H → Prop} (hl : args.length ≤ 35) (hk : wpc Try.prog b_laws_FnExactSourceOf (retw [.tmp 6] Q) (argsFr args) h) : AC Try.prog 4 args h Q :=
  AC.of_wpc mixedOrders Try.func4 (by kernel_rfl) (by kernel_rfl : prepF Try.prog Try.f4 = some ⟨35, [.tmp 6], b_laws_FnExactSourceOf⟩) hl hk

theorem sourceOf_walk {h : H} {v : Value} {l : List UMove} {done block : Int} (hv : Sl h v 4 (l.map UMove.cells)) (hn : l.length ≤ maxLen) : AC Try.prog 4 [v, i64 done, i64 block] h fun r _ => r = .bool true := by
  refine w_laws_FnExactSourceOf (by simp) ?_
  unfold b_laws_FnExactSourceOf
  simp -implicitDefEqProofs only [go_sem, ↓reduceIte, reduceCtorEq, Nat.reduceEqDiff, Nat.reduceAdd, Nat.reduceMul, Nat.reduceLeDiff, Nat.reduceSub, Int.reduceNeg]
  refine (szMoveS_pc hv hn (by omega)).use ?_
  simp -implicitDefEqProofs only [go_sem, ↓reduceIte, reduceCtorEq, Nat.reduceEqDiff, Nat.reduceAdd, Nat.reduceMul, Nat.reduceLeDiff, Nat.reduceSub, Int.reduceNeg]
  refine Br.of (fun hc => ?_) (fun hc => ?_)
  · simp -implicitDefEqProofs only [go_sem, ↓reduceIte, reduceCtorEq, Nat.reduceEqDiff, Nat.reduceAdd, Nat.reduceMul, Nat.reduceLeDiff, Nat.reduceSub, Int.reduceNeg, hc]
  · simp -implicitDefEqProofs only [go_sem, ↓reduceIte, reduceCtorEq, Nat.reduceEqDiff, Nat.reduceAdd, Nat.reduceMul, Nat.reduceLeDiff, Nat.reduceSub, Int.reduceNeg, hc]
    have hb : l.length ≤ 1048576 := by have := lessn_nn hc; omega
    refine AC_of (toMoveS_ac hv hb) ?_
    rintro x1 h1 - ⟨e1, f1⟩
    simp -implicitDefEqProofs only [go_sem, ↓reduceIte, reduceCtorEq, Nat.reduceEqDiff, Nat.reduceAdd, Nat.reduceMul, Nat.reduceLeDiff, Nat.reduceSub, Int.reduceNeg]
    refine (specSourceOf_pc f1.sl hb).use ?_
    simp -implicitDefEqProofs only [go_sem, ↓reduceIte, reduceCtorEq, Nat.reduceEqDiff, Nat.reduceAdd, Nat.reduceMul, Nat.reduceLeDiff, Nat.reduceSub, Int.reduceNeg]
    refine AC_of (toMoveS_ac (hv.ext e1) hb) ?_
    rintro x2 h2 - ⟨e2, f2⟩
    simp -implicitDefEqProofs only [go_sem, ↓reduceIte, reduceCtorEq, Nat.reduceEqDiff, Nat.reduceAdd, Nat.reduceMul, Nat.reduceLeDiff, Nat.reduceSub, Int.reduceNeg]
    refine (implSourceOf_pc f2.sl hb).use ?_
    simp -implicitDefEqProofs only [go_sem, ↓reduceIte, reduceCtorEq, Nat.reduceEqDiff, Nat.reduceAdd, Nat.reduceMul, Nat.reduceLeDiff, Nat.reduceSub, Int.reduceNeg]
    refine AC_of (toMoveS_ac ((hv.ext e1).ext e2) hb) ?_
    rintro x3 h3 - ⟨e3, f3⟩
    simp -implicitDefEqProofs only [go_sem, ↓reduceIte, reduceCtorEq, Nat.reduceEqDiff, Nat.reduceAdd, Nat.reduceMul, Nat.reduceLeDiff, Nat.reduceSub, Int.reduceNeg]
    refine (eqMoveS_pc (f2.ext e3).sl f3.sl (by have := show maxLen = 9223372036854775807 from rfl; omega)).use ?_
    simp -implicitDefEqProofs only [go_sem, ↓reduceIte, reduceCtorEq, Nat.reduceEqDiff, Nat.reduceAdd, Nat.reduceMul, Nat.reduceLeDiff, Nat.reduceSub, Int.reduceNeg]
theorem sourceOf_law (h : H) (args : List Value) (ha : okAs h [.one (.sl [.int .i64, .int .i64, .int .i64, .int .i64]), .one (.f (.int .i64)), .one (.f (.int .i64))] args) : AC Try.prog 4 args h fun r _ => r = .bool true := by
  obtain ⟨v, _, rfl, ⟨rows, hs, hf, hn⟩, a0⟩ := okAs_cons ha
  obtain ⟨_, _, rfl, q1, a1⟩ := okAs_cons a0
  obtain ⟨done, rfl, _⟩ := q1
  obtain ⟨_, _, rfl, q2, a2⟩ := okAs_cons a1
  obtain ⟨block, rfl, _⟩ := q2
  obtain rfl := okAs_nil a2
  obtain ⟨l, rfl, hok⟩ := moves_of rows hf
  exact sourceOf_walk hs (by simpa using hn)
section
open Go.ChangeShapes Go.WideShapes Go.ChangeAt Go.RowKit
theorem fnExactSourceOf_lifted (os : Os) (started : os.Started) (H' : Type) (enc : TypeId × Value → H') : ReturnsInHanded {} Try.checked os 4 .any (Rows.fnExactSourceOfSpec.pre6 enc Try.prog Try.f4 Rows.fnExactSourceOfRow.domain false) (Rows.fnExactSourceOfSpec.post enc Try.prog Try.f4 false true false false) :=
  law_row (Ck := Try.checked) [.one (.sl [.int .i64, .int .i64, .int .i64, .int .i64]), .one (.f (.int .i64)), .one (.f (.int .i64))] (by kernel_rfl) started (by kernel_rfl) Try.func4 (ChangeSpec.witness6 (enc := enc) (C := Try.checked) false ⟨#[], #[.slice none 0 0, .int .i64 0, .int .i64 0], []⟩ 8 (by kernel_rfl) (by kernel_rfl) (by kernel_rfl) (by kernel_rfl))
    (by kernel_rfl) (by kernel_rfl) rfl (by kernel_rfl : Try.prog.underlying (Try.f4.resultTypes.getD 0 0) = some .bool) rfl
    (fun ds hd => by
      rw [show Try.f4.params.toList.length = 3 by kernel_rfl] at hd
      match ds, hd with
      | [_, _, _], _ => rfl)
    (by kernel_rfl) sourceOf_law
theorem fnExactSourceOf_holds : Rows.FnExactSourceOfSaid :=
  OpenClaim.holds_of_wide 4 Try.f4 rfl rfl rfl rfl rfl rfl rfl ⟨rfl, rfl, rfl, rfl, rfl⟩ rfl rfl rfl rfl rfl (by kernel_rfl) Try.func4 (by kernel_rfl)
    (of_decide_eq_true (by kernel_rfl)) (by unfold Func.isWrapper; first | (rw [if_pos (by decide +kernel)]; kernel_rfl) | (rw [if_neg (by decide +kernel)]; exact ⟨rfl, rfl⟩))
    (fun os started H' enc _ => fnExactSourceOf_lifted os started H' enc)
end
end Go.Proofs.Ytneiikjafpnapaa
