/- NoteBytes of the program returns what NoteBytes of the reference returns, for all arguments: the given statement, with no condition. -/
import Derived.Test.YtneiikjafpnapaaC13a
import Derived.Test.YtneiikjafpnapaaRows
import Derived.ProofKit
import Derived.ShutString
import Derived.ChangeOld
import Derived.Below
set_option linter.unusedVariables false
set_option linter.unusedSimpArgs false
set_option maxRecDepth 100000
namespace Go.Proofs.Ytneiikjafpnapaa
open Go.KH

/-- laws.FnExactNoteBytes -/
def b_laws_FnExactNoteBytes : C := (.seq (.ops [q 6 (.mv (.c (.bool false)))])
 (.seq (.seq (.ops [q 9 (.mv (.t 2)), q 10 (.slen (.t 9)), q 11 (.bin .gtr (.t 10) (.c (i64 1048576)))])
 (.cond (.t 11) (.seq (.ops [q 6 (.mv (.c (.bool true)))])
 .ret) .skip))
 (.seq (.ops [q 12 (.mv (.t 0)), q 13 (.mv (.t 1)), q 14 (.mv (.t 2)), ⟨(some 15), none, .call (.c (.func (.func 29) #[] #[])) [(.t 12), (.t 13), (.t 14)]⟩, q 7 (.mv (.t 15))])
 (.seq (.ops [q 16 (.mv (.t 0)), q 17 (.mv (.t 1)), q 18 (.mv (.t 2)), ⟨(some 19), none, .call (.c (.func (.func 30) #[] #[])) [(.t 16), (.t 17), (.t 18)]⟩, q 8 (.mv (.t 19))])
 (.seq (.seq (.ops [q 20 (.mv (.t 8)), q 21 (.mv (.t 7)), q 22 (.bin .neq (.t 20) (.t 21))])
 (.cond (.t 22) (.seq (.ops [q 6 (.mv (.c (.bool false)))])
 .ret) .skip))
 (.seq (.ops [q 6 (.mv (.c (.bool true)))])
 .ret))))))
theorem w_laws_FnExactNoteBytes {args : List Value} {h : H} {Q : Value → H → Prop} (hl : args.length ≤ 23) (hk : wpc Try.prog b_laws_FnExactNoteBytes (retw [.tmp 6] Q) (argsFr args) h) : AC Try.prog 7 args h Q :=
  AC.of_wpc mixedOrders Try.func7 (by kernel_rfl) (by kernel_rfl : prepF Try.prog Try.f7 = some ⟨23, [.tmp 6], b_laws_FnExactNoteBytes⟩) hl hk

theorem noteBytes_walk {h : H} {n at_ : Int} {data : List UInt8} (hn : in64 n) (ha : in64 at_) : AC Try.prog 7 [i64 n, i64 at_, str data] h fun r _ => r = .bool true := by
  refine w_laws_FnExactNoteBytes (by simp) ?_
  unfold b_laws_FnExactNoteBytes
  simp -implicitDefEqProofs only [go_sem, ↓reduceIte, reduceCtorEq, Int.reduceEq, Int.reduceLT, Int.reduceLE, Nat.reduceEqDiff, Nat.reduceAdd, Nat.reduceMul, Nat.reduceLeDiff, Nat.reduceSub, Int.reduceNeg]
  refine Br.of (fun hc => ?_) (fun hc => ?_)
  · simp -implicitDefEqProofs only [go_sem, ↓reduceIte, reduceCtorEq, Int.reduceEq, Int.reduceLT, Int.reduceLE, Nat.reduceEqDiff, Nat.reduceAdd, Nat.reduceMul, Nat.reduceLeDiff, Nat.reduceSub, Int.reduceNeg, hc]
  · simp -implicitDefEqProofs only [go_sem, ↓reduceIte, reduceCtorEq, Int.reduceEq, Int.reduceLT, Int.reduceLE, Nat.reduceEqDiff, Nat.reduceAdd, Nat.reduceMul, Nat.reduceLeDiff, Nat.reduceSub, Int.reduceNeg, hc]
    refine (specNoteBytes_pc _ _ _ _ hn ha).use ?_
    simp -implicitDefEqProofs only [go_sem, ↓reduceIte, reduceCtorEq, Int.reduceEq, Int.reduceLT, Int.reduceLE, Nat.reduceEqDiff, Nat.reduceAdd, Nat.reduceMul, Nat.reduceLeDiff, Nat.reduceSub, Int.reduceNeg]
    refine (implNoteBytes_pc _ _ _ _ hn ha).use ?_
    simp -implicitDefEqProofs only [go_sem, ↓reduceIte, reduceCtorEq, Int.reduceEq, Int.reduceLT, Int.reduceLE, Nat.reduceEqDiff, Nat.reduceAdd, Nat.reduceMul, Nat.reduceLeDiff, Nat.reduceSub, Int.reduceNeg]
theorem noteBytes_law (h : H) (args : List Value) (ha : okAs h [.one (.f (.int .i64)), .one (.f (.int .i64)), .one (.f .str)] args) : AC Try.prog 7 args h fun r _ => r = .bool true := by
  obtain ⟨_, _, rfl, q0, a0⟩ := okAs_cons ha
  obtain ⟨_, _, rfl, q1, a1⟩ := okAs_cons a0
  obtain ⟨_, _, rfl, q2, a2⟩ := okAs_cons a1
  obtain rfl := okAs_nil a2
  obtain ⟨n, rfl, hn⟩ := okF_i q0
  obtain ⟨m, rfl, hm⟩ := okF_i q1
  obtain ⟨t, rfl, ht⟩ := q2
  exact noteBytes_walk hn hm
section
open Go.ChangeShapes Go.WideShapes Go.ChangeAt Go.RowKit
theorem fnExactNoteBytes_lifted (os : Os) (started : os.Started) (H' : Type) (enc : TypeId × Value → H') : ReturnsInHanded {} Try.checked os 7 .any (Rows.fnExactNoteBytesSpec.pre6 enc Try.prog Try.f7 Rows.fnExactNoteBytesRow.domain false) (Rows.fnExactNoteBytesSpec.post enc Try.prog Try.f7 false true false false) :=
  law_row (Ck := Try.checked) [.one (.f (.int .i64)), .one (.f (.int .i64)), .one (.f .str)] (by kernel_rfl) started (by kernel_rfl) Try.func7 (ChangeSpec.witness6 (enc := enc) (C := Try.checked) false ⟨#[], #[.int .i64 0, .int .i64 0, .string ByteArray.empty], []⟩ 8 (by kernel_rfl) (by kernel_rfl) (by kernel_rfl) (by kernel_rfl))
    (by kernel_rfl) (by kernel_rfl) rfl (by kernel_rfl : Try.prog.underlying (Try.f7.resultTypes.getD 0 0) = some .bool) rfl
    (fun ds hd => by
      rw [show Try.f7.params.toList.length = 3 by kernel_rfl] at hd
      match ds, hd with
      | [_, _, _], _ => rfl)
    (by kernel_rfl) noteBytes_law
theorem fnExactNoteBytes_holds : Rows.FnExactNoteBytesSaid :=
  OpenClaim.holds_of_wide 7 Try.f7 rfl rfl rfl rfl rfl rfl rfl ⟨rfl, rfl, rfl, rfl, rfl⟩ rfl rfl rfl rfl rfl (by kernel_rfl) Try.func7 (by kernel_rfl)
    (of_decide_eq_true (by kernel_rfl)) (by unfold Func.isWrapper; first | (rw [if_pos (by decide +kernel)]; kernel_rfl) | (rw [if_neg (by decide +kernel)]; exact ⟨rfl, rfl⟩))
    (fun os started H' enc _ => fnExactNoteBytes_lifted os started H' enc)
end
end Go.Proofs.Ytneiikjafpnapaa
