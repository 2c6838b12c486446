/- NoteRead of the program returns what NoteRead of the reference returns, for all arguments: the given statement, with no condition. -/
import Derived.Test.YtneiikjafpnapaaC13b
import Derived.Test.YtneiikjafpnapaaRows
import Derived.ProofKit
import Derived.ShutString
import Derived.ChangeOld
import Derived.Below
set_option linter.unusedVariables false
set_option linter.unusedSimpArgs false
set_option maxRecDepth 100000
namespace Go.Proofs.Ytneiikjafpnapaa
open Go.KH

/-- laws.eqAct -/
def b_laws_eqAct : C := (.seq (.ops [⟨(some 2), none, .box (.t 0)⟩, ⟨(some 3), none, .box (.t 1)⟩, q 4 (.mv (.c (.bool false)))])
 (.seq (.seq (.ops [q 5 (.fld 0 (.t 2)), q 6 (.ld false 1 (.t 5)), q 7 (.fld 0 (.t 3)), q 8 (.ld false 1 (.t 7)), q 9 (.eqb true (.t 6) (.t 8))])
 (.cond (.t 9) (.seq (.ops [q 4 (.mv (.c (.bool false)))])
 .ret) .skip))
 (.seq (.seq (.ops [q 10 (.fld 1 (.t 2)), q 11 (.ld false 1 (.t 10)), q 12 (.fld 1 (.t 3)), q 13 (.ld false 1 (.t 12)), q 14 (.bin .neq (.t 11) (.t 13))])
 (.cond (.t 14) (.seq (.ops [q 4 (.mv (.c (.bool false)))])
 .ret) .skip))
 (.seq (.seq (.ops [q 15 (.fld 2 (.t 2)), q 16 (.ld false 1 (.t 15)), q 17 (.fld 2 (.t 3)), q 18 (.ld false 1 (.t 17)), q 19 (.bin .neq (.t 16) (.t 18))])
 (.cond (.t 19) (.seq (.ops [q 4 (.mv (.c (.bool false)))])
 .ret) .skip))
 (.seq (.ops [q 4 (.mv (.c (.bool true)))])
 .ret)))))
theorem w_laws_eqAct {args : List Value} {h : H} {Q : Value → H → Prop} (hl : args.length ≤ 20) (hk : wpc Try.prog b_laws_eqAct (retw [.tmp 4] Q) (argsFr args) h) : AC Try.prog 55 args h Q :=
  AC.of_wpc mixedOrders Try.func55 (by kernel_rfl) (by kernel_rfl : prepF Try.prog Try.f55 = some ⟨20, [.tmp 4], b_laws_eqAct⟩) hl hk

theorem eqAct_pc (h : H) (a : Option (Int × List UInt8)) : PC Try.prog 55 [.agg (actC a).toArray, .agg (actC a).toArray] h (.bool true) := by
  refine PC_of ?_
  cases a with
  | none =>
    refine w_laws_eqAct (by simp) ?_
    unfold b_laws_eqAct
    simp -implicitDefEqProofs only [go_sem, ↓reduceIte, reduceCtorEq, Int.reduceEq, Int.reduceLT, Int.reduceLE, Nat.reduceEqDiff, Nat.reduceAdd, Nat.reduceMul, Nat.reduceLeDiff, Nat.reduceSub, Int.reduceNeg]
    intro b1 hb_b1 n_b1
    simp -implicitDefEqProofs only [go_sem, ↓reduceIte, reduceCtorEq, Int.reduceEq, Int.reduceLT, Int.reduceLE, Nat.reduceEqDiff, Nat.reduceAdd, Nat.reduceMul, Nat.reduceLeDiff, Nat.reduceSub, Int.reduceNeg, hb_b1]
    intro b2 hb_b2 m0_b2
    obtain ⟨z_b2_b1, y_b2_b1, n_b2⟩ := fne m0_b2
    simp only [H.set_base] at hb_b2
    simp -implicitDefEqProofs only [go_sem, ↓reduceIte, reduceCtorEq, Int.reduceEq, Int.reduceLT, Int.reduceLE, Nat.reduceEqDiff, Nat.reduceAdd, Nat.reduceMul, Nat.reduceLeDiff, Nat.reduceSub, Int.reduceNeg, hb_b1, hb_b2, z_b2_b1, y_b2_b1]
    exact (((Ext.refl _).set' n_b1 _).set' n_b2 _)
  | some p =>
    skip
    refine w_laws_eqAct (by simp) ?_
    unfold b_laws_eqAct
    simp -implicitDefEqProofs only [go_sem, ↓reduceIte, reduceCtorEq, Int.reduceEq, Int.reduceLT, Int.reduceLE, Nat.reduceEqDiff, Nat.reduceAdd, Nat.reduceMul, Nat.reduceLeDiff, Nat.reduceSub, Int.reduceNeg]
    intro b1 hb_b1 n_b1
    simp -implicitDefEqProofs only [go_sem, ↓reduceIte, reduceCtorEq, Int.reduceEq, Int.reduceLT, Int.reduceLE, Nat.reduceEqDiff, Nat.reduceAdd, Nat.reduceMul, Nat.reduceLeDiff, Nat.reduceSub, Int.reduceNeg, hb_b1]
    intro b2 hb_b2 m0_b2
    obtain ⟨z_b2_b1, y_b2_b1, n_b2⟩ := fne m0_b2
    simp only [H.set_base] at hb_b2
    simp -implicitDefEqProofs only [go_sem, ↓reduceIte, reduceCtorEq, Int.reduceEq, Int.reduceLT, Int.reduceLE, Nat.reduceEqDiff, Nat.reduceAdd, Nat.reduceMul, Nat.reduceLeDiff, Nat.reduceSub, Int.reduceNeg, hb_b1, hb_b2, z_b2_b1, y_b2_b1]
    exact (((Ext.refl _).set' n_b1 _).set' n_b2 _)
/-- laws.FnExactNoteRead -/
def b_laws_FnExactNoteRead : C := (.seq (.ops [q 4 (.mv (.c (.bool false)))])
 (.seq (.seq (.ops [q 7 (.mv (.t 0)), q 8 (.slen (.t 7)), q 9 (.bin .gtr (.t 8) (.c (i64 1048576)))])
 (.cond (.t 9) (.seq (.ops [q 4 (.mv (.c (.bool true)))])
 .ret) .skip))
 (.seq (.ops [q 10 (.mv (.t 0)), q 11 (.mv (.t 1)), ⟨(some 12), none, .call (.c (.func (.func 53) #[] #[])) [(.t 10), (.t 11)]⟩, ⟨(some 5), none, .alloc [(.bool false), (i64 0), (str [])]⟩, ⟨none, none, .st 3 (.t 5) (.t 12)⟩])
 (.seq (.ops [q 13 (.mv (.t 0)), q 14 (.mv (.t 1)), ⟨(some 15), none, .call (.c (.func (.func 54) #[] #[])) [(.t 13), (.t 14)]⟩, ⟨(some 6), none, .alloc [(.bool false), (i64 0), (str [])]⟩, ⟨none, none, .st 3 (.t 6) (.t 15)⟩])
 (.seq (.seq (.ops [q 16 (.ld true 3 (.t 6)), q 17 (.ld true 3 (.t 5)), ⟨(some 18), none, .call (.c (.func (.func 55) #[] #[])) [(.t 16), (.t 17)]⟩, q 19 (.un .not (.t 18))])
 (.cond (.t 19) (.seq (.ops [q 4 (.mv (.c (.bool false)))])
 .ret) .skip))
 (.seq (.ops [q 4 (.mv (.c (.bool true)))])
 .ret))))))
theorem w_laws_FnExactNoteRead {args : List Value} {h : H} {Q : Value → H → Prop} (hl : args.length ≤ 20) (hk : wpc Try.prog b_laws_FnExactNoteRead (retw [.tmp 4] Q) (argsFr args) h) : AC Try.prog 14 args h Q :=
  AC.of_wpc mixedOrders Try.func14 (by kernel_rfl) (by kernel_rfl : prepF Try.prog Try.f14 = some ⟨20, [.tmp 4], b_laws_FnExactNoteRead⟩) hl hk

theorem actC_len (a : Option (Int × List UInt8)) : (actC a).length = 3 := by cases a <;> rfl
theorem actC_one (a : Option (Int × List UInt8)) : (actC a).all Value.oneCell' = true := by cases a <;> rfl
theorem noteRead_walk {h : H} {t : List UInt8} {n : Int} : AC Try.prog 14 [str t, i64 n] h fun r _ => r = .bool true := by
  refine w_laws_FnExactNoteRead (by simp) ?_
  unfold b_laws_FnExactNoteRead
  simp -implicitDefEqProofs only [go_sem, ↓reduceIte, reduceCtorEq, Int.reduceEq, Int.reduceLT, Int.reduceLE, Nat.reduceEqDiff, Nat.reduceAdd, Nat.reduceMul, Nat.reduceLeDiff, Nat.reduceSub, Int.reduceNeg]
  refine Br.of (fun hc => ?_) (fun hc => ?_)
  · simp -implicitDefEqProofs only [go_sem, ↓reduceIte, reduceCtorEq, Int.reduceEq, Int.reduceLT, Int.reduceLE, Nat.reduceEqDiff, Nat.reduceAdd, Nat.reduceMul, Nat.reduceLeDiff, Nat.reduceSub, Int.reduceNeg, hc]
  · simp -implicitDefEqProofs only [go_sem, ↓reduceIte, reduceCtorEq, Int.reduceEq, Int.reduceLT, Int.reduceLE, Nat.reduceEqDiff, Nat.reduceAdd, Nat.reduceMul, Nat.reduceLeDiff, Nat.reduceSub, Int.reduceNeg, hc]
    refine (specNoteRead_pc _ t n (by omega)).use ?_
    have q1 := actC_len (noteOut t n)
    have q2 := actC_one (noteOut t n)
    have q3 := take_len q1
    skip
    simp -implicitDefEqProofs only [go_sem, ↓reduceIte, reduceCtorEq, Int.reduceEq, Int.reduceLT, Int.reduceLE, Nat.reduceEqDiff, Nat.reduceAdd, Nat.reduceMul, Nat.reduceLeDiff, Nat.reduceSub, Int.reduceNeg, q1, q2, q3]
    intro b3 hb_b3 n_b3
    simp -implicitDefEqProofs only [go_sem, ↓reduceIte, reduceCtorEq, Int.reduceEq, Int.reduceLT, Int.reduceLE, Nat.reduceEqDiff, Nat.reduceAdd, Nat.reduceMul, Nat.reduceLeDiff, Nat.reduceSub, Int.reduceNeg, q1, q2, q3, hb_b3]
    refine (implNoteRead_pc _ t n).use ?_
    simp -implicitDefEqProofs only [go_sem, ↓reduceIte, reduceCtorEq, Int.reduceEq, Int.reduceLT, Int.reduceLE, Nat.reduceEqDiff, Nat.reduceAdd, Nat.reduceMul, Nat.reduceLeDiff, Nat.reduceSub, Int.reduceNeg, q1, q2, q3, hb_b3]
    intro b4 hb_b4 m0_b4
    obtain ⟨z_b4_b3, y_b4_b3, n_b4⟩ := fne m0_b4
    simp only [H.set_base] at hb_b4
    simp -implicitDefEqProofs only [go_sem, ↓reduceIte, reduceCtorEq, Int.reduceEq, Int.reduceLT, Int.reduceLE, Nat.reduceEqDiff, Nat.reduceAdd, Nat.reduceMul, Nat.reduceLeDiff, Nat.reduceSub, Int.reduceNeg, q1, q2, q3, hb_b3, hb_b4, z_b4_b3, y_b4_b3]
    refine (eqAct_pc _ (noteOut t n)).use ?_
    simp -implicitDefEqProofs only [go_sem, ↓reduceIte, reduceCtorEq, Int.reduceEq, Int.reduceLT, Int.reduceLE, Nat.reduceEqDiff, Nat.reduceAdd, Nat.reduceMul, Nat.reduceLeDiff, Nat.reduceSub, Int.reduceNeg, q1, q2, q3, hb_b3, hb_b4, z_b4_b3, y_b4_b3]
theorem noteRead_law (h : H) (args : List Value) (ha : okAs h [.one (.f .str), .one (.f (.int .i64))] args) : AC Try.prog 14 args h fun r _ => r = .bool true := by
  obtain ⟨v, _, rfl, ⟨t, rfl, ht⟩, a0⟩ := okAs_cons ha
  obtain ⟨_, _, rfl, q1, a1⟩ := okAs_cons a0
  obtain rfl := okAs_nil a1
  obtain ⟨n, rfl, hn⟩ := okF_i q1
  exact noteRead_walk
section
open Go.ChangeShapes Go.WideShapes Go.ChangeAt Go.RowKit
theorem fnExactNoteRead_lifted (os : Os) (started : os.Started) (H' : Type) (enc : TypeId × Value → H') : ReturnsInHanded {} Try.checked os 14 .any (Rows.fnExactNoteReadSpec.pre6 enc Try.prog Try.f14 Rows.fnExactNoteReadRow.domain false) (Rows.fnExactNoteReadSpec.post enc Try.prog Try.f14 false true false false) :=
  law_row (Ck := Try.checked) [.one (.f .str), .one (.f (.int .i64))] (by kernel_rfl) started (by kernel_rfl) Try.func14 (ChangeSpec.witness6 (enc := enc) (C := Try.checked) false ⟨#[], #[.string ByteArray.empty, .int .i64 0], []⟩ 8 (by kernel_rfl) (by kernel_rfl) (by kernel_rfl) (by kernel_rfl))
    (by kernel_rfl) (by kernel_rfl) rfl (by kernel_rfl : Try.prog.underlying (Try.f14.resultTypes.getD 0 0) = some .bool) rfl
    (fun ds hd => by
      rw [show Try.f14.params.toList.length = 2 by kernel_rfl] at hd
      match ds, hd with
      | [_, _], _ => rfl)
    (by kernel_rfl) noteRead_law
theorem fnExactNoteRead_holds : Rows.FnExactNoteReadSaid :=
  OpenClaim.holds_of_wide 14 Try.f14 rfl rfl rfl rfl rfl rfl rfl ⟨rfl, rfl, rfl, rfl, rfl⟩ rfl rfl rfl rfl rfl (by kernel_rfl) Try.func14 (by kernel_rfl)
    (of_decide_eq_true (by kernel_rfl)) (by unfold Func.isWrapper; first | (rw [if_pos (by decide +kernel)]; kernel_rfl) | (rw [if_neg (by decide +kernel)]; exact ⟨rfl, rfl⟩))
    (fun os started H' enc _ => fnExactNoteRead_lifted os started H' enc)
end
end Go.Proofs.Ytneiikjafpnapaa
