/- StateBytes of the program returns what StateBytes of the reference returns, for all arguments: the given statement, with no condition. -/
import Derived.Test.YtneiikjafpnapaaC12b
import Derived.Test.YtneiikjafpnapaaRows
import Derived.ProofKit
import Derived.ShutString
import Derived.ChangeOld
import Derived.Below
set_option linter.unusedVariables false
set_option linter.unusedSimpArgs false
set_option maxRecDepth 100000
namespace Go.Proofs.Ytneiikjafpnapaa
open Go.KH

/-- laws.FnExactStateBytes -/
def b_laws_FnExactStateBytes : C := (.seq (.ops [⟨(some 1), none, .box (.t 0)⟩, q 2 (.mv (.c (.bool false)))])
 (.seq (.ops [q 3 (.mv (.c (i64 1048576)))])
 (.seq (.ops [q 7 (.ld true 8 (.t 1)), q 8 (.mv (.t 3)), ⟨(some 9), none, .call (.c (.func (.func 35) #[] #[])) [(.t 7), (.t 8)]⟩, q 3 (.mv (.t 9))])
 (.seq (.seq (.ops [q 10 (.mv (.t 3)), q 11 (.bin .lss (.t 10) (.c (i64 0)))])
 (.cond (.t 11) (.seq (.ops [q 2 (.mv (.c (.bool true)))])
 .ret) .skip))
 (.seq (.ops [q 12 (.ld true 8 (.t 1)), ⟨(some 13), none, .call (.c (.func (.func 37) #[] #[])) [(.t 12)]⟩, ⟨(some 14), none, .call (.c (.func (.func 48) #[] #[])) [(.t 13)]⟩, q 4 (.mv (.t 14))])
 (.seq (.ops [q 15 (.ld true 8 (.t 1)), ⟨(some 16), none, .call (.c (.func (.func 37) #[] #[])) [(.t 15)]⟩, ⟨(some 5), none, .alloc [(i64 0), (i64 0), (i64 0), (i64 0), (i64 0), (str []), nils, nils]⟩, ⟨none, none, .st 8 (.t 5) (.t 16)⟩])
 (.seq (.ops [q 17 (.ld true 8 (.t 5)), ⟨(some 18), none, .call (.c (.func (.func 49) #[] #[])) [(.t 17)]⟩, q 6 (.mv (.t 18))])
 (.seq (.seq (.ops [q 19 (.mv (.t 6)), q 20 (.mv (.t 4)), q 21 (.bin .neq (.t 19) (.t 20))])
 (.cond (.t 21) (.seq (.ops [q 2 (.mv (.c (.bool false)))])
 .ret) .skip))
 (.seq (.seq (.dops true (.tk (q 22 (.ld true 8 (.t 5))) (.tk (q 23 (.ld true 8 (.t 1))) (.sq (⟨(some 24), none, .call (.c (.func (.func 37) #[] #[])) [(.t 23)]⟩) (.sq (⟨(some 25), none, .call (.c (.func (.func 39) #[] #[])) [(.t 22), (.t 24)]⟩) (.tk (q 26 (.un .not (.t 25))) .nil))))))
 (.cond (.t 26) (.seq (.ops [q 2 (.mv (.c (.bool false)))])
 .ret) .skip))
 (.seq (.ops [q 2 (.mv (.c (.bool true)))])
 .ret))))))))))
theorem w_laws_FnExactStateBytes {args : List Value} {h : H} {Q : Value → H → Prop} (hl : args.length ≤ 27) (hk : wpc Try.prog b_laws_FnExactStateBytes (retw [.tmp 2] Q) (argsFr args) h) : AC Try.prog 12 args h Q :=
  AC.of_wpc mixedOrders Try.func12 (by kernel_rfl) (by kernel_rfl : prepF Try.prog Try.f12 = some ⟨27, [.tmp 2], b_laws_FnExactStateBytes⟩) hl hk

theorem stateBytes_walk {h : H} {cs : List Value} {s : UState} (hv : StR h cs s) (hs : s.ok) : AC Try.prog 12 [.agg cs.toArray] h fun r _ => r = .bool true := by
  obtain ⟨o1, o2, o3, o4, o5, o6, o7, o8⟩ := hs
  have R0 := hv
  obtain ⟨vh, vm, rfl, a1, a2⟩ := hv
  refine w_laws_FnExactStateBytes (by simp) ?_
  unfold b_laws_FnExactStateBytes
  simp -implicitDefEqProofs only [go_sem, ↓reduceIte, reduceCtorEq, Int.reduceEq, Int.reduceLT, Int.reduceLE, Nat.reduceEqDiff, Nat.reduceAdd, Nat.reduceMul, Nat.reduceLeDiff, Nat.reduceSub, Int.reduceNeg]
  intro b1 hb_b1 n_b1
  simp -implicitDefEqProofs only [go_sem, ↓reduceIte, reduceCtorEq, Int.reduceEq, Int.reduceLT, Int.reduceLE, Nat.reduceEqDiff, Nat.reduceAdd, Nat.reduceMul, Nat.reduceLeDiff, Nat.reduceSub, Int.reduceNeg, hb_b1]
  refine (szState_pc s (a1.ext ((Ext.refl _).set' n_b1 _)) (a2.ext ((Ext.refl _).set' n_b1 _)) o6 o7 o8 (by omega)).use ?_
  simp -implicitDefEqProofs only [go_sem, ↓reduceIte, reduceCtorEq, Int.reduceEq, Int.reduceLT, Int.reduceLE, Nat.reduceEqDiff, Nat.reduceAdd, Nat.reduceMul, Nat.reduceLeDiff, Nat.reduceSub, Int.reduceNeg, hb_b1]
  refine Br.of (fun hc => ?_) (fun hc => ?_)
  · simp -implicitDefEqProofs only [go_sem, ↓reduceIte, reduceCtorEq, Int.reduceEq, Int.reduceLT, Int.reduceLE, Nat.reduceEqDiff, Nat.reduceAdd, Nat.reduceMul, Nat.reduceLeDiff, Nat.reduceSub, Int.reduceNeg, hc, hb_b1]
  have hsm : s.small := by have := lessn_nn hc; unfold UState.small; omega
  have R1 := R0.ext ((Ext.refl h).set n_b1 ⟨s.cells vh vm, 8⟩)
  simp -implicitDefEqProofs only [go_sem, ↓reduceIte, reduceCtorEq, Int.reduceEq, Int.reduceLT, Int.reduceLE, Nat.reduceEqDiff, Nat.reduceAdd, Nat.reduceMul, Nat.reduceLeDiff, Nat.reduceSub, Int.reduceNeg, hc, hb_b1]
  refine AC_of (toState_ac R1 hsm) ?_
  rintro _ h1 - ⟨e1, cs1, rfl, F1⟩
  have g1 := e1.2.g b1 _ (by simp -implicitDefEqProofs only [go_sem, ↓reduceIte, reduceCtorEq, Int.reduceEq, Int.reduceLT, Int.reduceLE, Nat.reduceEqDiff, Nat.reduceAdd, Nat.reduceMul, Nat.reduceLeDiff, Nat.reduceSub, Int.reduceNeg, hb_b1]; rfl)
  obtain ⟨u1, u2, rfl, q1, q2, -⟩ := id F1
  simp -implicitDefEqProofs only [go_sem, ↓reduceIte, reduceCtorEq, Int.reduceEq, Int.reduceLT, Int.reduceLE, Nat.reduceEqDiff, Nat.reduceAdd, Nat.reduceMul, Nat.reduceLeDiff, Nat.reduceSub, Int.reduceNeg, ldc_get g1, hb_b1]
  refine (specStateBytes_pc s q1.sl q2.sl hsm).use ?_
  simp -implicitDefEqProofs only [go_sem, ↓reduceIte, reduceCtorEq, Int.reduceEq, Int.reduceLT, Int.reduceLE, Nat.reduceEqDiff, Nat.reduceAdd, Nat.reduceMul, Nat.reduceLeDiff, Nat.reduceSub, Int.reduceNeg, ldc_get g1, hb_b1]
  refine AC_of (toState_ac (R1.ext e1) hsm) ?_
  rintro _ h2 - ⟨e2, cs2, rfl, F2⟩
  have g2 := e2.2.g b1 _ g1
  obtain ⟨x1, x2, rfl, y1, y2, -⟩ := id F2
  simp -implicitDefEqProofs only [go_sem, ↓reduceIte, reduceCtorEq, Int.reduceEq, Int.reduceLT, Int.reduceLE, Nat.reduceEqDiff, Nat.reduceAdd, Nat.reduceMul, Nat.reduceLeDiff, Nat.reduceSub, Int.reduceNeg, ldc_get g2, hb_b1]
  intro b2 hb_b2 n_b2
  simp -implicitDefEqProofs only [go_sem, ↓reduceIte, reduceCtorEq, Int.reduceEq, Int.reduceLT, Int.reduceLE, Nat.reduceEqDiff, Nat.reduceAdd, Nat.reduceMul, Nat.reduceLeDiff, Nat.reduceSub, Int.reduceNeg, y1.sl.one, y2.sl.one, hb_b1, hb_b2]
  have z12 : (b1 = b2) = False := eq_false fun e => by subst e; rw [g2] at n_b2; cases n_b2
  have E2 := (Ext.refl h2).set n_b2
  refine (implStateBytes_pc s (y1.ext (E2 _)).sl (y2.ext (E2 _)).sl hsm).use ?_
  simp -implicitDefEqProofs only [go_sem, ↓reduceIte, reduceCtorEq, Int.reduceEq, Int.reduceLT, Int.reduceLE, Nat.reduceEqDiff, Nat.reduceAdd, Nat.reduceMul, Nat.reduceLeDiff, Nat.reduceSub, Int.reduceNeg, ldc_get g2, z12, hb_b1, hb_b2]
  have E3 := E2 ⟨s.cells x1 x2, 8⟩
  refine AC_of (toState_ac (((R1.ext e1).ext e2).ext E3) hsm) ?_
  rintro _ h3 - ⟨e3, cs3, rfl, F3⟩
  have g3 := e3.2.g b2 _ (by simp -implicitDefEqProofs only [go_sem, ↓reduceIte, reduceCtorEq, Int.reduceEq, Int.reduceLT, Int.reduceLE, Nat.reduceEqDiff, Nat.reduceAdd, Nat.reduceMul, Nat.reduceLeDiff, Nat.reduceSub, Int.reduceNeg, hb_b1, hb_b2]; rfl)
  simp -implicitDefEqProofs only [go_sem, ↓reduceIte, reduceCtorEq, Int.reduceEq, Int.reduceLT, Int.reduceLE, Nat.reduceEqDiff, Nat.reduceAdd, Nat.reduceMul, Nat.reduceLeDiff, Nat.reduceSub, Int.reduceNeg, ldc_get g3, hb_b1, hb_b2]
  refine ⟨e3.2, ?_⟩
  refine (eqState_pc (((F2.ext E3).ext e3).r) F3.r o7 o8).use ?_
  simp -implicitDefEqProofs only [go_sem, ↓reduceIte, reduceCtorEq, Int.reduceEq, Int.reduceLT, Int.reduceLE, Nat.reduceEqDiff, Nat.reduceAdd, Nat.reduceMul, Nat.reduceLeDiff, Nat.reduceSub, Int.reduceNeg, e3.2, hb_b1, hb_b2]
theorem stateBytes_law (h : H) (args : List Value) (ha : okAs h [.agg stLT] args) : AC Try.prog 12 args h fun r _ => r = .bool true := by
  obtain ⟨v, _, rfl, ⟨cs, rfl, q0⟩, a0⟩ := okAs_cons ha
  obtain rfl := okAs_nil a0
  obtain ⟨s, r, k⟩ := state_of q0
  exact stateBytes_walk r k
section
open Go.ChangeShapes Go.WideShapes Go.ChangeAt Go.RowKit
theorem fnExactStateBytes_lifted (os : Os) (started : os.Started) (H' : Type) (enc : TypeId × Value → H') : ReturnsInHanded {} Try.checked os 12 .any (Rows.fnExactStateBytesSpec.pre6 enc Try.prog Try.f12 Rows.fnExactStateBytesRow.domain false) (Rows.fnExactStateBytesSpec.post enc Try.prog Try.f12 false true false false) :=
  law_row (Ck := Try.checked) [.agg [.f (.int .i64), .f (.int .i64), .f (.int .i64), .f (.int .i64), .f (.int .i64), .f .str, .sl [.int .i64], .sl [.int .i64]]] (by kernel_rfl) started (by kernel_rfl) Try.func12 (ChangeSpec.witness6 (enc := enc) (C := Try.checked) false ⟨#[], #[.agg #[.int .i64 0, .int .i64 0, .int .i64 0, .int .i64 0, .int .i64 0, .string ByteArray.empty, .slice none 0 0, .slice none 0 0]], []⟩ 8 (by kernel_rfl) (by kernel_rfl) (by kernel_rfl) (by kernel_rfl))
    (by kernel_rfl) (by kernel_rfl) rfl (by kernel_rfl : Try.prog.underlying (Try.f12.resultTypes.getD 0 0) = some .bool) rfl
    (fun ds hd => by
      rw [show Try.f12.params.toList.length = 1 by kernel_rfl] at hd
      match ds, hd with
      | [_], _ => rfl)
    (by kernel_rfl) stateBytes_law
theorem fnExactStateBytes_holds : Rows.FnExactStateBytesSaid :=
  OpenClaim.holds_of_wide 12 Try.f12 rfl rfl rfl rfl rfl rfl rfl ⟨rfl, rfl, rfl, rfl, rfl⟩ rfl rfl rfl rfl rfl (by kernel_rfl) Try.func12 (by kernel_rfl)
    (of_decide_eq_true (by kernel_rfl)) (by unfold Func.isWrapper; first | (rw [if_pos (by decide +kernel)]; kernel_rfl) | (rw [if_neg (by decide +kernel)]; exact ⟨rfl, rfl⟩))
    (fun os started H' enc _ => fnExactStateBytes_lifted os started H' enc)
end
end Go.Proofs.Ytneiikjafpnapaa
