/- PackageBytes of the program returns what PackageBytes of the reference returns, for all arguments: the given statement, with no condition. -/
import Derived.Test.YtjgonndohjlhlaaC08
import Derived.Test.YtjgonndohjlhlaaRows
import Derived.ProofKit
import Derived.ShutString
import Derived.ChangeOld
import Derived.Below
set_option linter.unusedVariables false
set_option linter.unusedSimpArgs false
set_option maxRecDepth 100000
namespace Go.Proofs.Ytjgonndohjlhlaa
open Go.KH

/-- laws.FnExactPackageBytes -/
def b_laws_FnExactPackageBytes : C := (.seq (.ops [⟨(some 1), none, .box (.t 0)⟩, q 2 (.mv (.c (.bool false)))])
 (.seq (.ops [q 3 (.mv (.c (i64 1048576)))])
 (.seq (.ops [q 7 (.ld true 3 (.t 1)), q 8 (.mv (.t 3)), ⟨(some 9), none, .call (.c (.func (.func 23) #[] #[])) [(.t 7), (.t 8)]⟩, q 3 (.mv (.t 9))])
 (.seq (.seq (.ops [q 10 (.mv (.t 3)), q 11 (.bin .lss (.t 10) (.c (i64 0)))])
 (.cond (.t 11) (.seq (.ops [q 2 (.mv (.c (.bool true)))])
 .ret) .skip))
 (.seq (.ops [q 12 (.ld true 3 (.t 1)), ⟨(some 13), none, .call (.c (.func (.func 25) #[] #[])) [(.t 12)]⟩, ⟨(some 14), none, .call (.c (.func (.func 24) #[] #[])) [(.t 13)]⟩, q 4 (.mv (.t 14))])
 (.seq (.ops [q 15 (.ld true 3 (.t 1)), ⟨(some 16), none, .call (.c (.func (.func 25) #[] #[])) [(.t 15)]⟩, ⟨(some 5), none, .alloc [(i64 0), (str []), nils]⟩, ⟨none, none, .st 3 (.t 5) (.t 16)⟩])
 (.seq (.ops [q 17 (.ld true 3 (.t 5)), ⟨(some 18), none, .call (.c (.func (.func 26) #[] #[])) [(.t 17)]⟩, q 6 (.mv (.t 18))])
 (.seq (.seq (.ops [q 19 (.mv (.t 6)), q 20 (.mv (.t 4)), q 21 (.bin .neq (.t 19) (.t 20))])
 (.cond (.t 21) (.seq (.ops [q 2 (.mv (.c (.bool false)))])
 .ret) .skip))
 (.seq (.seq (.dops true (.tk (q 22 (.ld true 3 (.t 5))) (.tk (q 23 (.ld true 3 (.t 1))) (.sq (⟨(some 24), none, .call (.c (.func (.func 25) #[] #[])) [(.t 23)]⟩) (.sq (⟨(some 25), none, .call (.c (.func (.func 27) #[] #[])) [(.t 22), (.t 24)]⟩) (.tk (q 26 (.un .not (.t 25))) .nil))))))
 (.cond (.t 26) (.seq (.ops [q 2 (.mv (.c (.bool false)))])
 .ret) .skip))
 (.seq (.ops [q 2 (.mv (.c (.bool true)))])
 .ret))))))))))
theorem w_laws_FnExactPackageBytes {args : List Value} {h : H} {Q : Value → H → Prop} (hl : args.length ≤ 27) (hk : wpc Try.prog b_laws_FnExactPackageBytes (retw [.tmp 2] Q) (argsFr args) h) : AC Try.prog 5 args h Q :=
  AC.of_wpc mixedOrders Try.func5 (by kernel_rfl) (by kernel_rfl : prepF Try.prog Try.f5 = some ⟨27, [.tmp 2], b_laws_FnExactPackageBytes⟩) hl hk

theorem packageBytes_walk {h : H} {cs : List Value} {p : UPkg} (hv : RepR h (spPkg p) cs) (hok : p.ok) : AC Try.prog 5 [.agg cs.toArray] h fun r _ => r = .bool true := by
  have hl := hv.len
  have ht := take_len hl
  simp only [List.length_cons, List.length_nil, Nat.reduceAdd] at hl ht
  have ho := hv.one
  skip
  refine w_laws_FnExactPackageBytes (by simp) ?_
  unfold b_laws_FnExactPackageBytes
  simp -implicitDefEqProofs only [go_sem, ↓reduceIte, reduceCtorEq, Int.reduceEq, Int.reduceLT, Int.reduceLE, Nat.reduceEqDiff, Nat.reduceAdd, Nat.reduceMul, Nat.reduceLeDiff, Nat.reduceSub, Int.reduceNeg, hl, ht, ho]
  intro b1 hb_b1 n_b1
  simp -implicitDefEqProofs only [go_sem, ↓reduceIte, reduceCtorEq, Int.reduceEq, Int.reduceLT, Int.reduceLE, Nat.reduceEqDiff, Nat.reduceAdd, Nat.reduceMul, Nat.reduceLeDiff, Nat.reduceSub, Int.reduceNeg, hl, ht, ho, hb_b1]
  have X1 := (Ext.refl h).set n_b1 ⟨cs, 3⟩
  refine (szPackage_pc (left := 1048576) (hv.ext X1) hok (by omega)).use ?_
  simp -implicitDefEqProofs only [go_sem, ↓reduceIte, reduceCtorEq, Int.reduceEq, Int.reduceLT, Int.reduceLE, Nat.reduceEqDiff, Nat.reduceAdd, Nat.reduceMul, Nat.reduceLeDiff, Nat.reduceSub, Int.reduceNeg, hl, ht, ho, hb_b1]
  refine Br.of (fun hc => ?_) (fun hc => ?_)
  · simp -implicitDefEqProofs only [go_sem, ↓reduceIte, reduceCtorEq, Int.reduceEq, Int.reduceLT, Int.reduceLE, Nat.reduceEqDiff, Nat.reduceAdd, Nat.reduceMul, Nat.reduceLeDiff, Nat.reduceSub, Int.reduceNeg, hc, hl, ht, ho, hb_b1]
  have hsm : p.steps.length ≤ 1048576 := by have := lessn_nn hc; omega
  have hfin : p.fin := hok.2.2.1
  have R1 := hv.ext X1
  simp -implicitDefEqProofs only [go_sem, ↓reduceIte, reduceCtorEq, Int.reduceEq, Int.reduceLT, Int.reduceLE, Nat.reduceEqDiff, Nat.reduceAdd, Nat.reduceMul, Nat.reduceLeDiff, Nat.reduceSub, Int.reduceNeg, hc, hl, ht, ho, hb_b1]
  refine AC_of (toPackage_ac R1 hsm) ?_
  rintro _ h1 - ⟨e1, c1, rfl, F1⟩
  have g1 := e1.2.g b1 _ (H.set_get_same _ _ _)
  simp -implicitDefEqProofs only [go_sem, ↓reduceIte, reduceCtorEq, Int.reduceEq, Int.reduceLT, Int.reduceLE, Nat.reduceEqDiff, Nat.reduceAdd, Nat.reduceMul, Nat.reduceLeDiff, Nat.reduceSub, Int.reduceNeg, ldc_get g1, hl, ht, ho, hb_b1]
  refine (specPackageBytes_pc F1.r hsm hok).use ?_
  simp -implicitDefEqProofs only [go_sem, ↓reduceIte, reduceCtorEq, Int.reduceEq, Int.reduceLT, Int.reduceLE, Nat.reduceEqDiff, Nat.reduceAdd, Nat.reduceMul, Nat.reduceLeDiff, Nat.reduceSub, Int.reduceNeg, ldc_get g1, hl, ht, ho, hb_b1]
  refine AC_of (toPackage_ac (R1.ext e1) hsm) ?_
  rintro _ h2 - ⟨e2, x0, rfl, F2⟩
  have g2 := e2.2.g b1 _ g1
  have lx := F2.r.len
  have tx := take_len lx
  simp only [List.length_cons, List.length_nil, Nat.reduceAdd] at lx tx
  have qx := F2.r.one
  skip
  simp -implicitDefEqProofs only [go_sem, ↓reduceIte, reduceCtorEq, Int.reduceEq, Int.reduceLT, Int.reduceLE, Nat.reduceEqDiff, Nat.reduceAdd, Nat.reduceMul, Nat.reduceLeDiff, Nat.reduceSub, Int.reduceNeg, ldc_get g2, hl, ht, ho, hb_b1, lx, tx, qx]
  intro b2 hb_b2 n_b2
  simp -implicitDefEqProofs only [go_sem, ↓reduceIte, reduceCtorEq, Int.reduceEq, Int.reduceLT, Int.reduceLE, Nat.reduceEqDiff, Nat.reduceAdd, Nat.reduceMul, Nat.reduceLeDiff, Nat.reduceSub, Int.reduceNeg, hl, ht, ho, hb_b1, lx, tx, qx, hb_b2]
  have z12 : (b1 = b2) = False := eq_false fun e => by subst e; rw [g2] at n_b2; cases n_b2
  have E2 := (Ext.refl h2).set n_b2 ⟨x0, 3⟩
  refine (implPackageBytes_pc (F2.ext E2).r hsm hok).use ?_
  simp -implicitDefEqProofs only [go_sem, ↓reduceIte, reduceCtorEq, Int.reduceEq, Int.reduceLT, Int.reduceLE, Nat.reduceEqDiff, Nat.reduceAdd, Nat.reduceMul, Nat.reduceLeDiff, Nat.reduceSub, Int.reduceNeg, ldc_get g2, z12, hl, ht, ho, hb_b1, lx, tx, qx, hb_b2]
  refine AC_of (toPackage_ac (((R1.ext e1).ext e2).ext E2) hsm) ?_
  rintro _ h3 - ⟨e3, c3, rfl, F3⟩
  simp -implicitDefEqProofs only [go_sem, ↓reduceIte, reduceCtorEq, Int.reduceEq, Int.reduceLT, Int.reduceLE, Nat.reduceEqDiff, Nat.reduceAdd, Nat.reduceMul, Nat.reduceLeDiff, Nat.reduceSub, Int.reduceNeg, e3.2, hl, ht, ho, hb_b1, lx, tx, qx, hb_b2]
  refine (eqPackage_pc ((F2.ext E2).ext e3).r F3.r hfin).use ?_
  simp -implicitDefEqProofs only [go_sem, ↓reduceIte, reduceCtorEq, Int.reduceEq, Int.reduceLT, Int.reduceLE, Nat.reduceEqDiff, Nat.reduceAdd, Nat.reduceMul, Nat.reduceLeDiff, Nat.reduceSub, Int.reduceNeg, e3.2, hl, ht, ho, hb_b1, lx, tx, qx, hb_b2]
theorem packageBytes_law (h : H) (args : List Value) (ha : okAs h [.agg [.f (.int .i64), .f .str, .sl [.int .i64, .int .i64, .int .i64, .str]]] args) : AC Try.prog 5 args h fun r _ => r = .bool true := by
  obtain ⟨v, _, rfl, ⟨cs, rfl, q0⟩, a0⟩ := okAs_cons ha
  obtain rfl := okAs_nil a0
  obtain ⟨p, r, k⟩ := package_of q0
  exact packageBytes_walk r k
section
open Go.ChangeShapes Go.WideShapes Go.ChangeAt Go.RowKit
theorem fnExactPackageBytes_lifted (os : Os) (started : os.Started) (H' : Type) (enc : TypeId × Value → H') : ReturnsInHanded {} Try.checked os 5 .any (Rows.fnExactPackageBytesSpec.pre6 enc Try.prog Try.f5 Rows.fnExactPackageBytesRow.domain false) (Rows.fnExactPackageBytesSpec.post enc Try.prog Try.f5 false true false false) :=
  law_row (Ck := Try.checked) [.agg [.f (.int .i64), .f .str, .sl [.int .i64, .int .i64, .int .i64, .str]]] (by kernel_rfl) started (by kernel_rfl) Try.func5 (ChangeSpec.witness6 (enc := enc) (C := Try.checked) false ⟨#[], #[.agg #[.int .i64 0, .string ByteArray.empty, .slice none 0 0]], []⟩ 8 (by kernel_rfl) (by kernel_rfl) (by kernel_rfl) (by kernel_rfl))
    (by kernel_rfl) (by kernel_rfl) rfl (by kernel_rfl : Try.prog.underlying (Try.f5.resultTypes.getD 0 0) = some .bool) rfl
    (fun ds hd => by
      rw [show Try.f5.params.toList.length = 1 by kernel_rfl] at hd
      match ds, hd with
      | [_], _ => rfl)
    (by kernel_rfl) packageBytes_law
theorem fnExactPackageBytes_holds : Rows.FnExactPackageBytesSaid :=
  OpenClaim.holds_of_wide 5 Try.f5 rfl rfl rfl rfl rfl rfl rfl ⟨rfl, rfl, rfl, rfl, rfl⟩ rfl rfl rfl rfl rfl (by kernel_rfl) Try.func5 (by kernel_rfl)
    (of_decide_eq_true (by kernel_rfl)) (by unfold Func.isWrapper; first | (rw [if_pos (by decide +kernel)]; kernel_rfl) | (rw [if_neg (by decide +kernel)]; exact ⟨rfl, rfl⟩))
    (fun os started H' enc _ => fnExactPackageBytes_lifted os started H' enc)
end
end Go.Proofs.Ytjgonndohjlhlaa
