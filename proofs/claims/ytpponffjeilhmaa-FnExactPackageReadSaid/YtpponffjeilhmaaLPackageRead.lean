/- PackageRead of the program returns what PackageRead of the reference returns, for all arguments: the given statement, with no condition. -/
import Derived.Test.YtpponffjeilhmaaC08t
import Derived.Test.YtpponffjeilhmaaRows
import Derived.ProofKit
import Derived.ShutString
import Derived.ChangeOld
import Derived.Below
set_option linter.unusedVariables false
set_option linter.unusedSimpArgs false
set_option maxRecDepth 100000
namespace Go.Proofs.Ytpponffjeilhmaa
open Go.KH

/-- laws.FnExactPackageRead -/
def b_laws_FnExactPackageRead : C := (.seq (.ops [q 2 (.mv (.c (.bool false)))])
 (.seq (.seq (.ops [q 8 (.mv (.t 0)), q 9 (.slen (.t 8)), q 10 (.bin .gtr (.t 9) (.c (i64 1048576)))])
 (.cond (.t 10) (.seq (.ops [q 2 (.mv (.c (.bool true)))])
 .ret) .skip))
 (.seq (.ops [q 11 (.mv (.t 0)), ⟨(some 12), none, .call (.c (.func (.func 36) #[] #[])) [(.t 11)]⟩, ⟨(some 3), none, .alloc [(i64 0), (str []), nils, (i64 0)]⟩, ⟨none, none, .st 4 (.t 3) (.t 12)⟩])
 (.seq (.ops [q 13 (.mv (.t 0)), ⟨(some 14), none, .call (.c (.func (.func 37) #[] #[])) [(.t 13)]⟩, ⟨(some 4), none, .alloc [(i64 0), (str []), nils, (i64 0)]⟩, ⟨none, none, .st 4 (.t 4) (.t 14)⟩])
 (.seq (.seq (.ops [q 15 (.ld true 4 (.t 4)), q 16 (.ld true 4 (.t 3)), ⟨(some 17), none, .call (.c (.func (.func 38) #[] #[])) [(.t 15), (.t 16)]⟩, q 18 (.un .not (.t 17))])
 (.cond (.t 18) (.seq (.ops [q 2 (.mv (.c (.bool false)))])
 .ret) .skip))
 (.seq (.ops [q 5 (.mv (.c (i64 1)))])
 (.seq (.ops [q 19 (.ld true 4 (.t 4)), q 20 (.mv (.t 5)), ⟨(some 21), none, .call (.c (.func (.func 39) #[] #[])) [(.t 19), (.t 20)]⟩, q 5 (.mv (.t 21))])
 (.seq (.ops [q 6 (.mv (.c (i64 1)))])
 (.seq (.ops [q 22 (.ld true 4 (.t 4)), q 23 (.mv (.t 6)), ⟨(some 24), none, .call (.c (.func (.func 40) #[] #[])) [(.t 22), (.t 23)]⟩, q 6 (.mv (.t 24))])
 (.seq (.seq (.ops [q 25 (.mv (.t 6)), q 26 (.bin .lss (.t 25) (.c (i64 0)))])
 (.cond (.t 26) (.seq (.ops [q 2 (.mv (.c (.bool false)))])
 .ret) .skip))
 (.seq (.seq (.ops [q 27 (.mv (.t 6)), q 28 (.mv (.t 5)), q 29 (.bin .neq (.t 27) (.t 28))])
 (.cond (.t 29) (.seq (.ops [q 2 (.mv (.c (.bool false)))])
 .ret) .skip))
 (.seq (.ops [q 30 (.mv (.t 0)), ⟨(some 31), none, .call (.c (.func (.func 37) #[] #[])) [(.t 30)]⟩, ⟨(some 7), none, .alloc [(i64 0), (str []), nils, (i64 0)]⟩, ⟨none, none, .st 4 (.t 7) (.t 31)⟩])
 (.seq (.seq (.ops [q 32 (.ld true 4 (.t 7)), q 33 (.ld true 4 (.t 3)), ⟨(some 34), none, .call (.c (.func (.func 38) #[] #[])) [(.t 32), (.t 33)]⟩, q 35 (.un .not (.t 34))])
 (.cond (.t 35) (.seq (.ops [q 2 (.mv (.c (.bool false)))])
 .ret) .skip))
 (.seq (.ops [q 6 (.mv (.c (i64 1)))])
 (.seq (.ops [q 36 (.ld true 4 (.t 4)), q 37 (.mv (.t 6)), ⟨(some 38), none, .call (.c (.func (.func 40) #[] #[])) [(.t 36), (.t 37)]⟩, q 6 (.mv (.t 38))])
 (.seq (.seq (.ops [q 39 (.mv (.t 6)), q 40 (.bin .lss (.t 39) (.c (i64 0)))])
 (.cond (.t 40) (.seq (.ops [q 2 (.mv (.c (.bool false)))])
 .ret) .skip))
 (.seq (.seq (.ops [q 41 (.mv (.t 6)), q 42 (.mv (.t 5)), q 43 (.bin .neq (.t 41) (.t 42))])
 (.cond (.t 43) (.seq (.ops [q 2 (.mv (.c (.bool false)))])
 .ret) .skip))
 (.seq (.ops [q 2 (.mv (.c (.bool true)))])
 .ret))))))))))))))))))
theorem w_laws_FnExactPackageRead {args : List Value} {h : H} {Q : Value → H → Prop} (hl : args.length ≤ 44) (hk : wpc Try.prog b_laws_FnExactPackageRead (retw [.tmp 2] Q) (argsFr args) h) : AC Try.prog 7 args h Q :=
  AC.of_wpc mixedOrders Try.func7 (by kernel_rfl) (by kernel_rfl : prepF Try.prog Try.f7 = some ⟨44, [.tmp 2], b_laws_FnExactPackageRead⟩) hl hk


set_option maxHeartbeats 1600000 in
theorem packageRead_walk {h : H} {t : List UInt8} : AC Try.prog 7 [str t] h fun r _ => r = .bool true := by
  skip
  refine w_laws_FnExactPackageRead (by simp) ?_
  unfold b_laws_FnExactPackageRead
  simp -implicitDefEqProofs only [go_sem, ↓reduceIte, reduceCtorEq, Int.reduceEq, Int.reduceLT, Int.reduceLE, Nat.reduceEqDiff, Nat.reduceAdd, Nat.reduceMul, Nat.reduceLeDiff, Nat.reduceSub, Int.reduceNeg]
  have h20 := pkgR_small t
  have hio : (pkgR t).1.steps.length ≤ 1048576 := by omega
  have hfin : (pkgR t).1.fin := by unfold UPkg.fin; have := show maxLen = 9223372036854775807 from rfl; omega
  refine Br.of (fun h9 => ?_) (fun h9 => ?_)
  · simp -implicitDefEqProofs only [go_sem, ↓reduceIte, reduceCtorEq, Int.reduceEq, Int.reduceLT, Int.reduceLE, Nat.reduceEqDiff, Nat.reduceAdd, Nat.reduceMul, Nat.reduceLeDiff, Nat.reduceSub, Int.reduceNeg, h9]
  simp -implicitDefEqProofs only [go_sem, ↓reduceIte, reduceCtorEq, Int.reduceEq, Int.reduceLT, Int.reduceLE, Nat.reduceEqDiff, Nat.reduceAdd, Nat.reduceMul, Nat.reduceLeDiff, Nat.reduceSub, Int.reduceNeg, h9]
  refine AC_of (specPackageRead_ac (t := t) (by omega)) ?_
  rintro _ x1 - ⟨e1, w0, rfl, T_w0⟩
  have l_w0 := T_w0.r.len
  simp only [List.length_cons, List.length_nil, Nat.reduceAdd] at l_w0
  have q_w0 := T_w0.r.one
  have t_w0 := take_len l_w0
  simp -implicitDefEqProofs only [go_sem, ↓reduceIte, reduceCtorEq, Int.reduceEq, Int.reduceLT, Int.reduceLE, Nat.reduceEqDiff, Nat.reduceAdd, Nat.reduceMul, Nat.reduceLeDiff, Nat.reduceSub, Int.reduceNeg, l_w0, q_w0, t_w0]
  intro b_w0 hb_b_w0 n_b_w0
  have nn_w0_b_w0 := T_w0.r.known.ne n_b_w0
  have E_b_w0 := (Ext.refl x1).set n_b_w0 ⟨w0, 4⟩
  simp -implicitDefEqProofs only [go_sem, ↓reduceIte, reduceCtorEq, Int.reduceEq, Int.reduceLT, Int.reduceLE, Nat.reduceEqDiff, Nat.reduceAdd, Nat.reduceMul, Nat.reduceLeDiff, Nat.reduceSub, Int.reduceNeg, hb_b_w0, l_w0, q_w0, t_w0]
  have R2_w0 := RepR.ext T_w0.r E_b_w0
  have F2_w0 := RepF.ext T_w0 E_b_w0
  have G2_b_w0 : (x1.set b_w0 ⟨w0, 4⟩).get b_w0 = some ⟨w0, 4⟩ := H.set_get_same _ _ _
  refine AC_of (implPackageRead_ac (t := t)) ?_
  rintro _ x2 - ⟨e2, g0, rfl, T_g0⟩
  have nn_g0_b_w0 := RepF.new T_g0 |>.ne G2_b_w0
  have D_w0_g0 := DjL.of (RepR.known F2_w0.r) (RepF.new T_g0)
  have G3_b_w0 := e2.2.g b_w0 _ G2_b_w0
  have R3_w0 := RepR.ext F2_w0.r e2
  have F3_w0 := RepF.ext F2_w0 e2
  have l_g0 := T_g0.r.len
  simp only [List.length_cons, List.length_nil, Nat.reduceAdd] at l_g0
  have q_g0 := T_g0.r.one
  have t_g0 := take_len l_g0
  simp -implicitDefEqProofs only [go_sem, ↓reduceIte, reduceCtorEq, Int.reduceEq, Int.reduceLT, Int.reduceLE, Nat.reduceEqDiff, Nat.reduceAdd, Nat.reduceMul, Nat.reduceLeDiff, Nat.reduceSub, Int.reduceNeg, ldc_get G3_b_w0, l_w0, q_w0, t_w0, l_g0, q_g0, t_g0]
  intro b_g0 hb_b_g0 n_b_g0
  have z_b_w0_b_g0 : (b_w0 = b_g0) = False := eq_false fun e => by subst e; rw [G3_b_w0] at n_b_g0; cases n_b_g0
  have nn_w0_b_g0 := F3_w0.r.known.ne n_b_g0
  have nn_g0_b_g0 := T_g0.r.known.ne n_b_g0
  have E_b_g0 := (Ext.refl x2).set n_b_g0 ⟨g0, 4⟩
  simp -implicitDefEqProofs only [go_sem, ↓reduceIte, reduceCtorEq, Int.reduceEq, Int.reduceLT, Int.reduceLE, Nat.reduceEqDiff, Nat.reduceAdd, Nat.reduceMul, Nat.reduceLeDiff, Nat.reduceSub, Int.reduceNeg, hb_b_g0, ldc_get G3_b_w0, z_b_w0_b_g0, l_w0, q_w0, t_w0, l_g0, q_g0, t_g0]
  have G4_b_w0 := E_b_g0.2.g b_w0 _ G3_b_w0
  have R4_w0 := RepR.ext F3_w0.r E_b_g0
  have R4_g0 := RepR.ext T_g0.r E_b_g0
  have F4_w0 := RepF.ext F3_w0 E_b_g0
  have F4_g0 := RepF.ext T_g0 E_b_g0
  have G4_b_g0 : (x2.set b_g0 ⟨g0, 4⟩).get b_g0 = some ⟨g0, 4⟩ := H.set_get_same _ _ _
  refine (eqPackageOut_pc F4_g0.r F4_w0.r hfin).use ?_
  simp -implicitDefEqProofs only [go_sem, ↓reduceIte, reduceCtorEq, Int.reduceEq, Int.reduceLT, Int.reduceLE, Nat.reduceEqDiff, Nat.reduceAdd, Nat.reduceMul, Nat.reduceLeDiff, Nat.reduceSub, Int.reduceNeg, ldc_get G4_b_w0, ldc_get G4_b_g0, z_b_w0_b_g0, l_w0, q_w0, t_w0, l_g0, q_g0, t_g0]
  simp -implicitDefEqProofs only [go_sem, ↓reduceIte, reduceCtorEq, Int.reduceEq, Int.reduceLT, Int.reduceLE, Nat.reduceEqDiff, Nat.reduceAdd, Nat.reduceMul, Nat.reduceLeDiff, Nat.reduceSub, Int.reduceNeg, ldc_get G4_b_w0, ldc_get G4_b_g0, z_b_w0_b_g0, l_w0, q_w0, t_w0, l_g0, q_g0, t_g0]
  refine AC_of (markPackageOut_ac F4_g0 hio (by omega)) ?_
  rintro _ mg - ⟨rfl, kg, Mg⟩
  have G5_b_w0 := kg.2.1 b_w0 _ nn_g0_b_w0 G4_b_w0
  have G5_b_g0 := kg.2.1 b_g0 _ nn_g0_b_g0 G4_b_g0
  have F5_w0 := RepF.keep F4_w0 kg D_w0_g0
  simp -implicitDefEqProofs only [go_sem, ↓reduceIte, reduceCtorEq, Int.reduceEq, Int.reduceLT, Int.reduceLE, Nat.reduceEqDiff, Nat.reduceAdd, Nat.reduceMul, Nat.reduceLeDiff, Nat.reduceSub, Int.reduceNeg, ldc_get G5_b_w0, ldc_get G5_b_g0, z_b_w0_b_g0, l_w0, q_w0, t_w0, l_g0, q_g0, t_g0]
  refine (heldPackageOut_pc Mg hio (by omega)).use ?_
  simp -implicitDefEqProofs only [go_sem, ↓reduceIte, reduceCtorEq, Int.reduceEq, Int.reduceLT, Int.reduceLE, Nat.reduceEqDiff, Nat.reduceAdd, Nat.reduceMul, Nat.reduceLeDiff, Nat.reduceSub, Int.reduceNeg, show ¬ (1 + ((4 * (pkgR t).1.steps.length : Nat) : Int) < 0) by omega, ldc_get G5_b_w0, ldc_get G5_b_g0, z_b_w0_b_g0, l_w0, q_w0, t_w0, l_g0, q_g0, t_g0]
  refine AC_of (implPackageRead_ac (t := t)) ?_
  rintro _ x3 - ⟨e3, j0, rfl, T_j0⟩
  have nn_j0_b_w0 := RepF.new T_j0 |>.ne G5_b_w0
  have nn_j0_b_g0 := RepF.new T_j0 |>.ne G5_b_g0
  have D_w0_j0 := DjL.of (RepR.known F5_w0.r) (RepF.new T_j0)
  have G6_b_w0 := e3.2.g b_w0 _ G5_b_w0
  have G6_b_g0 := e3.2.g b_g0 _ G5_b_g0
  have R6_w0 := RepR.ext F5_w0.r e3
  have F6_w0 := RepF.ext F5_w0 e3
  have Mg := RepR.ext Mg e3
  have l_j0 := T_j0.r.len
  simp only [List.length_cons, List.length_nil, Nat.reduceAdd] at l_j0
  have q_j0 := T_j0.r.one
  have t_j0 := take_len l_j0
  simp -implicitDefEqProofs only [go_sem, ↓reduceIte, reduceCtorEq, Int.reduceEq, Int.reduceLT, Int.reduceLE, Nat.reduceEqDiff, Nat.reduceAdd, Nat.reduceMul, Nat.reduceLeDiff, Nat.reduceSub, Int.reduceNeg, ldc_get G6_b_w0, ldc_get G6_b_g0, z_b_w0_b_g0, l_w0, q_w0, t_w0, l_g0, q_g0, t_g0, l_j0, q_j0, t_j0]
  intro b_j0 hb_b_j0 n_b_j0
  have z_b_w0_b_j0 : (b_w0 = b_j0) = False := eq_false fun e => by subst e; rw [G6_b_w0] at n_b_j0; cases n_b_j0
  have z_b_g0_b_j0 : (b_g0 = b_j0) = False := eq_false fun e => by subst e; rw [G6_b_g0] at n_b_j0; cases n_b_j0
  have nn_w0_b_j0 := F6_w0.r.known.ne n_b_j0
  have nn_j0_b_j0 := T_j0.r.known.ne n_b_j0
  have E_b_j0 := (Ext.refl x3).set n_b_j0 ⟨j0, 4⟩
  simp -implicitDefEqProofs only [go_sem, ↓reduceIte, reduceCtorEq, Int.reduceEq, Int.reduceLT, Int.reduceLE, Nat.reduceEqDiff, Nat.reduceAdd, Nat.reduceMul, Nat.reduceLeDiff, Nat.reduceSub, Int.reduceNeg, hb_b_j0, ldc_get G6_b_w0, ldc_get G6_b_g0, z_b_w0_b_g0, z_b_w0_b_j0, z_b_g0_b_j0, l_w0, q_w0, t_w0, l_g0, q_g0, t_g0, l_j0, q_j0, t_j0]
  have G7_b_w0 := E_b_j0.2.g b_w0 _ G6_b_w0
  have G7_b_g0 := E_b_j0.2.g b_g0 _ G6_b_g0
  have R7_w0 := RepR.ext F6_w0.r E_b_j0
  have R7_j0 := RepR.ext T_j0.r E_b_j0
  have F7_w0 := RepF.ext F6_w0 E_b_j0
  have F7_j0 := RepF.ext T_j0 E_b_j0
  have G7_b_j0 : (x3.set b_j0 ⟨j0, 4⟩).get b_j0 = some ⟨j0, 4⟩ := H.set_get_same _ _ _
  have Mg := RepR.ext Mg E_b_j0
  refine (eqPackageOut_pc F7_j0.r F7_w0.r hfin).use ?_
  simp -implicitDefEqProofs only [go_sem, ↓reduceIte, reduceCtorEq, Int.reduceEq, Int.reduceLT, Int.reduceLE, Nat.reduceEqDiff, Nat.reduceAdd, Nat.reduceMul, Nat.reduceLeDiff, Nat.reduceSub, Int.reduceNeg, ldc_get G7_b_w0, ldc_get G7_b_g0, ldc_get G7_b_j0, z_b_w0_b_g0, z_b_w0_b_j0, z_b_g0_b_j0, l_w0, q_w0, t_w0, l_g0, q_g0, t_g0, l_j0, q_j0, t_j0]
  refine (heldPackageOut_pc Mg hio (by omega)).use ?_
  simp -implicitDefEqProofs only [go_sem, ↓reduceIte, reduceCtorEq, Int.reduceEq, Int.reduceLT, Int.reduceLE, Nat.reduceEqDiff, Nat.reduceAdd, Nat.reduceMul, Nat.reduceLeDiff, Nat.reduceSub, Int.reduceNeg, show ¬ (1 + ((4 * (pkgR t).1.steps.length : Nat) : Int) < 0) by omega, ldc_get G7_b_w0, ldc_get G7_b_g0, ldc_get G7_b_j0, z_b_w0_b_g0, z_b_w0_b_j0, z_b_g0_b_j0, l_w0, q_w0, t_w0, l_g0, q_g0, t_g0, l_j0, q_j0, t_j0]
theorem packageRead_law (h : H) (args : List Value) (ha : okAs h [.one (.f .str)] args) : AC Try.prog 7 args h fun r _ => r = .bool true := by
  obtain ⟨v, _, rfl, ⟨t, rfl, ht⟩, a0⟩ := okAs_cons ha
  obtain rfl := okAs_nil a0
  exact packageRead_walk
section
open Go.ChangeShapes Go.WideShapes Go.ChangeAt Go.RowKit
theorem fnExactPackageRead_lifted (os : Os) (started : os.Started) (H' : Type) (enc : TypeId × Value → H') : ReturnsInHanded {} Try.checked os 7 .any (Rows.fnExactPackageReadSpec.pre6 enc Try.prog Try.f7 Rows.fnExactPackageReadRow.domain false) (Rows.fnExactPackageReadSpec.post enc Try.prog Try.f7 false true false false) :=
  law_row (Ck := Try.checked) [.one (.f .str)] (by kernel_rfl) started (by kernel_rfl) Try.func7 (ChangeSpec.witness6 (enc := enc) (C := Try.checked) false ⟨#[], #[.string ByteArray.empty], []⟩ 8 (by kernel_rfl) (by kernel_rfl) (by kernel_rfl) (by kernel_rfl))
    (by kernel_rfl) (by kernel_rfl) rfl (by kernel_rfl : Try.prog.underlying (Try.f7.resultTypes.getD 0 0) = some .bool) rfl
    (fun ds hd => by
      rw [show Try.f7.params.toList.length = 1 by kernel_rfl] at hd
      match ds, hd with
      | [_], _ => rfl)
    (by kernel_rfl) packageRead_law
theorem fnExactPackageRead_holds : Rows.FnExactPackageReadSaid :=
  OpenClaim.holds_of_wide 7 Try.f7 rfl rfl rfl rfl rfl rfl rfl ⟨rfl, rfl, rfl, rfl, rfl⟩ rfl rfl rfl rfl rfl (by kernel_rfl) Try.func7 (by kernel_rfl)
    (of_decide_eq_true (by kernel_rfl)) (by unfold Func.isWrapper; first | (rw [if_pos (by decide +kernel)]; kernel_rfl) | (rw [if_neg (by decide +kernel)]; exact ⟨rfl, rfl⟩))
    (fun os started H' enc _ => fnExactPackageRead_lifted os started H' enc)
end
end Go.Proofs.Ytpponffjeilhmaa
