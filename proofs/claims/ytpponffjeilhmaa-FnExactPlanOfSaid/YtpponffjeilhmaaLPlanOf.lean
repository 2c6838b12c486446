/- PlanOf of the program returns what PlanOf of the reference returns, for all arguments: the given statement, with no condition. -/
import Derived.Test.YtpponffjeilhmaaC11u
import Derived.Test.YtpponffjeilhmaaRows
import Derived.ProofKit
import Derived.ShutString
import Derived.ChangeOld
import Derived.Below
set_option linter.unusedVariables false
set_option linter.unusedSimpArgs false
set_option maxRecDepth 100000
namespace Go.Proofs.Ytpponffjeilhmaa
open Go.KH

/-- laws.FnExactPlanOf -/
def b_laws_FnExactPlanOf : C := (.seq (.ops [q 4 (.mv (.c (.bool false)))])
 (.seq (.ops [q 5 (.mv (.c (i64 1048576)))])
 (.seq (.ops [q 13 (.mv (.t 0)), q 14 (.mv (.t 5)), ⟨(some 15), none, .call (.c (.func (.func 14) #[] #[])) [(.t 13), (.t 14)]⟩, q 5 (.mv (.t 15))])
 (.seq (.seq (.ops [q 16 (.mv (.t 5)), q 17 (.bin .lss (.t 16) (.c (i64 0)))])
 (.cond (.t 17) (.seq (.ops [q 4 (.mv (.c (.bool true)))])
 .ret) .skip))
 (.seq (.ops [q 18 (.mv (.t 0)), ⟨(some 19), none, .call (.c (.func (.func 16) #[] #[])) [(.t 18)]⟩, q 20 (.mv (.t 1)), ⟨(some 21), none, .call (.c (.func (.func 15) #[] #[])) [(.t 19), (.t 20)]⟩, ⟨(some 6), none, .alloc [nils, (i64 0)]⟩, ⟨none, none, .st 2 (.t 6) (.t 21)⟩])
 (.seq (.ops [q 22 (.mv (.t 0)), ⟨(some 23), none, .call (.c (.func (.func 16) #[] #[])) [(.t 22)]⟩, q 7 (.mv (.t 23))])
 (.seq (.ops [q 24 (.mv (.t 7)), q 25 (.mv (.t 1)), ⟨(some 26), none, .call (.c (.func (.func 17) #[] #[])) [(.t 24), (.t 25)]⟩, ⟨(some 8), none, .alloc [nils, (i64 0)]⟩, ⟨none, none, .st 2 (.t 8) (.t 26)⟩])
 (.seq (.seq (.ops [q 27 (.ld true 2 (.t 8)), q 28 (.ld true 2 (.t 6)), ⟨(some 29), none, .call (.c (.func (.func 18) #[] #[])) [(.t 27), (.t 28)]⟩, q 30 (.un .not (.t 29))])
 (.cond (.t 30) (.seq (.ops [q 4 (.mv (.c (.bool false)))])
 .ret) .skip))
 (.seq (.seq (.ops [q 31 (.mv (.t 7)), q 32 (.mv (.t 0)), ⟨(some 33), none, .call (.c (.func (.func 16) #[] #[])) [(.t 32)]⟩, ⟨(some 34), none, .call (.c (.func (.func 19) #[] #[])) [(.t 31), (.t 33)]⟩, q 35 (.un .not (.t 34))])
 (.cond (.t 35) (.seq (.ops [q 4 (.mv (.c (.bool false)))])
 .ret) .skip))
 (.seq (.ops [q 9 (.mv (.c (i64 1)))])
 (.seq (.ops [q 36 (.mv (.t 7)), q 37 (.mv (.t 9)), ⟨(some 38), none, .call (.c (.func (.func 20) #[] #[])) [(.t 36), (.t 37)]⟩, q 9 (.mv (.t 38))])
 (.seq (.seq (.ops [q 39 (.mv (.t 9)), q 40 (.bin .lss (.t 39) (.c (i64 0))), q 41 (.mv (.t 40)), qg 42 41 false (.ld true 2 (.t 8)), qg 43 41 false (.ld true 2 (.t 6)), ⟨(some 44), (some (41, false)), .call (.c (.func (.func 18) #[] #[])) [(.t 42), (.t 43)]⟩, qg 45 41 false (.un .not (.t 44)), q 46 (.pick (.t 41) (.c (.bool true)) (.t 45))])
 (.cond (.t 46) (.seq (.ops [q 4 (.mv (.c (.bool false)))])
 .ret) .skip))
 (.seq (.ops [q 10 (.mv (.c (i64 1)))])
 (.seq (.ops [q 47 (.ld true 2 (.t 8)), q 48 (.mv (.t 10)), ⟨(some 49), none, .call (.c (.func (.func 21) #[] #[])) [(.t 47), (.t 48)]⟩, q 10 (.mv (.t 49))])
 (.seq (.ops [q 11 (.mv (.c (i64 1)))])
 (.seq (.ops [q 50 (.ld true 2 (.t 8)), q 51 (.mv (.t 11)), ⟨(some 52), none, .call (.c (.func (.func 22) #[] #[])) [(.t 50), (.t 51)]⟩, q 11 (.mv (.t 52))])
 (.seq (.seq (.ops [q 53 (.mv (.t 11)), q 54 (.bin .lss (.t 53) (.c (i64 0)))])
 (.cond (.t 54) (.seq (.ops [q 4 (.mv (.c (.bool false)))])
 .ret) .skip))
 (.seq (.seq (.ops [q 55 (.mv (.t 11)), q 56 (.mv (.t 10)), q 57 (.bin .neq (.t 55) (.t 56))])
 (.cond (.t 57) (.seq (.ops [q 4 (.mv (.c (.bool false)))])
 .ret) .skip))
 (.seq (.ops [q 58 (.mv (.t 0)), ⟨(some 59), none, .call (.c (.func (.func 16) #[] #[])) [(.t 58)]⟩, q 60 (.mv (.t 1)), ⟨(some 61), none, .call (.c (.func (.func 17) #[] #[])) [(.t 59), (.t 60)]⟩, ⟨(some 12), none, .alloc [nils, (i64 0)]⟩, ⟨none, none, .st 2 (.t 12) (.t 61)⟩])
 (.seq (.seq (.ops [q 62 (.ld true 2 (.t 12)), q 63 (.ld true 2 (.t 6)), ⟨(some 64), none, .call (.c (.func (.func 18) #[] #[])) [(.t 62), (.t 63)]⟩, q 65 (.un .not (.t 64))])
 (.cond (.t 65) (.seq (.ops [q 4 (.mv (.c (.bool false)))])
 .ret) .skip))
 (.seq (.ops [q 11 (.mv (.c (i64 1)))])
 (.seq (.ops [q 66 (.ld true 2 (.t 8)), q 67 (.mv (.t 11)), ⟨(some 68), none, .call (.c (.func (.func 22) #[] #[])) [(.t 66), (.t 67)]⟩, q 11 (.mv (.t 68))])
 (.seq (.seq (.ops [q 69 (.mv (.t 11)), q 70 (.bin .lss (.t 69) (.c (i64 0)))])
 (.cond (.t 70) (.seq (.ops [q 4 (.mv (.c (.bool false)))])
 .ret) .skip))
 (.seq (.seq (.ops [q 71 (.mv (.t 11)), q 72 (.mv (.t 10)), q 73 (.bin .neq (.t 71) (.t 72))])
 (.cond (.t 73) (.seq (.ops [q 4 (.mv (.c (.bool false)))])
 .ret) .skip))
 (.seq (.ops [q 4 (.mv (.c (.bool true)))])
 .ret)))))))))))))))))))))))))
theorem w_laws_FnExactPlanOf {args : List Value} {h : H} {Q : Value → H → Prop} (hl : args.length ≤ 74) (hk : wpc Try.prog b_laws_FnExactPlanOf (retw [.tmp 4] Q) (argsFr args) h) : AC Try.prog 3 args h Q :=
  AC.of_wpc mixedOrders Try.func3 (by kernel_rfl) (by kernel_rfl : prepF Try.prog Try.f3 = some ⟨74, [.tmp 4], b_laws_FnExactPlanOf⟩) hl hk


set_option maxHeartbeats 1600000 in
theorem planOf_walk {h : H} {va : Value} {u : List UStep} {b : Int} (A0 : RepR h [.s 4 (u.map UStep.cells)] [va]) (m1 : u.length ≤ maxLen) (m2 : ∀ s ∈ u, s.ok) : AC Try.prog 3 [va, i64 b] h fun r _ => r = .bool true := by
  skip
  refine w_laws_FnExactPlanOf (by simp) ?_
  unfold b_laws_FnExactPlanOf
  simp -implicitDefEqProofs only [go_sem, ↓reduceIte, reduceCtorEq, Int.reduceEq, Int.reduceLT, Int.reduceLE, Nat.reduceEqDiff, Nat.reduceAdd, Nat.reduceMul, Nat.reduceLeDiff, Nat.reduceSub, Int.reduceNeg]
  refine (szStepS_pc (A0).1 m1 m2 (by omega)).use ?_
  simp -implicitDefEqProofs only [go_sem, ↓reduceIte, reduceCtorEq, Int.reduceEq, Int.reduceLT, Int.reduceLE, Nat.reduceEqDiff, Nat.reduceAdd, Nat.reduceMul, Nat.reduceLeDiff, Nat.reduceSub, Int.reduceNeg]
  refine Br.of (fun hc0 => ?_) (fun hc0 => ?_)
  · simp -implicitDefEqProofs only [go_sem, ↓reduceIte, reduceCtorEq, Int.reduceEq, Int.reduceLT, Int.reduceLE, Nat.reduceEqDiff, Nat.reduceAdd, Nat.reduceMul, Nat.reduceLeDiff, Nat.reduceSub, Int.reduceNeg, hc0]
  have hsmu : u.length ≤ 1048576 := by have := lessn_nn hc0; omega
  have h28 := planOut_small u b
  have hio : (planOut u b).1.length ≤ 1048576 := by omega
  have hfin : (planOut u b).1.length ≤ maxLen := by have := show maxLen = 9223372036854775807 from rfl; omega
  simp -implicitDefEqProofs only [go_sem, ↓reduceIte, reduceCtorEq, Int.reduceEq, Int.reduceLT, Int.reduceLE, Nat.reduceEqDiff, Nat.reduceAdd, Nat.reduceMul, Nat.reduceLeDiff, Nat.reduceSub, Int.reduceNeg, hc0]
  refine AC_of (toStepS_ac (A0).1 hsmu) ?_
  rintro v_wa x1 - ⟨e1, f_wa⟩
  have T_wa := rep1 f_wa
  have D_a_wa := DjL.of (RepR.known A0) (RepF.new T_wa)
  have R1_a := RepR.ext A0 e1
  simp -implicitDefEqProofs only [go_sem, ↓reduceIte, reduceCtorEq, Int.reduceEq, Int.reduceLT, Int.reduceLE, Nat.reduceEqDiff, Nat.reduceAdd, Nat.reduceMul, Nat.reduceLeDiff, Nat.reduceSub, Int.reduceNeg]
  refine AC_of (specPlanOf_ac (T_wa.r).1 hsmu) ?_
  rintro _ x2 - ⟨e2, w0, rfl, T_w0⟩
  have D_a_w0 := DjL.of (RepR.known R1_a) (RepF.new T_w0)
  have D_wa_w0 := DjL.of (RepR.known T_wa.r) (RepF.new T_w0)
  have R2_a := RepR.ext R1_a e2
  have R2_wa := RepR.ext T_wa.r e2
  have F2_wa := RepF.ext T_wa e2
  have l_w0 := T_w0.r.len
  simp only [List.length_cons, List.length_nil, Nat.reduceAdd] at l_w0
  have q_w0 := T_w0.r.one
  have t_w0 := take_len l_w0
  simp -implicitDefEqProofs only [go_sem, ↓reduceIte, reduceCtorEq, Int.reduceEq, Int.reduceLT, Int.reduceLE, Nat.reduceEqDiff, Nat.reduceAdd, Nat.reduceMul, Nat.reduceLeDiff, Nat.reduceSub, Int.reduceNeg, l_w0, q_w0, t_w0]
  intro b_w0 hb_b_w0 n_b_w0
  have nn_wa_b_w0 := F2_wa.r.known.ne n_b_w0
  have nn_w0_b_w0 := T_w0.r.known.ne n_b_w0
  have E_b_w0 := (Ext.refl x2).set n_b_w0 ⟨w0, 2⟩
  simp -implicitDefEqProofs only [go_sem, ↓reduceIte, reduceCtorEq, Int.reduceEq, Int.reduceLT, Int.reduceLE, Nat.reduceEqDiff, Nat.reduceAdd, Nat.reduceMul, Nat.reduceLeDiff, Nat.reduceSub, Int.reduceNeg, hb_b_w0, l_w0, q_w0, t_w0]
  have R3_a := RepR.ext R2_a E_b_w0
  have R3_wa := RepR.ext F2_wa.r E_b_w0
  have R3_w0 := RepR.ext T_w0.r E_b_w0
  have F3_wa := RepF.ext F2_wa E_b_w0
  have F3_w0 := RepF.ext T_w0 E_b_w0
  have G3_b_w0 : (x2.set b_w0 ⟨w0, 2⟩).get b_w0 = some ⟨w0, 2⟩ := H.set_get_same _ _ _
  refine AC_of (toStepS_ac (R3_a).1 hsmu) ?_
  rintro v_xa x3 - ⟨e3, f_xa⟩
  have T_xa := rep1 f_xa
  have nn_xa_b_w0 := RepF.new T_xa |>.ne G3_b_w0
  have D_a_xa := DjL.of (RepR.known R3_a) (RepF.new T_xa)
  have D_w0_xa := DjL.of (RepR.known F3_w0.r) (RepF.new T_xa)
  have G4_b_w0 := e3.2.g b_w0 _ G3_b_w0
  have R4_a := RepR.ext R3_a e3
  have R4_w0 := RepR.ext F3_w0.r e3
  have F4_w0 := RepF.ext F3_w0 e3
  simp -implicitDefEqProofs only [go_sem, ↓reduceIte, reduceCtorEq, Int.reduceEq, Int.reduceLT, Int.reduceLE, Nat.reduceEqDiff, Nat.reduceAdd, Nat.reduceMul, Nat.reduceLeDiff, Nat.reduceSub, Int.reduceNeg, ldc_get G4_b_w0, l_w0, q_w0, t_w0]
  refine AC_of (implPlanOf_ac (T_xa.r).1 hsmu) ?_
  rintro _ x4 - ⟨e4, g0, rfl, T_g0⟩
  have nn_g0_b_w0 := RepF.new T_g0 |>.ne G4_b_w0
  have D_a_g0 := DjL.of (RepR.known R4_a) (RepF.new T_g0)
  have D_w0_g0 := DjL.of (RepR.known F4_w0.r) (RepF.new T_g0)
  have D_xa_g0 := DjL.of (RepR.known T_xa.r) (RepF.new T_g0)
  have G5_b_w0 := e4.2.g b_w0 _ G4_b_w0
  have R5_a := RepR.ext R4_a e4
  have R5_w0 := RepR.ext F4_w0.r e4
  have R5_xa := RepR.ext T_xa.r e4
  have F5_w0 := RepF.ext F4_w0 e4
  have F5_xa := RepF.ext T_xa e4
  have l_g0 := T_g0.r.len
  simp only [List.length_cons, List.length_nil, Nat.reduceAdd] at l_g0
  have q_g0 := T_g0.r.one
  have t_g0 := take_len l_g0
  simp -implicitDefEqProofs only [go_sem, ↓reduceIte, reduceCtorEq, Int.reduceEq, Int.reduceLT, Int.reduceLE, Nat.reduceEqDiff, Nat.reduceAdd, Nat.reduceMul, Nat.reduceLeDiff, Nat.reduceSub, Int.reduceNeg, ldc_get G5_b_w0, l_w0, q_w0, t_w0, l_g0, q_g0, t_g0]
  intro b_g0 hb_b_g0 n_b_g0
  have z_b_w0_b_g0 : (b_w0 = b_g0) = False := eq_false fun e => by subst e; rw [G5_b_w0] at n_b_g0; cases n_b_g0
  have nn_w0_b_g0 := F5_w0.r.known.ne n_b_g0
  have nn_xa_b_g0 := F5_xa.r.known.ne n_b_g0
  have nn_g0_b_g0 := T_g0.r.known.ne n_b_g0
  have E_b_g0 := (Ext.refl x4).set n_b_g0 ⟨g0, 2⟩
  simp -implicitDefEqProofs only [go_sem, ↓reduceIte, reduceCtorEq, Int.reduceEq, Int.reduceLT, Int.reduceLE, Nat.reduceEqDiff, Nat.reduceAdd, Nat.reduceMul, Nat.reduceLeDiff, Nat.reduceSub, Int.reduceNeg, hb_b_g0, ldc_get G5_b_w0, z_b_w0_b_g0, l_w0, q_w0, t_w0, l_g0, q_g0, t_g0]
  have G6_b_w0 := E_b_g0.2.g b_w0 _ G5_b_w0
  have R6_a := RepR.ext R5_a E_b_g0
  have R6_w0 := RepR.ext F5_w0.r E_b_g0
  have R6_xa := RepR.ext F5_xa.r E_b_g0
  have R6_g0 := RepR.ext T_g0.r E_b_g0
  have F6_w0 := RepF.ext F5_w0 E_b_g0
  have F6_xa := RepF.ext F5_xa E_b_g0
  have F6_g0 := RepF.ext T_g0 E_b_g0
  have G6_b_g0 : (x4.set b_g0 ⟨g0, 2⟩).get b_g0 = some ⟨g0, 2⟩ := H.set_get_same _ _ _
  refine (eqPlanOut_pc F6_g0.r F6_w0.r hfin).use ?_
  simp -implicitDefEqProofs only [go_sem, ↓reduceIte, reduceCtorEq, Int.reduceEq, Int.reduceLT, Int.reduceLE, Nat.reduceEqDiff, Nat.reduceAdd, Nat.reduceMul, Nat.reduceLeDiff, Nat.reduceSub, Int.reduceNeg, ldc_get G6_b_w0, ldc_get G6_b_g0, z_b_w0_b_g0, l_w0, q_w0, t_w0, l_g0, q_g0, t_g0]
  refine AC_of (toStepS_ac (R6_a).1 hsmu) ?_
  rintro v_ya x5 - ⟨e5, f_ya⟩
  have T_ya := rep1 f_ya
  have G7_b_w0 := e5.2.g b_w0 _ G6_b_w0
  have G7_b_g0 := e5.2.g b_g0 _ G6_b_g0
  have R7_a := RepR.ext R6_a e5
  have R7_w0 := RepR.ext F6_w0.r e5
  have R7_xa := RepR.ext F6_xa.r e5
  have R7_g0 := RepR.ext F6_g0.r e5
  have F7_w0 := RepF.ext F6_w0 e5
  have F7_xa := RepF.ext F6_xa e5
  have F7_g0 := RepF.ext F6_g0 e5
  simp -implicitDefEqProofs only [go_sem, ↓reduceIte, reduceCtorEq, Int.reduceEq, Int.reduceLT, Int.reduceLE, Nat.reduceEqDiff, Nat.reduceAdd, Nat.reduceMul, Nat.reduceLeDiff, Nat.reduceSub, Int.reduceNeg, e5.2, ldc_get G7_b_w0, ldc_get G7_b_g0, z_b_w0_b_g0, l_w0, q_w0, t_w0, l_g0, q_g0, t_g0]
  refine (eqStepS_pc (F7_xa.r).1 (T_ya.r).1 m1).use ?_
  simp -implicitDefEqProofs only [go_sem, ↓reduceIte, reduceCtorEq, Int.reduceEq, Int.reduceLT, Int.reduceLE, Nat.reduceEqDiff, Nat.reduceAdd, Nat.reduceMul, Nat.reduceLeDiff, Nat.reduceSub, Int.reduceNeg, e5.2, ldc_get G7_b_w0, ldc_get G7_b_g0, z_b_w0_b_g0, l_w0, q_w0, t_w0, l_g0, q_g0, t_g0]
  refine AC_of (markStepS_ac (F7_xa).1 (by omega) (by omega)) ?_
  rintro _ m0 - ⟨rfl, k0, M0⟩
  have k0 := keep1 k0
  have G8_b_w0 := k0.2.1 b_w0 _ nn_xa_b_w0 G7_b_w0
  have G8_b_g0 := k0.2.1 b_g0 _ nn_xa_b_g0 G7_b_g0
  have F8_w0 := RepF.keep F7_w0 k0 D_w0_xa
  have F8_g0 := RepF.keep F7_g0 k0 D_xa_g0.symm
  have R8_a := RepR.keep R7_a k0 D_a_xa
  simp -implicitDefEqProofs only [go_sem, ↓reduceIte, reduceCtorEq, Int.reduceEq, Int.reduceLT, Int.reduceLE, Nat.reduceEqDiff, Nat.reduceAdd, Nat.reduceMul, Nat.reduceLeDiff, Nat.reduceSub, Int.reduceNeg, show ¬ (1 + ((4 * u.length : Nat) : Int) < 0) by omega, ldc_get G8_b_w0, ldc_get G8_b_g0, z_b_w0_b_g0, l_w0, q_w0, t_w0, l_g0, q_g0, t_g0]
  refine (eqPlanOut_pc F8_g0.r F8_w0.r hfin).use ?_
  simp -implicitDefEqProofs only [go_sem, ↓reduceIte, reduceCtorEq, Int.reduceEq, Int.reduceLT, Int.reduceLE, Nat.reduceEqDiff, Nat.reduceAdd, Nat.reduceMul, Nat.reduceLeDiff, Nat.reduceSub, Int.reduceNeg, ldc_get G8_b_w0, ldc_get G8_b_g0, z_b_w0_b_g0, l_w0, q_w0, t_w0, l_g0, q_g0, t_g0]
  refine AC_of (markPlanOut_ac F8_g0 hio (by omega)) ?_
  rintro _ mg - ⟨rfl, kg, Mg⟩
  have G9_b_w0 := kg.2.1 b_w0 _ nn_g0_b_w0 G8_b_w0
  have G9_b_g0 := kg.2.1 b_g0 _ nn_g0_b_g0 G8_b_g0
  have F9_w0 := RepF.keep F8_w0 kg D_w0_g0
  have R9_a := RepR.keep R8_a kg D_a_g0
  simp -implicitDefEqProofs only [go_sem, ↓reduceIte, reduceCtorEq, Int.reduceEq, Int.reduceLT, Int.reduceLE, Nat.reduceEqDiff, Nat.reduceAdd, Nat.reduceMul, Nat.reduceLeDiff, Nat.reduceSub, Int.reduceNeg, ldc_get G9_b_w0, ldc_get G9_b_g0, z_b_w0_b_g0, l_w0, q_w0, t_w0, l_g0, q_g0, t_g0]
  refine (heldPlanOut_pc Mg hio (by omega)).use ?_
  simp -implicitDefEqProofs only [go_sem, ↓reduceIte, reduceCtorEq, Int.reduceEq, Int.reduceLT, Int.reduceLE, Nat.reduceEqDiff, Nat.reduceAdd, Nat.reduceMul, Nat.reduceLeDiff, Nat.reduceSub, Int.reduceNeg, show ¬ (1 + ((4 * (planOut u b).1.length : Nat) : Int) < 0) by omega, ldc_get G9_b_w0, ldc_get G9_b_g0, z_b_w0_b_g0, l_w0, q_w0, t_w0, l_g0, q_g0, t_g0]
  refine AC_of (toStepS_ac (R9_a).1 hsmu) ?_
  rintro v_za x6 - ⟨e6, f_za⟩
  have T_za := rep1 f_za
  have nn_za_b_w0 := RepF.new T_za |>.ne G9_b_w0
  have nn_za_b_g0 := RepF.new T_za |>.ne G9_b_g0
  have D_a_za := DjL.of (RepR.known R9_a) (RepF.new T_za)
  have D_w0_za := DjL.of (RepR.known F9_w0.r) (RepF.new T_za)
  have G10_b_w0 := e6.2.g b_w0 _ G9_b_w0
  have G10_b_g0 := e6.2.g b_g0 _ G9_b_g0
  have R10_a := RepR.ext R9_a e6
  have R10_w0 := RepR.ext F9_w0.r e6
  have F10_w0 := RepF.ext F9_w0 e6
  have Mg := RepR.ext Mg e6
  simp -implicitDefEqProofs only [go_sem, ↓reduceIte, reduceCtorEq, Int.reduceEq, Int.reduceLT, Int.reduceLE, Nat.reduceEqDiff, Nat.reduceAdd, Nat.reduceMul, Nat.reduceLeDiff, Nat.reduceSub, Int.reduceNeg, ldc_get G10_b_w0, ldc_get G10_b_g0, z_b_w0_b_g0, l_w0, q_w0, t_w0, l_g0, q_g0, t_g0]
  refine AC_of (implPlanOf_ac (T_za.r).1 hsmu) ?_
  rintro _ x7 - ⟨e7, j0, rfl, T_j0⟩
  have nn_j0_b_w0 := RepF.new T_j0 |>.ne G10_b_w0
  have nn_j0_b_g0 := RepF.new T_j0 |>.ne G10_b_g0
  have D_a_j0 := DjL.of (RepR.known R10_a) (RepF.new T_j0)
  have D_w0_j0 := DjL.of (RepR.known F10_w0.r) (RepF.new T_j0)
  have D_za_j0 := DjL.of (RepR.known T_za.r) (RepF.new T_j0)
  have G11_b_w0 := e7.2.g b_w0 _ G10_b_w0
  have G11_b_g0 := e7.2.g b_g0 _ G10_b_g0
  have R11_a := RepR.ext R10_a e7
  have R11_w0 := RepR.ext F10_w0.r e7
  have R11_za := RepR.ext T_za.r e7
  have F11_w0 := RepF.ext F10_w0 e7
  have F11_za := RepF.ext T_za e7
  have Mg := RepR.ext Mg e7
  have l_j0 := T_j0.r.len
  simp only [List.length_cons, List.length_nil, Nat.reduceAdd] at l_j0
  have q_j0 := T_j0.r.one
  have t_j0 := take_len l_j0
  simp -implicitDefEqProofs only [go_sem, ↓reduceIte, reduceCtorEq, Int.reduceEq, Int.reduceLT, Int.reduceLE, Nat.reduceEqDiff, Nat.reduceAdd, Nat.reduceMul, Nat.reduceLeDiff, Nat.reduceSub, Int.reduceNeg, ldc_get G11_b_w0, ldc_get G11_b_g0, z_b_w0_b_g0, l_w0, q_w0, t_w0, l_g0, q_g0, t_g0, l_j0, q_j0, t_j0]
  intro b_j0 hb_b_j0 n_b_j0
  have z_b_w0_b_j0 : (b_w0 = b_j0) = False := eq_false fun e => by subst e; rw [G11_b_w0] at n_b_j0; cases n_b_j0
  have z_b_g0_b_j0 : (b_g0 = b_j0) = False := eq_false fun e => by subst e; rw [G11_b_g0] at n_b_j0; cases n_b_j0
  have nn_w0_b_j0 := F11_w0.r.known.ne n_b_j0
  have nn_za_b_j0 := F11_za.r.known.ne n_b_j0
  have nn_j0_b_j0 := T_j0.r.known.ne n_b_j0
  have E_b_j0 := (Ext.refl x7).set n_b_j0 ⟨j0, 2⟩
  simp -implicitDefEqProofs only [go_sem, ↓reduceIte, reduceCtorEq, Int.reduceEq, Int.reduceLT, Int.reduceLE, Nat.reduceEqDiff, Nat.reduceAdd, Nat.reduceMul, Nat.reduceLeDiff, Nat.reduceSub, Int.reduceNeg, hb_b_j0, ldc_get G11_b_w0, ldc_get G11_b_g0, z_b_w0_b_g0, z_b_w0_b_j0, z_b_g0_b_j0, l_w0, q_w0, t_w0, l_g0, q_g0, t_g0, l_j0, q_j0, t_j0]
  have G12_b_w0 := E_b_j0.2.g b_w0 _ G11_b_w0
  have G12_b_g0 := E_b_j0.2.g b_g0 _ G11_b_g0
  have R12_a := RepR.ext R11_a E_b_j0
  have R12_w0 := RepR.ext F11_w0.r E_b_j0
  have R12_za := RepR.ext F11_za.r E_b_j0
  have R12_j0 := RepR.ext T_j0.r E_b_j0
  have F12_w0 := RepF.ext F11_w0 E_b_j0
  have F12_za := RepF.ext F11_za E_b_j0
  have F12_j0 := RepF.ext T_j0 E_b_j0
  have G12_b_j0 : (x7.set b_j0 ⟨j0, 2⟩).get b_j0 = some ⟨j0, 2⟩ := H.set_get_same _ _ _
  have Mg := RepR.ext Mg E_b_j0
  refine (eqPlanOut_pc F12_j0.r F12_w0.r hfin).use ?_
  simp -implicitDefEqProofs only [go_sem, ↓reduceIte, reduceCtorEq, Int.reduceEq, Int.reduceLT, Int.reduceLE, Nat.reduceEqDiff, Nat.reduceAdd, Nat.reduceMul, Nat.reduceLeDiff, Nat.reduceSub, Int.reduceNeg, ldc_get G12_b_w0, ldc_get G12_b_g0, ldc_get G12_b_j0, z_b_w0_b_g0, z_b_w0_b_j0, z_b_g0_b_j0, l_w0, q_w0, t_w0, l_g0, q_g0, t_g0, l_j0, q_j0, t_j0]
  refine (heldPlanOut_pc Mg hio (by omega)).use ?_
  simp -implicitDefEqProofs only [go_sem, ↓reduceIte, reduceCtorEq, Int.reduceEq, Int.reduceLT, Int.reduceLE, Nat.reduceEqDiff, Nat.reduceAdd, Nat.reduceMul, Nat.reduceLeDiff, Nat.reduceSub, Int.reduceNeg, show ¬ (1 + ((4 * (planOut u b).1.length : Nat) : Int) < 0) by omega, ldc_get G12_b_w0, ldc_get G12_b_g0, ldc_get G12_b_j0, z_b_w0_b_g0, z_b_w0_b_j0, z_b_g0_b_j0, l_w0, q_w0, t_w0, l_g0, q_g0, t_g0, l_j0, q_j0, t_j0]
theorem planOf_law (h : H) (args : List Value) (ha : okAs h [.one (.sl [.int .i64, .int .i64, .int .i64, .str]), .one (.f (.int .i64))] args) : AC Try.prog 3 args h fun r _ => r = .bool true := by
  obtain ⟨v, _, rfl, ⟨rows, hs, hf, hn⟩, a0⟩ := okAs_cons ha
  obtain ⟨_, _, rfl, q, a1⟩ := okAs_cons a0
  obtain ⟨b, rfl, hb⟩ := q
  obtain rfl := okAs_nil a1
  obtain ⟨u, rfl, hok⟩ := steps_of rows hf
  exact planOf_walk ⟨hs, trivial⟩ (by simpa using hn) hok
section
open Go.ChangeShapes Go.WideShapes Go.ChangeAt Go.RowKit
theorem fnExactPlanOf_lifted (os : Os) (started : os.Started) (H' : Type) (enc : TypeId × Value → H') : ReturnsInHanded {} Try.checked os 3 .any (Rows.fnExactPlanOfSpec.pre6 enc Try.prog Try.f3 Rows.fnExactPlanOfRow.domain false) (Rows.fnExactPlanOfSpec.post enc Try.prog Try.f3 false true false false) :=
  law_row (Ck := Try.checked) [.one (.sl [.int .i64, .int .i64, .int .i64, .str]), .one (.f (.int .i64))] (by kernel_rfl) started (by kernel_rfl) Try.func3 (ChangeSpec.witness6 (enc := enc) (C := Try.checked) false ⟨#[], #[.slice none 0 0, .int .i64 0], []⟩ 8 (by kernel_rfl) (by kernel_rfl) (by kernel_rfl) (by kernel_rfl))
    (by kernel_rfl) (by kernel_rfl) rfl (by kernel_rfl : Try.prog.underlying (Try.f3.resultTypes.getD 0 0) = some .bool) rfl
    (fun ds hd => by
      rw [show Try.f3.params.toList.length = 2 by kernel_rfl] at hd
      match ds, hd with
      | [_, _], _ => rfl)
    (by kernel_rfl) planOf_law
theorem fnExactPlanOf_holds : Rows.FnExactPlanOfSaid :=
  OpenClaim.holds_of_wide 3 Try.f3 rfl rfl rfl rfl rfl rfl rfl ⟨rfl, rfl, rfl, rfl, rfl⟩ rfl rfl rfl rfl rfl (by kernel_rfl) Try.func3 (by kernel_rfl)
    (of_decide_eq_true (by kernel_rfl)) (by unfold Func.isWrapper; first | (rw [if_pos (by decide +kernel)]; kernel_rfl) | (rw [if_neg (by decide +kernel)]; exact ⟨rfl, rfl⟩))
    (fun os started H' enc _ => fnExactPlanOf_lifted os started H' enc)
end
end Go.Proofs.Ytpponffjeilhmaa
