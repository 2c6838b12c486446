/- PlanRun of the program returns what PlanRun of the reference returns, for all arguments: the given statement, with no condition. -/
import Derived.Test.YtpponffjeilhmaaC11w
import Derived.Test.YtpponffjeilhmaaRows
import Derived.ProofKit
import Derived.ShutString
import Derived.ChangeOld
import Derived.Below
set_option linter.unusedVariables false
set_option linter.unusedSimpArgs false
set_option maxRecDepth 100000
namespace Go.Proofs.Ytpponffjeilhmaa
open Go.KH

/-- laws.FnExactPlanRun -/
def b_laws_FnExactPlanRun : C := (.seq (.ops [q 6 (.mv (.c (.bool false)))])
 (.seq (.ops [q 7 (.mv (.c (i64 1048576)))])
 (.seq (.ops [q 17 (.mv (.t 0)), q 18 (.mv (.t 7)), ⟨(some 19), none, .call (.c (.func (.func 41) #[] #[])) [(.t 17), (.t 18)]⟩, q 7 (.mv (.t 19))])
 (.seq (.seq (.ops [q 20 (.mv (.t 7)), q 21 (.bin .lss (.t 20) (.c (i64 0)))])
 (.cond (.t 21) (.seq (.ops [q 6 (.mv (.c (.bool true)))])
 .ret) .skip))
 (.seq (.ops [q 22 (.mv (.t 1)), q 23 (.mv (.t 7)), ⟨(some 24), none, .call (.c (.func (.func 14) #[] #[])) [(.t 22), (.t 23)]⟩, q 7 (.mv (.t 24))])
 (.seq (.seq (.ops [q 25 (.mv (.t 7)), q 26 (.bin .lss (.t 25) (.c (i64 0)))])
 (.cond (.t 26) (.seq (.ops [q 6 (.mv (.c (.bool true)))])
 .ret) .skip))
 (.seq (.ops [q 27 (.mv (.t 2)), q 28 (.mv (.t 7)), ⟨(some 29), none, .call (.c (.func (.func 42) #[] #[])) [(.t 27), (.t 28)]⟩, q 7 (.mv (.t 29))])
 (.seq (.seq (.ops [q 30 (.mv (.t 7)), q 31 (.bin .lss (.t 30) (.c (i64 0)))])
 (.cond (.t 31) (.seq (.ops [q 6 (.mv (.c (.bool true)))])
 .ret) .skip))
 (.seq (.ops [q 32 (.mv (.t 0)), ⟨(some 33), none, .call (.c (.func (.func 44) #[] #[])) [(.t 32)]⟩, q 34 (.mv (.t 1)), ⟨(some 35), none, .call (.c (.func (.func 16) #[] #[])) [(.t 34)]⟩, q 36 (.mv (.t 2)), ⟨(some 37), none, .call (.c (.func (.func 45) #[] #[])) [(.t 36)]⟩, ⟨(some 38), none, .call (.c (.func (.func 43) #[] #[])) [(.t 33), (.t 35), (.t 37)]⟩, ⟨(some 8), none, .alloc [nils, (i64 0)]⟩, ⟨none, none, .st 2 (.t 8) (.t 38)⟩])
 (.seq (.ops [q 39 (.mv (.t 0)), ⟨(some 40), none, .call (.c (.func (.func 44) #[] #[])) [(.t 39)]⟩, q 9 (.mv (.t 40))])
 (.seq (.ops [q 41 (.mv (.t 1)), ⟨(some 42), none, .call (.c (.func (.func 16) #[] #[])) [(.t 41)]⟩, q 10 (.mv (.t 42))])
 (.seq (.ops [q 43 (.mv (.t 2)), ⟨(some 44), none, .call (.c (.func (.func 45) #[] #[])) [(.t 43)]⟩, q 11 (.mv (.t 44))])
 (.seq (.ops [q 45 (.mv (.t 9)), q 46 (.mv (.t 10)), q 47 (.mv (.t 11)), ⟨(some 48), none, .call (.c (.func (.func 46) #[] #[])) [(.t 45), (.t 46), (.t 47)]⟩, ⟨(some 12), none, .alloc [nils, (i64 0)]⟩, ⟨none, none, .st 2 (.t 12) (.t 48)⟩])
 (.seq (.seq (.ops [q 49 (.ld true 2 (.t 12)), q 50 (.ld true 2 (.t 8)), ⟨(some 51), none, .call (.c (.func (.func 47) #[] #[])) [(.t 49), (.t 50)]⟩, q 52 (.un .not (.t 51))])
 (.cond (.t 52) (.seq (.ops [q 6 (.mv (.c (.bool false)))])
 .ret) .skip))
 (.seq (.seq (.ops [q 53 (.mv (.t 9)), q 54 (.mv (.t 0)), ⟨(some 55), none, .call (.c (.func (.func 44) #[] #[])) [(.t 54)]⟩, ⟨(some 56), none, .call (.c (.func (.func 32) #[] #[])) [(.t 53), (.t 55)]⟩, q 57 (.un .not (.t 56))])
 (.cond (.t 57) (.seq (.ops [q 6 (.mv (.c (.bool false)))])
 .ret) .skip))
 (.seq (.seq (.ops [q 58 (.mv (.t 10)), q 59 (.mv (.t 1)), ⟨(some 60), none, .call (.c (.func (.func 16) #[] #[])) [(.t 59)]⟩, ⟨(some 61), none, .call (.c (.func (.func 19) #[] #[])) [(.t 58), (.t 60)]⟩, q 62 (.un .not (.t 61))])
 (.cond (.t 62) (.seq (.ops [q 6 (.mv (.c (.bool false)))])
 .ret) .skip))
 (.seq (.seq (.ops [q 63 (.mv (.t 11)), q 64 (.mv (.t 2)), ⟨(some 65), none, .call (.c (.func (.func 45) #[] #[])) [(.t 64)]⟩, ⟨(some 66), none, .call (.c (.func (.func 48) #[] #[])) [(.t 63), (.t 65)]⟩, q 67 (.un .not (.t 66))])
 (.cond (.t 67) (.seq (.ops [q 6 (.mv (.c (.bool false)))])
 .ret) .skip))
 (.seq (.ops [q 13 (.mv (.c (i64 1)))])
 (.seq (.ops [q 68 (.mv (.t 9)), q 69 (.mv (.t 13)), ⟨(some 70), none, .call (.c (.func (.func 34) #[] #[])) [(.t 68), (.t 69)]⟩, q 13 (.mv (.t 70))])
 (.seq (.ops [q 71 (.mv (.t 10)), q 72 (.mv (.t 13)), ⟨(some 73), none, .call (.c (.func (.func 20) #[] #[])) [(.t 71), (.t 72)]⟩, q 13 (.mv (.t 73))])
 (.seq (.ops [q 74 (.mv (.t 11)), q 75 (.mv (.t 13)), ⟨(some 76), none, .call (.c (.func (.func 49) #[] #[])) [(.t 74), (.t 75)]⟩, q 13 (.mv (.t 76))])
 (.seq (.seq (.ops [q 77 (.mv (.t 13)), q 78 (.bin .lss (.t 77) (.c (i64 0))), q 79 (.mv (.t 78)), qg 80 79 false (.ld true 2 (.t 12)), qg 81 79 false (.ld true 2 (.t 8)), ⟨(some 82), (some (79, false)), .call (.c (.func (.func 47) #[] #[])) [(.t 80), (.t 81)]⟩, qg 83 79 false (.un .not (.t 82)), q 84 (.pick (.t 79) (.c (.bool true)) (.t 83))])
 (.cond (.t 84) (.seq (.ops [q 6 (.mv (.c (.bool false)))])
 .ret) .skip))
 (.seq (.ops [q 14 (.mv (.c (i64 1)))])
 (.seq (.ops [q 85 (.ld true 2 (.t 12)), q 86 (.mv (.t 14)), ⟨(some 87), none, .call (.c (.func (.func 50) #[] #[])) [(.t 85), (.t 86)]⟩, q 14 (.mv (.t 87))])
 (.seq (.ops [q 15 (.mv (.c (i64 1)))])
 (.seq (.ops [q 88 (.ld true 2 (.t 12)), q 89 (.mv (.t 15)), ⟨(some 90), none, .call (.c (.func (.func 51) #[] #[])) [(.t 88), (.t 89)]⟩, q 15 (.mv (.t 90))])
 (.seq (.seq (.ops [q 91 (.mv (.t 15)), q 92 (.bin .lss (.t 91) (.c (i64 0)))])
 (.cond (.t 92) (.seq (.ops [q 6 (.mv (.c (.bool false)))])
 .ret) .skip))
 (.seq (.seq (.ops [q 93 (.mv (.t 15)), q 94 (.mv (.t 14)), q 95 (.bin .neq (.t 93) (.t 94))])
 (.cond (.t 95) (.seq (.ops [q 6 (.mv (.c (.bool false)))])
 .ret) .skip))
 (.seq (.ops [q 96 (.mv (.t 0)), ⟨(some 97), none, .call (.c (.func (.func 44) #[] #[])) [(.t 96)]⟩, q 98 (.mv (.t 1)), ⟨(some 99), none, .call (.c (.func (.func 16) #[] #[])) [(.t 98)]⟩, q 100 (.mv (.t 2)), ⟨(some 101), none, .call (.c (.func (.func 45) #[] #[])) [(.t 100)]⟩, ⟨(some 102), none, .call (.c (.func (.func 46) #[] #[])) [(.t 97), (.t 99), (.t 101)]⟩, ⟨(some 16), none, .alloc [nils, (i64 0)]⟩, ⟨none, none, .st 2 (.t 16) (.t 102)⟩])
 (.seq (.seq (.ops [q 103 (.ld true 2 (.t 16)), q 104 (.ld true 2 (.t 8)), ⟨(some 105), none, .call (.c (.func (.func 47) #[] #[])) [(.t 103), (.t 104)]⟩, q 106 (.un .not (.t 105))])
 (.cond (.t 106) (.seq (.ops [q 6 (.mv (.c (.bool false)))])
 .ret) .skip))
 (.seq (.ops [q 15 (.mv (.c (i64 1)))])
 (.seq (.ops [q 107 (.ld true 2 (.t 12)), q 108 (.mv (.t 15)), ⟨(some 109), none, .call (.c (.func (.func 51) #[] #[])) [(.t 107), (.t 108)]⟩, q 15 (.mv (.t 109))])
 (.seq (.seq (.ops [q 110 (.mv (.t 15)), q 111 (.bin .lss (.t 110) (.c (i64 0)))])
 (.cond (.t 111) (.seq (.ops [q 6 (.mv (.c (.bool false)))])
 .ret) .skip))
 (.seq (.seq (.ops [q 112 (.mv (.t 15)), q 113 (.mv (.t 14)), q 114 (.bin .neq (.t 112) (.t 113))])
 (.cond (.t 114) (.seq (.ops [q 6 (.mv (.c (.bool false)))])
 .ret) .skip))
 (.seq (.ops [q 6 (.mv (.c (.bool true)))])
 .ret)))))))))))))))))))))))))))))))))))
theorem w_laws_FnExactPlanRun {args : List Value} {h : H} {Q : Value → H → Prop} (hl : args.length ≤ 115) (hk : wpc Try.prog b_laws_FnExactPlanRun (retw [.tmp 6] Q) (argsFr args) h) : AC Try.prog 8 args h Q :=
  AC.of_wpc mixedOrders Try.func8 (by kernel_rfl) (by kernel_rfl : prepF Try.prog Try.f8 = some ⟨115, [.tmp 6], b_laws_FnExactPlanRun⟩) hl hk


set_option maxHeartbeats 1600000 in
theorem planRun_walk {h : H} {va vb vc : Value} {l : List (List UInt8)} {u : List UStep} {mv : List UMove} (A0 : RepR h [.s 1 (strs l)] [va]) (n1 : l.length ≤ maxLen) (n2 : ∀ s ∈ l, s.length ≤ maxLen) (B0 : RepR h [.s 4 (u.map UStep.cells)] [vb]) (m1 : u.length ≤ maxLen) (m2 : ∀ s ∈ u, s.ok) (C0 : RepR h [.s 4 (mv.map UMove.cells)] [vc]) (p1 : mv.length ≤ maxLen) : AC Try.prog 8 [va, vb, vc] h fun r _ => r = .bool true := by
  skip
  refine w_laws_FnExactPlanRun (by simp) ?_
  unfold b_laws_FnExactPlanRun
  simp -implicitDefEqProofs only [go_sem, ↓reduceIte, reduceCtorEq, Int.reduceEq, Int.reduceLT, Int.reduceLE, Nat.reduceEqDiff, Nat.reduceAdd, Nat.reduceMul, Nat.reduceLeDiff, Nat.reduceSub, Int.reduceNeg]
  refine (szStringS_pc (A0).1 n1 n2 (by omega)).use ?_
  simp -implicitDefEqProofs only [go_sem, ↓reduceIte, reduceCtorEq, Int.reduceEq, Int.reduceLT, Int.reduceLE, Nat.reduceEqDiff, Nat.reduceAdd, Nat.reduceMul, Nat.reduceLeDiff, Nat.reduceSub, Int.reduceNeg]
  refine Br.of (fun hc0 => ?_) (fun hc0 => ?_)
  · simp -implicitDefEqProofs only [go_sem, ↓reduceIte, reduceCtorEq, Int.reduceEq, Int.reduceLT, Int.reduceLE, Nat.reduceEqDiff, Nat.reduceAdd, Nat.reduceMul, Nat.reduceLeDiff, Nat.reduceSub, Int.reduceNeg, hc0]
  have sz0 := lessn_nn hc0
  simp -implicitDefEqProofs only [go_sem, ↓reduceIte, reduceCtorEq, Int.reduceEq, Int.reduceLT, Int.reduceLE, Nat.reduceEqDiff, Nat.reduceAdd, Nat.reduceMul, Nat.reduceLeDiff, Nat.reduceSub, Int.reduceNeg, hc0]
  refine (szStepS_pc (B0).1 m1 m2 (by omega)).use ?_
  simp -implicitDefEqProofs only [go_sem, ↓reduceIte, reduceCtorEq, Int.reduceEq, Int.reduceLT, Int.reduceLE, Nat.reduceEqDiff, Nat.reduceAdd, Nat.reduceMul, Nat.reduceLeDiff, Nat.reduceSub, Int.reduceNeg]
  refine Br.of (fun hc1 => ?_) (fun hc1 => ?_)
  · simp -implicitDefEqProofs only [go_sem, ↓reduceIte, reduceCtorEq, Int.reduceEq, Int.reduceLT, Int.reduceLE, Nat.reduceEqDiff, Nat.reduceAdd, Nat.reduceMul, Nat.reduceLeDiff, Nat.reduceSub, Int.reduceNeg, hc1]
  have sz1 := lessn_nn hc1
  simp -implicitDefEqProofs only [go_sem, ↓reduceIte, reduceCtorEq, Int.reduceEq, Int.reduceLT, Int.reduceLE, Nat.reduceEqDiff, Nat.reduceAdd, Nat.reduceMul, Nat.reduceLeDiff, Nat.reduceSub, Int.reduceNeg, hc1]
  refine (szMoveS_pc (C0).1 p1 (by omega)).use ?_
  simp -implicitDefEqProofs only [go_sem, ↓reduceIte, reduceCtorEq, Int.reduceEq, Int.reduceLT, Int.reduceLE, Nat.reduceEqDiff, Nat.reduceAdd, Nat.reduceMul, Nat.reduceLeDiff, Nat.reduceSub, Int.reduceNeg]
  refine Br.of (fun hc2 => ?_) (fun hc2 => ?_)
  · simp -implicitDefEqProofs only [go_sem, ↓reduceIte, reduceCtorEq, Int.reduceEq, Int.reduceLT, Int.reduceLE, Nat.reduceEqDiff, Nat.reduceAdd, Nat.reduceMul, Nat.reduceLeDiff, Nat.reduceSub, Int.reduceNeg, hc2]
  have sz2 := lessn_nn hc2
  have sz1 := lessn_nn hc1
  have hsm : l.length ≤ 1048576 := by omega
  have hsmu : u.length ≤ 1048576 := by omega
  have hsmm : mv.length ≤ 1048576 := by omega
  have hio0 := runOut_len l u mv
  have hio : (runOut l u mv).1.length ≤ 1048576 := by omega
  have hfin : (runOut l u mv).1.length ≤ maxLen := by have := show maxLen = 9223372036854775807 from rfl; omega
  simp -implicitDefEqProofs only [go_sem, ↓reduceIte, reduceCtorEq, Int.reduceEq, Int.reduceLT, Int.reduceLE, Nat.reduceEqDiff, Nat.reduceAdd, Nat.reduceMul, Nat.reduceLeDiff, Nat.reduceSub, Int.reduceNeg, hc2]
  refine AC_of (toStringS_ac (A0).1 hsm) ?_
  rintro v_wa x1 - ⟨e1, f_wa⟩
  have T_wa := rep1 f_wa
  have D_a_wa := DjL.of (RepR.known A0) (RepF.new T_wa)
  have D_b_wa := DjL.of (RepR.known B0) (RepF.new T_wa)
  have D_c_wa := DjL.of (RepR.known C0) (RepF.new T_wa)
  have R1_a := RepR.ext A0 e1
  have R1_b := RepR.ext B0 e1
  have R1_c := RepR.ext C0 e1
  simp -implicitDefEqProofs only [go_sem, ↓reduceIte, reduceCtorEq, Int.reduceEq, Int.reduceLT, Int.reduceLE, Nat.reduceEqDiff, Nat.reduceAdd, Nat.reduceMul, Nat.reduceLeDiff, Nat.reduceSub, Int.reduceNeg]
  refine AC_of (toStepS_ac (R1_b).1 hsmu) ?_
  rintro v_wb x2 - ⟨e2, f_wb⟩
  have T_wb := rep1 f_wb
  have D_a_wb := DjL.of (RepR.known R1_a) (RepF.new T_wb)
  have D_b_wb := DjL.of (RepR.known R1_b) (RepF.new T_wb)
  have D_c_wb := DjL.of (RepR.known R1_c) (RepF.new T_wb)
  have D_wa_wb := DjL.of (RepR.known T_wa.r) (RepF.new T_wb)
  have R2_a := RepR.ext R1_a e2
  have R2_b := RepR.ext R1_b e2
  have R2_c := RepR.ext R1_c e2
  have R2_wa := RepR.ext T_wa.r e2
  have F2_wa := RepF.ext T_wa e2
  simp -implicitDefEqProofs only [go_sem, ↓reduceIte, reduceCtorEq, Int.reduceEq, Int.reduceLT, Int.reduceLE, Nat.reduceEqDiff, Nat.reduceAdd, Nat.reduceMul, Nat.reduceLeDiff, Nat.reduceSub, Int.reduceNeg]
  refine AC_of (toMoveS_ac (R2_c).1 hsmm) ?_
  rintro v_wc x3 - ⟨e3, f_wc⟩
  have T_wc := rep1 f_wc
  have D_a_wc := DjL.of (RepR.known R2_a) (RepF.new T_wc)
  have D_b_wc := DjL.of (RepR.known R2_b) (RepF.new T_wc)
  have D_c_wc := DjL.of (RepR.known R2_c) (RepF.new T_wc)
  have D_wa_wc := DjL.of (RepR.known F2_wa.r) (RepF.new T_wc)
  have D_wb_wc := DjL.of (RepR.known T_wb.r) (RepF.new T_wc)
  have R3_a := RepR.ext R2_a e3
  have R3_b := RepR.ext R2_b e3
  have R3_c := RepR.ext R2_c e3
  have R3_wa := RepR.ext F2_wa.r e3
  have R3_wb := RepR.ext T_wb.r e3
  have F3_wa := RepF.ext F2_wa e3
  have F3_wb := RepF.ext T_wb e3
  simp -implicitDefEqProofs only [go_sem, ↓reduceIte, reduceCtorEq, Int.reduceEq, Int.reduceLT, Int.reduceLE, Nat.reduceEqDiff, Nat.reduceAdd, Nat.reduceMul, Nat.reduceLeDiff, Nat.reduceSub, Int.reduceNeg]
  refine AC_of (specPlanRun_ac (F3_wa.r).1 (F3_wb.r).1 (T_wc.r).1 hsm hsmu hsmm) ?_
  rintro _ x4 - ⟨e4, w0, rfl, T_w0⟩
  have D_a_w0 := DjL.of (RepR.known R3_a) (RepF.new T_w0)
  have D_b_w0 := DjL.of (RepR.known R3_b) (RepF.new T_w0)
  have D_c_w0 := DjL.of (RepR.known R3_c) (RepF.new T_w0)
  have D_wa_w0 := DjL.of (RepR.known F3_wa.r) (RepF.new T_w0)
  have D_wb_w0 := DjL.of (RepR.known F3_wb.r) (RepF.new T_w0)
  have D_wc_w0 := DjL.of (RepR.known T_wc.r) (RepF.new T_w0)
  have R4_a := RepR.ext R3_a e4
  have R4_b := RepR.ext R3_b e4
  have R4_c := RepR.ext R3_c e4
  have R4_wa := RepR.ext F3_wa.r e4
  have R4_wb := RepR.ext F3_wb.r e4
  have R4_wc := RepR.ext T_wc.r e4
  have F4_wa := RepF.ext F3_wa e4
  have F4_wb := RepF.ext F3_wb e4
  have F4_wc := RepF.ext T_wc e4
  have l_w0 := T_w0.r.len
  simp only [List.length_cons, List.length_nil, Nat.reduceAdd] at l_w0
  have q_w0 := T_w0.r.one
  have t_w0 := take_len l_w0
  simp -implicitDefEqProofs only [go_sem, ↓reduceIte, reduceCtorEq, Int.reduceEq, Int.reduceLT, Int.reduceLE, Nat.reduceEqDiff, Nat.reduceAdd, Nat.reduceMul, Nat.reduceLeDiff, Nat.reduceSub, Int.reduceNeg, l_w0, q_w0, t_w0]
  intro b_w0 hb_b_w0 n_b_w0
  have nn_wa_b_w0 := F4_wa.r.known.ne n_b_w0
  have nn_wb_b_w0 := F4_wb.r.known.ne n_b_w0
  have nn_wc_b_w0 := F4_wc.r.known.ne n_b_w0
  have nn_w0_b_w0 := T_w0.r.known.ne n_b_w0
  have E_b_w0 := (Ext.refl x4).set n_b_w0 ⟨w0, 2⟩
  simp -implicitDefEqProofs only [go_sem, ↓reduceIte, reduceCtorEq, Int.reduceEq, Int.reduceLT, Int.reduceLE, Nat.reduceEqDiff, Nat.reduceAdd, Nat.reduceMul, Nat.reduceLeDiff, Nat.reduceSub, Int.reduceNeg, hb_b_w0, l_w0, q_w0, t_w0]
  have R5_a := RepR.ext R4_a E_b_w0
  have R5_b := RepR.ext R4_b E_b_w0
  have R5_c := RepR.ext R4_c E_b_w0
  have R5_wa := RepR.ext F4_wa.r E_b_w0
  have R5_wb := RepR.ext F4_wb.r E_b_w0
  have R5_wc := RepR.ext F4_wc.r E_b_w0
  have R5_w0 := RepR.ext T_w0.r E_b_w0
  have F5_wa := RepF.ext F4_wa E_b_w0
  have F5_wb := RepF.ext F4_wb E_b_w0
  have F5_wc := RepF.ext F4_wc E_b_w0
  have F5_w0 := RepF.ext T_w0 E_b_w0
  have G5_b_w0 : (x4.set b_w0 ⟨w0, 2⟩).get b_w0 = some ⟨w0, 2⟩ := H.set_get_same _ _ _
  refine AC_of (toStringS_ac (R5_a).1 hsm) ?_
  rintro v_xa x5 - ⟨e5, f_xa⟩
  have T_xa := rep1 f_xa
  have nn_xa_b_w0 := RepF.new T_xa |>.ne G5_b_w0
  have D_a_xa := DjL.of (RepR.known R5_a) (RepF.new T_xa)
  have D_b_xa := DjL.of (RepR.known R5_b) (RepF.new T_xa)
  have D_c_xa := DjL.of (RepR.known R5_c) (RepF.new T_xa)
  have D_w0_xa := DjL.of (RepR.known F5_w0.r) (RepF.new T_xa)
  have G6_b_w0 := e5.2.g b_w0 _ G5_b_w0
  have R6_a := RepR.ext R5_a e5
  have R6_b := RepR.ext R5_b e5
  have R6_c := RepR.ext R5_c e5
  have R6_w0 := RepR.ext F5_w0.r e5
  have F6_w0 := RepF.ext F5_w0 e5
  simp -implicitDefEqProofs only [go_sem, ↓reduceIte, reduceCtorEq, Int.reduceEq, Int.reduceLT, Int.reduceLE, Nat.reduceEqDiff, Nat.reduceAdd, Nat.reduceMul, Nat.reduceLeDiff, Nat.reduceSub, Int.reduceNeg, ldc_get G6_b_w0, l_w0, q_w0, t_w0]
  refine AC_of (toStepS_ac (R6_b).1 hsmu) ?_
  rintro v_xb x6 - ⟨e6, f_xb⟩
  have T_xb := rep1 f_xb
  have nn_xb_b_w0 := RepF.new T_xb |>.ne G6_b_w0
  have D_a_xb := DjL.of (RepR.known R6_a) (RepF.new T_xb)
  have D_b_xb := DjL.of (RepR.known R6_b) (RepF.new T_xb)
  have D_c_xb := DjL.of (RepR.known R6_c) (RepF.new T_xb)
  have D_w0_xb := DjL.of (RepR.known F6_w0.r) (RepF.new T_xb)
  have D_xa_xb := DjL.of (RepR.known T_xa.r) (RepF.new T_xb)
  have G7_b_w0 := e6.2.g b_w0 _ G6_b_w0
  have R7_a := RepR.ext R6_a e6
  have R7_b := RepR.ext R6_b e6
  have R7_c := RepR.ext R6_c e6
  have R7_w0 := RepR.ext F6_w0.r e6
  have R7_xa := RepR.ext T_xa.r e6
  have F7_w0 := RepF.ext F6_w0 e6
  have F7_xa := RepF.ext T_xa e6
  simp -implicitDefEqProofs only [go_sem, ↓reduceIte, reduceCtorEq, Int.reduceEq, Int.reduceLT, Int.reduceLE, Nat.reduceEqDiff, Nat.reduceAdd, Nat.reduceMul, Nat.reduceLeDiff, Nat.reduceSub, Int.reduceNeg, ldc_get G7_b_w0, l_w0, q_w0, t_w0]
  refine AC_of (toMoveS_ac (R7_c).1 hsmm) ?_
  rintro v_xc x7 - ⟨e7, f_xc⟩
  have T_xc := rep1 f_xc
  have nn_xc_b_w0 := RepF.new T_xc |>.ne G7_b_w0
  have D_a_xc := DjL.of (RepR.known R7_a) (RepF.new T_xc)
  have D_b_xc := DjL.of (RepR.known R7_b) (RepF.new T_xc)
  have D_c_xc := DjL.of (RepR.known R7_c) (RepF.new T_xc)
  have D_w0_xc := DjL.of (RepR.known F7_w0.r) (RepF.new T_xc)
  have D_xa_xc := DjL.of (RepR.known F7_xa.r) (RepF.new T_xc)
  have D_xb_xc := DjL.of (RepR.known T_xb.r) (RepF.new T_xc)
  have G8_b_w0 := e7.2.g b_w0 _ G7_b_w0
  have R8_a := RepR.ext R7_a e7
  have R8_b := RepR.ext R7_b e7
  have R8_c := RepR.ext R7_c e7
  have R8_w0 := RepR.ext F7_w0.r e7
  have R8_xa := RepR.ext F7_xa.r e7
  have R8_xb := RepR.ext T_xb.r e7
  have F8_w0 := RepF.ext F7_w0 e7
  have F8_xa := RepF.ext F7_xa e7
  have F8_xb := RepF.ext T_xb e7
  simp -implicitDefEqProofs only [go_sem, ↓reduceIte, reduceCtorEq, Int.reduceEq, Int.reduceLT, Int.reduceLE, Nat.reduceEqDiff, Nat.reduceAdd, Nat.reduceMul, Nat.reduceLeDiff, Nat.reduceSub, Int.reduceNeg, ldc_get G8_b_w0, l_w0, q_w0, t_w0]
  refine AC_of (implPlanRun_ac (F8_xa.r).1 (F8_xb.r).1 (T_xc.r).1 hsm hsmu hsmm) ?_
  rintro _ x8 - ⟨e8, g0, rfl, T_g0⟩
  have nn_g0_b_w0 := RepF.new T_g0 |>.ne G8_b_w0
  have D_a_g0 := DjL.of (RepR.known R8_a) (RepF.new T_g0)
  have D_b_g0 := DjL.of (RepR.known R8_b) (RepF.new T_g0)
  have D_c_g0 := DjL.of (RepR.known R8_c) (RepF.new T_g0)
  have D_w0_g0 := DjL.of (RepR.known F8_w0.r) (RepF.new T_g0)
  have D_xa_g0 := DjL.of (RepR.known F8_xa.r) (RepF.new T_g0)
  have D_xb_g0 := DjL.of (RepR.known F8_xb.r) (RepF.new T_g0)
  have D_xc_g0 := DjL.of (RepR.known T_xc.r) (RepF.new T_g0)
  have G9_b_w0 := e8.2.g b_w0 _ G8_b_w0
  have R9_a := RepR.ext R8_a e8
  have R9_b := RepR.ext R8_b e8
  have R9_c := RepR.ext R8_c e8
  have R9_w0 := RepR.ext F8_w0.r e8
  have R9_xa := RepR.ext F8_xa.r e8
  have R9_xb := RepR.ext F8_xb.r e8
  have R9_xc := RepR.ext T_xc.r e8
  have F9_w0 := RepF.ext F8_w0 e8
  have F9_xa := RepF.ext F8_xa e8
  have F9_xb := RepF.ext F8_xb e8
  have F9_xc := RepF.ext T_xc e8
  have l_g0 := T_g0.r.len
  simp only [List.length_cons, List.length_nil, Nat.reduceAdd] at l_g0
  have q_g0 := T_g0.r.one
  have t_g0 := take_len l_g0
  simp -implicitDefEqProofs only [go_sem, ↓reduceIte, reduceCtorEq, Int.reduceEq, Int.reduceLT, Int.reduceLE, Nat.reduceEqDiff, Nat.reduceAdd, Nat.reduceMul, Nat.reduceLeDiff, Nat.reduceSub, Int.reduceNeg, ldc_get G9_b_w0, l_w0, q_w0, t_w0, l_g0, q_g0, t_g0]
  intro b_g0 hb_b_g0 n_b_g0
  have z_b_w0_b_g0 : (b_w0 = b_g0) = False := eq_false fun e => by subst e; rw [G9_b_w0] at n_b_g0; cases n_b_g0
  have nn_w0_b_g0 := F9_w0.r.known.ne n_b_g0
  have nn_xa_b_g0 := F9_xa.r.known.ne n_b_g0
  have nn_xb_b_g0 := F9_xb.r.known.ne n_b_g0
  have nn_xc_b_g0 := F9_xc.r.known.ne n_b_g0
  have nn_g0_b_g0 := T_g0.r.known.ne n_b_g0
  have E_b_g0 := (Ext.refl x8).set n_b_g0 ⟨g0, 2⟩
  simp -implicitDefEqProofs only [go_sem, ↓reduceIte, reduceCtorEq, Int.reduceEq, Int.reduceLT, Int.reduceLE, Nat.reduceEqDiff, Nat.reduceAdd, Nat.reduceMul, Nat.reduceLeDiff, Nat.reduceSub, Int.reduceNeg, hb_b_g0, ldc_get G9_b_w0, z_b_w0_b_g0, l_w0, q_w0, t_w0, l_g0, q_g0, t_g0]
  have G10_b_w0 := E_b_g0.2.g b_w0 _ G9_b_w0
  have R10_a := RepR.ext R9_a E_b_g0
  have R10_b := RepR.ext R9_b E_b_g0
  have R10_c := RepR.ext R9_c E_b_g0
  have R10_w0 := RepR.ext F9_w0.r E_b_g0
  have R10_xa := RepR.ext F9_xa.r E_b_g0
  have R10_xb := RepR.ext F9_xb.r E_b_g0
  have R10_xc := RepR.ext F9_xc.r E_b_g0
  have R10_g0 := RepR.ext T_g0.r E_b_g0
  have F10_w0 := RepF.ext F9_w0 E_b_g0
  have F10_xa := RepF.ext F9_xa E_b_g0
  have F10_xb := RepF.ext F9_xb E_b_g0
  have F10_xc := RepF.ext F9_xc E_b_g0
  have F10_g0 := RepF.ext T_g0 E_b_g0
  have G10_b_g0 : (x8.set b_g0 ⟨g0, 2⟩).get b_g0 = some ⟨g0, 2⟩ := H.set_get_same _ _ _
  refine (eqImageOut_pc F10_g0.r F10_w0.r hfin).use ?_
  simp -implicitDefEqProofs only [go_sem, ↓reduceIte, reduceCtorEq, Int.reduceEq, Int.reduceLT, Int.reduceLE, Nat.reduceEqDiff, Nat.reduceAdd, Nat.reduceMul, Nat.reduceLeDiff, Nat.reduceSub, Int.reduceNeg, ldc_get G10_b_w0, ldc_get G10_b_g0, z_b_w0_b_g0, l_w0, q_w0, t_w0, l_g0, q_g0, t_g0]
  refine AC_of (toStringS_ac (R10_a).1 hsm) ?_
  rintro v_ya x9 - ⟨e9, f_ya⟩
  have T_ya := rep1 f_ya
  have G11_b_w0 := e9.2.g b_w0 _ G10_b_w0
  have G11_b_g0 := e9.2.g b_g0 _ G10_b_g0
  have R11_a := RepR.ext R10_a e9
  have R11_b := RepR.ext R10_b e9
  have R11_c := RepR.ext R10_c e9
  have R11_w0 := RepR.ext F10_w0.r e9
  have R11_xa := RepR.ext F10_xa.r e9
  have R11_xb := RepR.ext F10_xb.r e9
  have R11_xc := RepR.ext F10_xc.r e9
  have R11_g0 := RepR.ext F10_g0.r e9
  have F11_w0 := RepF.ext F10_w0 e9
  have F11_xa := RepF.ext F10_xa e9
  have F11_xb := RepF.ext F10_xb e9
  have F11_xc := RepF.ext F10_xc e9
  have F11_g0 := RepF.ext F10_g0 e9
  simp -implicitDefEqProofs only [go_sem, ↓reduceIte, reduceCtorEq, Int.reduceEq, Int.reduceLT, Int.reduceLE, Nat.reduceEqDiff, Nat.reduceAdd, Nat.reduceMul, Nat.reduceLeDiff, Nat.reduceSub, Int.reduceNeg, e9.2, ldc_get G11_b_w0, ldc_get G11_b_g0, z_b_w0_b_g0, l_w0, q_w0, t_w0, l_g0, q_g0, t_g0]
  refine (eqStringS_pc (F11_xa.r).1 (T_ya.r).1 n1).use ?_
  simp -implicitDefEqProofs only [go_sem, ↓reduceIte, reduceCtorEq, Int.reduceEq, Int.reduceLT, Int.reduceLE, Nat.reduceEqDiff, Nat.reduceAdd, Nat.reduceMul, Nat.reduceLeDiff, Nat.reduceSub, Int.reduceNeg, e9.2, ldc_get G11_b_w0, ldc_get G11_b_g0, z_b_w0_b_g0, l_w0, q_w0, t_w0, l_g0, q_g0, t_g0]
  refine AC_of (toStepS_ac (R11_b).1 hsmu) ?_
  rintro v_yb x10 - ⟨e10, f_yb⟩
  have T_yb := rep1 f_yb
  have G12_b_w0 := e10.2.g b_w0 _ G11_b_w0
  have G12_b_g0 := e10.2.g b_g0 _ G11_b_g0
  have R12_a := RepR.ext R11_a e10
  have R12_b := RepR.ext R11_b e10
  have R12_c := RepR.ext R11_c e10
  have R12_w0 := RepR.ext F11_w0.r e10
  have R12_xa := RepR.ext F11_xa.r e10
  have R12_xb := RepR.ext F11_xb.r e10
  have R12_xc := RepR.ext F11_xc.r e10
  have R12_g0 := RepR.ext F11_g0.r e10
  have F12_w0 := RepF.ext F11_w0 e10
  have F12_xa := RepF.ext F11_xa e10
  have F12_xb := RepF.ext F11_xb e10
  have F12_xc := RepF.ext F11_xc e10
  have F12_g0 := RepF.ext F11_g0 e10
  simp -implicitDefEqProofs only [go_sem, ↓reduceIte, reduceCtorEq, Int.reduceEq, Int.reduceLT, Int.reduceLE, Nat.reduceEqDiff, Nat.reduceAdd, Nat.reduceMul, Nat.reduceLeDiff, Nat.reduceSub, Int.reduceNeg, e10.2, ldc_get G12_b_w0, ldc_get G12_b_g0, z_b_w0_b_g0, l_w0, q_w0, t_w0, l_g0, q_g0, t_g0]
  refine (eqStepS_pc (F12_xb.r).1 (T_yb.r).1 m1).use ?_
  simp -implicitDefEqProofs only [go_sem, ↓reduceIte, reduceCtorEq, Int.reduceEq, Int.reduceLT, Int.reduceLE, Nat.reduceEqDiff, Nat.reduceAdd, Nat.reduceMul, Nat.reduceLeDiff, Nat.reduceSub, Int.reduceNeg, e10.2, ldc_get G12_b_w0, ldc_get G12_b_g0, z_b_w0_b_g0, l_w0, q_w0, t_w0, l_g0, q_g0, t_g0]
  refine AC_of (toMoveS_ac (R12_c).1 hsmm) ?_
  rintro v_yc x11 - ⟨e11, f_yc⟩
  have T_yc := rep1 f_yc
  have G13_b_w0 := e11.2.g b_w0 _ G12_b_w0
  have G13_b_g0 := e11.2.g b_g0 _ G12_b_g0
  have R13_a := RepR.ext R12_a e11
  have R13_b := RepR.ext R12_b e11
  have R13_c := RepR.ext R12_c e11
  have R13_w0 := RepR.ext F12_w0.r e11
  have R13_xa := RepR.ext F12_xa.r e11
  have R13_xb := RepR.ext F12_xb.r e11
  have R13_xc := RepR.ext F12_xc.r e11
  have R13_g0 := RepR.ext F12_g0.r e11
  have F13_w0 := RepF.ext F12_w0 e11
  have F13_xa := RepF.ext F12_xa e11
  have F13_xb := RepF.ext F12_xb e11
  have F13_xc := RepF.ext F12_xc e11
  have F13_g0 := RepF.ext F12_g0 e11
  simp -implicitDefEqProofs only [go_sem, ↓reduceIte, reduceCtorEq, Int.reduceEq, Int.reduceLT, Int.reduceLE, Nat.reduceEqDiff, Nat.reduceAdd, Nat.reduceMul, Nat.reduceLeDiff, Nat.reduceSub, Int.reduceNeg, e11.2, ldc_get G13_b_w0, ldc_get G13_b_g0, z_b_w0_b_g0, l_w0, q_w0, t_w0, l_g0, q_g0, t_g0]
  refine (eqMoveS_pc (F13_xc.r).1 (T_yc.r).1 p1).use ?_
  simp -implicitDefEqProofs only [go_sem, ↓reduceIte, reduceCtorEq, Int.reduceEq, Int.reduceLT, Int.reduceLE, Nat.reduceEqDiff, Nat.reduceAdd, Nat.reduceMul, Nat.reduceLeDiff, Nat.reduceSub, Int.reduceNeg, e11.2, ldc_get G13_b_w0, ldc_get G13_b_g0, z_b_w0_b_g0, l_w0, q_w0, t_w0, l_g0, q_g0, t_g0]
  refine AC_of (markStringS_ac (F13_xa).1 (by omega) (by omega)) ?_
  rintro _ m0 - ⟨rfl, k0, M0⟩
  have k0 := keep1 k0
  have G14_b_w0 := k0.2.1 b_w0 _ nn_xa_b_w0 G13_b_w0
  have G14_b_g0 := k0.2.1 b_g0 _ nn_xa_b_g0 G13_b_g0
  have F14_w0 := RepF.keep F13_w0 k0 D_w0_xa
  have F14_xb := RepF.keep F13_xb k0 D_xa_xb.symm
  have F14_xc := RepF.keep F13_xc k0 D_xa_xc.symm
  have F14_g0 := RepF.keep F13_g0 k0 D_xa_g0.symm
  have R14_a := RepR.keep R13_a k0 D_a_xa
  have R14_b := RepR.keep R13_b k0 D_b_xa
  have R14_c := RepR.keep R13_c k0 D_c_xa
  simp -implicitDefEqProofs only [go_sem, ↓reduceIte, reduceCtorEq, Int.reduceEq, Int.reduceLT, Int.reduceLE, Nat.reduceEqDiff, Nat.reduceAdd, Nat.reduceMul, Nat.reduceLeDiff, Nat.reduceSub, Int.reduceNeg, show ¬ (1 + (l.length : Int) < 0) by omega, ldc_get G14_b_w0, ldc_get G14_b_g0, z_b_w0_b_g0, l_w0, q_w0, t_w0, l_g0, q_g0, t_g0]
  refine AC_of (markStepS_ac (F14_xb).1 (by omega) (by omega)) ?_
  rintro _ m1 - ⟨rfl, k1, M1⟩
  have k1 := keep1 k1
  have G15_b_w0 := k1.2.1 b_w0 _ nn_xb_b_w0 G14_b_w0
  have G15_b_g0 := k1.2.1 b_g0 _ nn_xb_b_g0 G14_b_g0
  have F15_w0 := RepF.keep F14_w0 k1 D_w0_xb
  have F15_xc := RepF.keep F14_xc k1 D_xb_xc.symm
  have F15_g0 := RepF.keep F14_g0 k1 D_xb_g0.symm
  have R15_a := RepR.keep R14_a k1 D_a_xb
  have R15_b := RepR.keep R14_b k1 D_b_xb
  have R15_c := RepR.keep R14_c k1 D_c_xb
  simp -implicitDefEqProofs only [go_sem, ↓reduceIte, reduceCtorEq, Int.reduceEq, Int.reduceLT, Int.reduceLE, Nat.reduceEqDiff, Nat.reduceAdd, Nat.reduceMul, Nat.reduceLeDiff, Nat.reduceSub, Int.reduceNeg, show ¬ (1 + (l.length : Int) + ((4 * u.length : Nat) : Int) < 0) by omega, ldc_get G15_b_w0, ldc_get G15_b_g0, z_b_w0_b_g0, l_w0, q_w0, t_w0, l_g0, q_g0, t_g0]
  refine AC_of (markMoveS_ac (F15_xc).1 (by omega) (by omega)) ?_
  rintro _ m2 - ⟨rfl, k2, M2⟩
  have k2 := keep1 k2
  have G16_b_w0 := k2.2.1 b_w0 _ nn_xc_b_w0 G15_b_w0
  have G16_b_g0 := k2.2.1 b_g0 _ nn_xc_b_g0 G15_b_g0
  have F16_w0 := RepF.keep F15_w0 k2 D_w0_xc
  have F16_g0 := RepF.keep F15_g0 k2 D_xc_g0.symm
  have R16_a := RepR.keep R15_a k2 D_a_xc
  have R16_b := RepR.keep R15_b k2 D_b_xc
  have R16_c := RepR.keep R15_c k2 D_c_xc
  simp -implicitDefEqProofs only [go_sem, ↓reduceIte, reduceCtorEq, Int.reduceEq, Int.reduceLT, Int.reduceLE, Nat.reduceEqDiff, Nat.reduceAdd, Nat.reduceMul, Nat.reduceLeDiff, Nat.reduceSub, Int.reduceNeg, show ¬ (1 + (l.length : Int) + ((4 * u.length : Nat) : Int) + ((4 * mv.length : Nat) : Int) < 0) by omega, ldc_get G16_b_w0, ldc_get G16_b_g0, z_b_w0_b_g0, l_w0, q_w0, t_w0, l_g0, q_g0, t_g0]
  refine (eqImageOut_pc F16_g0.r F16_w0.r hfin).use ?_
  simp -implicitDefEqProofs only [go_sem, ↓reduceIte, reduceCtorEq, Int.reduceEq, Int.reduceLT, Int.reduceLE, Nat.reduceEqDiff, Nat.reduceAdd, Nat.reduceMul, Nat.reduceLeDiff, Nat.reduceSub, Int.reduceNeg, ldc_get G16_b_w0, ldc_get G16_b_g0, z_b_w0_b_g0, l_w0, q_w0, t_w0, l_g0, q_g0, t_g0]
  refine AC_of (markImageOut_ac F16_g0 hio (by omega)) ?_
  rintro _ mg - ⟨rfl, kg, Mg⟩
  have G17_b_w0 := kg.2.1 b_w0 _ nn_g0_b_w0 G16_b_w0
  have G17_b_g0 := kg.2.1 b_g0 _ nn_g0_b_g0 G16_b_g0
  have F17_w0 := RepF.keep F16_w0 kg D_w0_g0
  have R17_a := RepR.keep R16_a kg D_a_g0
  have R17_b := RepR.keep R16_b kg D_b_g0
  have R17_c := RepR.keep R16_c kg D_c_g0
  simp -implicitDefEqProofs only [go_sem, ↓reduceIte, reduceCtorEq, Int.reduceEq, Int.reduceLT, Int.reduceLE, Nat.reduceEqDiff, Nat.reduceAdd, Nat.reduceMul, Nat.reduceLeDiff, Nat.reduceSub, Int.reduceNeg, ldc_get G17_b_w0, ldc_get G17_b_g0, z_b_w0_b_g0, l_w0, q_w0, t_w0, l_g0, q_g0, t_g0]
  refine (heldImageOut_pc Mg hio (by omega)).use ?_
  simp -implicitDefEqProofs only [go_sem, ↓reduceIte, reduceCtorEq, Int.reduceEq, Int.reduceLT, Int.reduceLE, Nat.reduceEqDiff, Nat.reduceAdd, Nat.reduceMul, Nat.reduceLeDiff, Nat.reduceSub, Int.reduceNeg, show ¬ (1 + ((runOut l u mv).1.length : Int) < 0) by omega, ldc_get G17_b_w0, ldc_get G17_b_g0, z_b_w0_b_g0, l_w0, q_w0, t_w0, l_g0, q_g0, t_g0]
  refine AC_of (toStringS_ac (R17_a).1 hsm) ?_
  rintro v_za x12 - ⟨e12, f_za⟩
  have T_za := rep1 f_za
  have nn_za_b_w0 := RepF.new T_za |>.ne G17_b_w0
  have nn_za_b_g0 := RepF.new T_za |>.ne G17_b_g0
  have D_a_za := DjL.of (RepR.known R17_a) (RepF.new T_za)
  have D_b_za := DjL.of (RepR.known R17_b) (RepF.new T_za)
  have D_c_za := DjL.of (RepR.known R17_c) (RepF.new T_za)
  have D_w0_za := DjL.of (RepR.known F17_w0.r) (RepF.new T_za)
  have G18_b_w0 := e12.2.g b_w0 _ G17_b_w0
  have G18_b_g0 := e12.2.g b_g0 _ G17_b_g0
  have R18_a := RepR.ext R17_a e12
  have R18_b := RepR.ext R17_b e12
  have R18_c := RepR.ext R17_c e12
  have R18_w0 := RepR.ext F17_w0.r e12
  have F18_w0 := RepF.ext F17_w0 e12
  have Mg := RepR.ext Mg e12
  simp -implicitDefEqProofs only [go_sem, ↓reduceIte, reduceCtorEq, Int.reduceEq, Int.reduceLT, Int.reduceLE, Nat.reduceEqDiff, Nat.reduceAdd, Nat.reduceMul, Nat.reduceLeDiff, Nat.reduceSub, Int.reduceNeg, ldc_get G18_b_w0, ldc_get G18_b_g0, z_b_w0_b_g0, l_w0, q_w0, t_w0, l_g0, q_g0, t_g0]
  refine AC_of (toStepS_ac (R18_b).1 hsmu) ?_
  rintro v_zb x13 - ⟨e13, f_zb⟩
  have T_zb := rep1 f_zb
  have nn_zb_b_w0 := RepF.new T_zb |>.ne G18_b_w0
  have nn_zb_b_g0 := RepF.new T_zb |>.ne G18_b_g0
  have D_a_zb := DjL.of (RepR.known R18_a) (RepF.new T_zb)
  have D_b_zb := DjL.of (RepR.known R18_b) (RepF.new T_zb)
  have D_c_zb := DjL.of (RepR.known R18_c) (RepF.new T_zb)
  have D_w0_zb := DjL.of (RepR.known F18_w0.r) (RepF.new T_zb)
  have D_za_zb := DjL.of (RepR.known T_za.r) (RepF.new T_zb)
  have G19_b_w0 := e13.2.g b_w0 _ G18_b_w0
  have G19_b_g0 := e13.2.g b_g0 _ G18_b_g0
  have R19_a := RepR.ext R18_a e13
  have R19_b := RepR.ext R18_b e13
  have R19_c := RepR.ext R18_c e13
  have R19_w0 := RepR.ext F18_w0.r e13
  have R19_za := RepR.ext T_za.r e13
  have F19_w0 := RepF.ext F18_w0 e13
  have F19_za := RepF.ext T_za e13
  have Mg := RepR.ext Mg e13
  simp -implicitDefEqProofs only [go_sem, ↓reduceIte, reduceCtorEq, Int.reduceEq, Int.reduceLT, Int.reduceLE, Nat.reduceEqDiff, Nat.reduceAdd, Nat.reduceMul, Nat.reduceLeDiff, Nat.reduceSub, Int.reduceNeg, ldc_get G19_b_w0, ldc_get G19_b_g0, z_b_w0_b_g0, l_w0, q_w0, t_w0, l_g0, q_g0, t_g0]
  refine AC_of (toMoveS_ac (R19_c).1 hsmm) ?_
  rintro v_zc x14 - ⟨e14, f_zc⟩
  have T_zc := rep1 f_zc
  have nn_zc_b_w0 := RepF.new T_zc |>.ne G19_b_w0
  have nn_zc_b_g0 := RepF.new T_zc |>.ne G19_b_g0
  have D_a_zc := DjL.of (RepR.known R19_a) (RepF.new T_zc)
  have D_b_zc := DjL.of (RepR.known R19_b) (RepF.new T_zc)
  have D_c_zc := DjL.of (RepR.known R19_c) (RepF.new T_zc)
  have D_w0_zc := DjL.of (RepR.known F19_w0.r) (RepF.new T_zc)
  have D_za_zc := DjL.of (RepR.known F19_za.r) (RepF.new T_zc)
  have D_zb_zc := DjL.of (RepR.known T_zb.r) (RepF.new T_zc)
  have G20_b_w0 := e14.2.g b_w0 _ G19_b_w0
  have G20_b_g0 := e14.2.g b_g0 _ G19_b_g0
  have R20_a := RepR.ext R19_a e14
  have R20_b := RepR.ext R19_b e14
  have R20_c := RepR.ext R19_c e14
  have R20_w0 := RepR.ext F19_w0.r e14
  have R20_za := RepR.ext F19_za.r e14
  have R20_zb := RepR.ext T_zb.r e14
  have F20_w0 := RepF.ext F19_w0 e14
  have F20_za := RepF.ext F19_za e14
  have F20_zb := RepF.ext T_zb e14
  have Mg := RepR.ext Mg e14
  simp -implicitDefEqProofs only [go_sem, ↓reduceIte, reduceCtorEq, Int.reduceEq, Int.reduceLT, Int.reduceLE, Nat.reduceEqDiff, Nat.reduceAdd, Nat.reduceMul, Nat.reduceLeDiff, Nat.reduceSub, Int.reduceNeg, ldc_get G20_b_w0, ldc_get G20_b_g0, z_b_w0_b_g0, l_w0, q_w0, t_w0, l_g0, q_g0, t_g0]
  refine AC_of (implPlanRun_ac (F20_za.r).1 (F20_zb.r).1 (T_zc.r).1 hsm hsmu hsmm) ?_
  rintro _ x15 - ⟨e15, j0, rfl, T_j0⟩
  have nn_j0_b_w0 := RepF.new T_j0 |>.ne G20_b_w0
  have nn_j0_b_g0 := RepF.new T_j0 |>.ne G20_b_g0
  have D_a_j0 := DjL.of (RepR.known R20_a) (RepF.new T_j0)
  have D_b_j0 := DjL.of (RepR.known R20_b) (RepF.new T_j0)
  have D_c_j0 := DjL.of (RepR.known R20_c) (RepF.new T_j0)
  have D_w0_j0 := DjL.of (RepR.known F20_w0.r) (RepF.new T_j0)
  have D_za_j0 := DjL.of (RepR.known F20_za.r) (RepF.new T_j0)
  have D_zb_j0 := DjL.of (RepR.known F20_zb.r) (RepF.new T_j0)
  have D_zc_j0 := DjL.of (RepR.known T_zc.r) (RepF.new T_j0)
  have G21_b_w0 := e15.2.g b_w0 _ G20_b_w0
  have G21_b_g0 := e15.2.g b_g0 _ G20_b_g0
  have R21_a := RepR.ext R20_a e15
  have R21_b := RepR.ext R20_b e15
  have R21_c := RepR.ext R20_c e15
  have R21_w0 := RepR.ext F20_w0.r e15
  have R21_za := RepR.ext F20_za.r e15
  have R21_zb := RepR.ext F20_zb.r e15
  have R21_zc := RepR.ext T_zc.r e15
  have F21_w0 := RepF.ext F20_w0 e15
  have F21_za := RepF.ext F20_za e15
  have F21_zb := RepF.ext F20_zb e15
  have F21_zc := RepF.ext T_zc e15
  have Mg := RepR.ext Mg e15
  have l_j0 := T_j0.r.len
  simp only [List.length_cons, List.length_nil, Nat.reduceAdd] at l_j0
  have q_j0 := T_j0.r.one
  have t_j0 := take_len l_j0
  simp -implicitDefEqProofs only [go_sem, ↓reduceIte, reduceCtorEq, Int.reduceEq, Int.reduceLT, Int.reduceLE, Nat.reduceEqDiff, Nat.reduceAdd, Nat.reduceMul, Nat.reduceLeDiff, Nat.reduceSub, Int.reduceNeg, ldc_get G21_b_w0, ldc_get G21_b_g0, z_b_w0_b_g0, l_w0, q_w0, t_w0, l_g0, q_g0, t_g0, l_j0, q_j0, t_j0]
  intro b_j0 hb_b_j0 n_b_j0
  have z_b_w0_b_j0 : (b_w0 = b_j0) = False := eq_false fun e => by subst e; rw [G21_b_w0] at n_b_j0; cases n_b_j0
  have z_b_g0_b_j0 : (b_g0 = b_j0) = False := eq_false fun e => by subst e; rw [G21_b_g0] at n_b_j0; cases n_b_j0
  have nn_w0_b_j0 := F21_w0.r.known.ne n_b_j0
  have nn_za_b_j0 := F21_za.r.known.ne n_b_j0
  have nn_zb_b_j0 := F21_zb.r.known.ne n_b_j0
  have nn_zc_b_j0 := F21_zc.r.known.ne n_b_j0
  have nn_j0_b_j0 := T_j0.r.known.ne n_b_j0
  have E_b_j0 := (Ext.refl x15).set n_b_j0 ⟨j0, 2⟩
  simp -implicitDefEqProofs only [go_sem, ↓reduceIte, reduceCtorEq, Int.reduceEq, Int.reduceLT, Int.reduceLE, Nat.reduceEqDiff, Nat.reduceAdd, Nat.reduceMul, Nat.reduceLeDiff, Nat.reduceSub, Int.reduceNeg, hb_b_j0, ldc_get G21_b_w0, ldc_get G21_b_g0, z_b_w0_b_g0, z_b_w0_b_j0, z_b_g0_b_j0, l_w0, q_w0, t_w0, l_g0, q_g0, t_g0, l_j0, q_j0, t_j0]
  have G22_b_w0 := E_b_j0.2.g b_w0 _ G21_b_w0
  have G22_b_g0 := E_b_j0.2.g b_g0 _ G21_b_g0
  have R22_a := RepR.ext R21_a E_b_j0
  have R22_b := RepR.ext R21_b E_b_j0
  have R22_c := RepR.ext R21_c E_b_j0
  have R22_w0 := RepR.ext F21_w0.r E_b_j0
  have R22_za := RepR.ext F21_za.r E_b_j0
  have R22_zb := RepR.ext F21_zb.r E_b_j0
  have R22_zc := RepR.ext F21_zc.r E_b_j0
  have R22_j0 := RepR.ext T_j0.r E_b_j0
  have F22_w0 := RepF.ext F21_w0 E_b_j0
  have F22_za := RepF.ext F21_za E_b_j0
  have F22_zb := RepF.ext F21_zb E_b_j0
  have F22_zc := RepF.ext F21_zc E_b_j0
  have F22_j0 := RepF.ext T_j0 E_b_j0
  have G22_b_j0 : (x15.set b_j0 ⟨j0, 2⟩).get b_j0 = some ⟨j0, 2⟩ := H.set_get_same _ _ _
  have Mg := RepR.ext Mg E_b_j0
  refine (eqImageOut_pc F22_j0.r F22_w0.r hfin).use ?_
  simp -implicitDefEqProofs only [go_sem, ↓reduceIte, reduceCtorEq, Int.reduceEq, Int.reduceLT, Int.reduceLE, Nat.reduceEqDiff, Nat.reduceAdd, Nat.reduceMul, Nat.reduceLeDiff, Nat.reduceSub, Int.reduceNeg, ldc_get G22_b_w0, ldc_get G22_b_g0, ldc_get G22_b_j0, z_b_w0_b_g0, z_b_w0_b_j0, z_b_g0_b_j0, l_w0, q_w0, t_w0, l_g0, q_g0, t_g0, l_j0, q_j0, t_j0]
  refine (heldImageOut_pc Mg hio (by omega)).use ?_
  simp -implicitDefEqProofs only [go_sem, ↓reduceIte, reduceCtorEq, Int.reduceEq, Int.reduceLT, Int.reduceLE, Nat.reduceEqDiff, Nat.reduceAdd, Nat.reduceMul, Nat.reduceLeDiff, Nat.reduceSub, Int.reduceNeg, show ¬ (1 + ((runOut l u mv).1.length : Int) < 0) by omega, ldc_get G22_b_w0, ldc_get G22_b_g0, ldc_get G22_b_j0, z_b_w0_b_g0, z_b_w0_b_j0, z_b_g0_b_j0, l_w0, q_w0, t_w0, l_g0, q_g0, t_g0, l_j0, q_j0, t_j0]
theorem planRun_law (h : H) (args : List Value) (ha : okAs h [.one (.sl [.str]), .one (.sl [.int .i64, .int .i64, .int .i64, .str]), .one (.sl [.int .i64, .int .i64, .int .i64, .int .i64])] args) : AC Try.prog 8 args h fun r _ => r = .bool true := by
  obtain ⟨v, _, rfl, ⟨rows, hs, hf, hn⟩, a0⟩ := okAs_cons ha
  obtain ⟨v2, _, rfl, ⟨rows2, hs2, hf2, hn2⟩, a1⟩ := okAs_cons a0
  obtain ⟨v3, _, rfl, ⟨rows3, hs3, hf3, hn3⟩, a2⟩ := okAs_cons a1
  obtain rfl := okAs_nil a2
  obtain ⟨l, rfl, hok⟩ := strs_of rows hf
  obtain ⟨u, rfl, hok2⟩ := steps_of rows2 hf2
  obtain ⟨mv, rfl, hok3⟩ := moves_of rows3 hf3
  exact planRun_walk ⟨hs, trivial⟩ (by simpa using hn) hok ⟨hs2, trivial⟩ (by simpa using hn2) hok2 ⟨hs3, trivial⟩ (by simpa using hn3)
section
open Go.ChangeShapes Go.WideShapes Go.ChangeAt Go.RowKit
theorem fnExactPlanRun_lifted (os : Os) (started : os.Started) (H' : Type) (enc : TypeId × Value → H') : ReturnsInHanded {} Try.checked os 8 .any (Rows.fnExactPlanRunSpec.pre6 enc Try.prog Try.f8 Rows.fnExactPlanRunRow.domain false) (Rows.fnExactPlanRunSpec.post enc Try.prog Try.f8 false true false false) :=
  law_row (Ck := Try.checked) [.one (.sl [.str]), .one (.sl [.int .i64, .int .i64, .int .i64, .str]), .one (.sl [.int .i64, .int .i64, .int .i64, .int .i64])] (by kernel_rfl) started (by kernel_rfl) Try.func8 (ChangeSpec.witness6 (enc := enc) (C := Try.checked) false ⟨#[], #[.slice none 0 0, .slice none 0 0, .slice none 0 0], []⟩ 8 (by kernel_rfl) (by kernel_rfl) (by kernel_rfl) (by kernel_rfl))
    (by kernel_rfl) (by kernel_rfl) rfl (by kernel_rfl : Try.prog.underlying (Try.f8.resultTypes.getD 0 0) = some .bool) rfl
    (fun ds hd => by
      rw [show Try.f8.params.toList.length = 3 by kernel_rfl] at hd
      match ds, hd with
      | [_, _, _], _ => rfl)
    (by kernel_rfl) planRun_law
theorem fnExactPlanRun_holds : Rows.FnExactPlanRunSaid :=
  OpenClaim.holds_of_wide 8 Try.f8 rfl rfl rfl rfl rfl rfl rfl ⟨rfl, rfl, rfl, rfl, rfl⟩ rfl rfl rfl rfl rfl (by kernel_rfl) Try.func8 (by kernel_rfl)
    (of_decide_eq_true (by kernel_rfl)) (by unfold Func.isWrapper; first | (rw [if_pos (by decide +kernel)]; kernel_rfl) | (rw [if_neg (by decide +kernel)]; exact ⟨rfl, rfl⟩))
    (fun os started H' enc _ => fnExactPlanRun_lifted os started H' enc)
end
end Go.Proofs.Ytpponffjeilhmaa
