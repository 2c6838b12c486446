/- StateIdle of the program returns what StateIdle of the reference returns, for all arguments: the given statement, with no condition. -/
import Derived.Test.YtneiikjafpnapaaC12i
import Derived.Test.YtneiikjafpnapaaRows
import Derived.ProofKit
import Derived.ShutString
import Derived.ChangeOld
import Derived.Below
set_option linter.unusedVariables false
set_option linter.unusedSimpArgs false
set_option maxRecDepth 100000
namespace Go.Proofs.Ytneiikjafpnapaa
open Go.KH

/-- laws.FnExactStateIdle -/
def b_laws_FnExactStateIdle : C := (.seq (.ops [⟨(some 1), none, .box (.t 0)⟩, q 2 (.mv (.c (.bool false)))])
 (.seq (.ops [q 3 (.mv (.c (i64 1048576)))])
 (.seq (.ops [q 11 (.ld true 8 (.t 1)), q 12 (.mv (.t 3)), ⟨(some 13), none, .call (.c (.func (.func 35) #[] #[])) [(.t 11), (.t 12)]⟩, q 3 (.mv (.t 13))])
 (.seq (.seq (.ops [q 14 (.mv (.t 3)), q 15 (.bin .lss (.t 14) (.c (i64 0)))])
 (.cond (.t 15) (.seq (.ops [q 2 (.mv (.c (.bool true)))])
 .ret) .skip))
 (.seq (.ops [q 16 (.ld true 8 (.t 1)), ⟨(some 17), none, .call (.c (.func (.func 37) #[] #[])) [(.t 16)]⟩, ⟨(some 18), none, .call (.c (.func (.func 44) #[] #[])) [(.t 17)]⟩, ⟨(some 4), none, .alloc [(i64 0), (i64 0), (i64 0), (i64 0), (i64 0), (str []), nils, nils]⟩, ⟨none, none, .st 8 (.t 4) (.t 18)⟩])
 (.seq (.ops [q 19 (.ld true 8 (.t 1)), ⟨(some 20), none, .call (.c (.func (.func 37) #[] #[])) [(.t 19)]⟩, ⟨(some 5), none, .alloc [(i64 0), (i64 0), (i64 0), (i64 0), (i64 0), (str []), nils, nils]⟩, ⟨none, none, .st 8 (.t 5) (.t 20)⟩])
 (.seq (.ops [q 21 (.ld true 8 (.t 5)), ⟨(some 22), none, .call (.c (.func (.func 45) #[] #[])) [(.t 21)]⟩, ⟨(some 6), none, .alloc [(i64 0), (i64 0), (i64 0), (i64 0), (i64 0), (str []), nils, nils]⟩, ⟨none, none, .st 8 (.t 6) (.t 22)⟩])
 (.seq (.seq (.ops [q 23 (.ld true 8 (.t 6)), q 24 (.ld true 8 (.t 4)), ⟨(some 25), none, .call (.c (.func (.func 39) #[] #[])) [(.t 23), (.t 24)]⟩, q 26 (.un .not (.t 25))])
 (.cond (.t 26) (.seq (.ops [q 2 (.mv (.c (.bool false)))])
 .ret) .skip))
 (.seq (.seq (.dops true (.tk (q 27 (.ld true 8 (.t 5))) (.tk (q 28 (.ld true 8 (.t 1))) (.sq (⟨(some 29), none, .call (.c (.func (.func 37) #[] #[])) [(.t 28)]⟩) (.sq (⟨(some 30), none, .call (.c (.func (.func 39) #[] #[])) [(.t 27), (.t 29)]⟩) (.tk (q 31 (.un .not (.t 30))) .nil))))))
 (.cond (.t 31) (.seq (.ops [q 2 (.mv (.c (.bool false)))])
 .ret) .skip))
 (.seq (.ops [q 7 (.mv (.c (i64 1)))])
 (.seq (.ops [q 32 (.ld true 8 (.t 5)), q 33 (.mv (.t 7)), ⟨(some 34), none, .call (.c (.func (.func 46) #[] #[])) [(.t 32), (.t 33)]⟩, q 7 (.mv (.t 34))])
 (.seq (.seq (.ops [q 35 (.mv (.t 7)), q 36 (.bin .lss (.t 35) (.c (i64 0))), q 37 (.mv (.t 36)), qg 38 37 false (.ld true 8 (.t 6)), qg 39 37 false (.ld true 8 (.t 4)), ⟨(some 40), (some (37, false)), .call (.c (.func (.func 39) #[] #[])) [(.t 38), (.t 39)]⟩, qg 41 37 false (.un .not (.t 40)), q 42 (.pick (.t 37) (.c (.bool true)) (.t 41))])
 (.cond (.t 42) (.seq (.ops [q 2 (.mv (.c (.bool false)))])
 .ret) .skip))
 (.seq (.ops [q 8 (.mv (.c (i64 1)))])
 (.seq (.ops [q 43 (.ld true 8 (.t 6)), q 44 (.mv (.t 8)), ⟨(some 45), none, .call (.c (.func (.func 46) #[] #[])) [(.t 43), (.t 44)]⟩, q 8 (.mv (.t 45))])
 (.seq (.ops [q 9 (.mv (.c (i64 1)))])
 (.seq (.ops [q 46 (.ld true 8 (.t 6)), q 47 (.mv (.t 9)), ⟨(some 48), none, .call (.c (.func (.func 47) #[] #[])) [(.t 46), (.t 47)]⟩, q 9 (.mv (.t 48))])
 (.seq (.seq (.ops [q 49 (.mv (.t 9)), q 50 (.bin .lss (.t 49) (.c (i64 0)))])
 (.cond (.t 50) (.seq (.ops [q 2 (.mv (.c (.bool false)))])
 .ret) .skip))
 (.seq (.seq (.ops [q 51 (.mv (.t 9)), q 52 (.mv (.t 8)), q 53 (.bin .neq (.t 51) (.t 52))])
 (.cond (.t 53) (.seq (.ops [q 2 (.mv (.c (.bool false)))])
 .ret) .skip))
 (.seq (.ops [q 54 (.ld true 8 (.t 1)), ⟨(some 55), none, .call (.c (.func (.func 37) #[] #[])) [(.t 54)]⟩, ⟨(some 56), none, .call (.c (.func (.func 45) #[] #[])) [(.t 55)]⟩, ⟨(some 10), none, .alloc [(i64 0), (i64 0), (i64 0), (i64 0), (i64 0), (str []), nils, nils]⟩, ⟨none, none, .st 8 (.t 10) (.t 56)⟩])
 (.seq (.seq (.ops [q 57 (.ld true 8 (.t 10)), q 58 (.ld true 8 (.t 4)), ⟨(some 59), none, .call (.c (.func (.func 39) #[] #[])) [(.t 57), (.t 58)]⟩, q 60 (.un .not (.t 59))])
 (.cond (.t 60) (.seq (.ops [q 2 (.mv (.c (.bool false)))])
 .ret) .skip))
 (.seq (.ops [q 9 (.mv (.c (i64 1)))])
 (.seq (.ops [q 61 (.ld true 8 (.t 6)), q 62 (.mv (.t 9)), ⟨(some 63), none, .call (.c (.func (.func 47) #[] #[])) [(.t 61), (.t 62)]⟩, q 9 (.mv (.t 63))])
 (.seq (.seq (.ops [q 64 (.mv (.t 9)), q 65 (.bin .lss (.t 64) (.c (i64 0)))])
 (.cond (.t 65) (.seq (.ops [q 2 (.mv (.c (.bool false)))])
 .ret) .skip))
 (.seq (.seq (.ops [q 66 (.mv (.t 9)), q 67 (.mv (.t 8)), q 68 (.bin .neq (.t 66) (.t 67))])
 (.cond (.t 68) (.seq (.ops [q 2 (.mv (.c (.bool false)))])
 .ret) .skip))
 (.seq (.ops [q 2 (.mv (.c (.bool true)))])
 .ret)))))))))))))))))))))))))
theorem w_laws_FnExactStateIdle {args : List Value} {h : H} {Q : Value → H → Prop} (hl : args.length ≤ 69) (hk : wpc Try.prog b_laws_FnExactStateIdle (retw [.tmp 2] Q) (argsFr args) h) : AC Try.prog 11 args h Q :=
  AC.of_wpc mixedOrders Try.func11 (by kernel_rfl) (by kernel_rfl : prepF Try.prog Try.f11 = some ⟨69, [.tmp 2], b_laws_FnExactStateIdle⟩) hl hk

theorem stateIdle_small {s : UState} (h : s.small) : (stateIdle s).small := by
  unfold stateIdle
  split
  · exact ⟨h.1, by simp⟩
  · exact h
theorem stN_nn (s : UState) : 0 ≤ stN s := by unfold stN; omega
theorem stateIdle_walk {h : H} {cs : List Value} {s : UState} (hv : StR h cs s) (hs : s.ok) : AC Try.prog 11 [.agg cs.toArray] h fun r _ => r = .bool true := by
  obtain ⟨o1, o2, o3, o4, o5, o6, o7, o8⟩ := hs
  have l0 := hv.len
  have t0 := take_len l0
  refine w_laws_FnExactStateIdle (by simp) ?_
  unfold b_laws_FnExactStateIdle
  simp -implicitDefEqProofs only [go_sem, ↓reduceIte, reduceCtorEq, Int.reduceEq, Int.reduceLT, Int.reduceLE, Nat.reduceEqDiff, Nat.reduceAdd, Nat.reduceMul, Nat.reduceLeDiff, Nat.reduceSub, Int.reduceNeg]
  intro b1 hb_b1 n_b1
  skip
  simp -implicitDefEqProofs only [go_sem, ↓reduceIte, reduceCtorEq, Int.reduceEq, Int.reduceLT, Int.reduceLE, Nat.reduceEqDiff, Nat.reduceAdd, Nat.reduceMul, Nat.reduceLeDiff, Nat.reduceSub, Int.reduceNeg, hb_b1, l0, t0]
  have X1 := (Ext.refl h).set n_b1 ⟨cs, cs.length⟩
  refine (szStR_pc (left := 1048576) (hv.ext X1) ⟨o6, o7, o8⟩ (by omega)).use ?_
  simp -implicitDefEqProofs only [go_sem, ↓reduceIte, reduceCtorEq, Int.reduceEq, Int.reduceLT, Int.reduceLE, Nat.reduceEqDiff, Nat.reduceAdd, Nat.reduceMul, Nat.reduceLeDiff, Nat.reduceSub, Int.reduceNeg, hb_b1, l0, t0]
  refine Br.of (fun hc => ?_) (fun hc => ?_)
  · simp -implicitDefEqProofs only [go_sem, ↓reduceIte, reduceCtorEq, Int.reduceEq, Int.reduceLT, Int.reduceLE, Nat.reduceEqDiff, Nat.reduceAdd, Nat.reduceMul, Nat.reduceLeDiff, Nat.reduceSub, Int.reduceNeg, hc, hb_b1, l0, t0]
  have hsm : s.small := by have := lessn_nn hc; unfold UState.small; omega
  have him := stateIdle_small hsm
  have hiL : (stateIdle s).held.length ≤ maxLen ∧ (stateIdle s).mine.length ≤ maxLen := by have := him; unfold UState.small at this; have := show maxLen = 9223372036854775807 from rfl; omega
  have R1 := hv.ext X1
  have K1 : KnownL h cs := hv.known
  simp -implicitDefEqProofs only [go_sem, ↓reduceIte, reduceCtorEq, Int.reduceEq, Int.reduceLT, Int.reduceLE, Nat.reduceEqDiff, Nat.reduceAdd, Nat.reduceMul, Nat.reduceLeDiff, Nat.reduceSub, Int.reduceNeg, hc, hb_b1, l0, t0]
  refine AC_of (toState_ac R1 hsm) ?_
  rintro _ h1 - ⟨e1, c1, rfl, F1⟩
  have g11 := e1.2.g b1 _ (H.set_get_same _ _ _)
  simp -implicitDefEqProofs only [go_sem, ↓reduceIte, reduceCtorEq, Int.reduceEq, Int.reduceLT, Int.reduceLE, Nat.reduceEqDiff, Nat.reduceAdd, Nat.reduceMul, Nat.reduceLeDiff, Nat.reduceSub, Int.reduceNeg, ldc_get g11, hb_b1, l0, t0]
  refine AC_of (specStateIdle_ac F1.r hsm) ?_
  rintro _ h2 - ⟨e2, w0, rfl, FW⟩
  have R2 := (R1.ext e1).ext e2
  have g21 := e2.2.g b1 _ g11
  have lw := FW.r.len
  have qw := FW.r.one
  have tw := take_len lw
  simp -implicitDefEqProofs only [go_sem, ↓reduceIte, reduceCtorEq, Int.reduceEq, Int.reduceLT, Int.reduceLE, Nat.reduceEqDiff, Nat.reduceAdd, Nat.reduceMul, Nat.reduceLeDiff, Nat.reduceSub, Int.reduceNeg, hb_b1, l0, t0]
  intro b4 hb4 n4
  have z14 : (b1 = b4) = False := eq_false fun e => by subst e; rw [g21] at n4; cases n4
  have E4 := (Ext.refl h2).set n4 ⟨w0, 8⟩
  have G41 := E4.2.g b1 _ g21
  have G44 : (h2.set b4 ⟨w0, 8⟩).get b4 = some ⟨w0, 8⟩ := H.set_get_same _ _ _
  have W4 := FW.r.ext E4
  have R4 := R2.ext E4
  simp -implicitDefEqProofs only [go_sem, ↓reduceIte, reduceCtorEq, Int.reduceEq, Int.reduceLT, Int.reduceLE, Nat.reduceEqDiff, Nat.reduceAdd, Nat.reduceMul, Nat.reduceLeDiff, Nat.reduceSub, Int.reduceNeg, lw, qw, tw, ldc_get g21, z14, hb4, hb_b1, l0, t0]
  refine AC_of (toState_ac R4 hsm) ?_
  rintro _ h3 - ⟨e3, x0, rfl, FX⟩
  have g31 := e3.2.g b1 _ G41
  have g34 := e3.2.g b4 _ G44
  have lx := FX.r.len
  have qx := FX.r.one
  have tx := take_len lx
  have Dwx := DjL.of W4.known FX.new
  have Dcx := DjL.of R4.known FX.new
  simp -implicitDefEqProofs only [go_sem, ↓reduceIte, reduceCtorEq, Int.reduceEq, Int.reduceLT, Int.reduceLE, Nat.reduceEqDiff, Nat.reduceAdd, Nat.reduceMul, Nat.reduceLeDiff, Nat.reduceSub, Int.reduceNeg, hb_b1, l0, t0]
  intro b5 hb5 n5
  have z15 : (b1 = b5) = False := eq_false fun e => by subst e; rw [g31] at n5; cases n5
  have z45 : (b4 = b5) = False := eq_false fun e => by subst e; rw [g34] at n5; cases n5
  have E5 := (Ext.refl h3).set n5 ⟨x0, 8⟩
  have G51 := E5.2.g b1 _ g31
  have G54 := E5.2.g b4 _ g34
  have G55 : (h3.set b5 ⟨x0, 8⟩).get b5 = some ⟨x0, 8⟩ := H.set_get_same _ _ _
  have W5 := (W4.ext e3).ext E5
  have R5 := (R4.ext e3).ext E5
  have FX5 := FX.ext E5
  simp -implicitDefEqProofs only [go_sem, ↓reduceIte, reduceCtorEq, Int.reduceEq, Int.reduceLT, Int.reduceLE, Nat.reduceEqDiff, Nat.reduceAdd, Nat.reduceMul, Nat.reduceLeDiff, Nat.reduceSub, Int.reduceNeg, lx, qx, tx, ldc_get g31, ldc_get g34, z15, z45, hb5, hb_b1, l0, t0]
  refine AC_of (implStateIdle_ac FX5.r hsm) ?_
  rintro _ h6 - ⟨e6, g0, rfl, FG⟩
  have g61 := e6.2.g b1 _ G51
  have g64 := e6.2.g b4 _ G54
  have g65 := e6.2.g b5 _ G55
  have lg := FG.r.len
  have qg := FG.r.one
  have tg := take_len lg
  have Dxg := DjL.of FX5.r.known FG.new
  have Dwg := DjL.of W5.known FG.new
  have Dcg := DjL.of R5.known FG.new
  simp -implicitDefEqProofs only [go_sem, ↓reduceIte, reduceCtorEq, Int.reduceEq, Int.reduceLT, Int.reduceLE, Nat.reduceEqDiff, Nat.reduceAdd, Nat.reduceMul, Nat.reduceLeDiff, Nat.reduceSub, Int.reduceNeg, hb_b1, l0, t0]
  intro b6 hb6 n6
  have z16 : (b1 = b6) = False := eq_false fun e => by subst e; rw [g61] at n6; cases n6
  have z46 : (b4 = b6) = False := eq_false fun e => by subst e; rw [g64] at n6; cases n6
  have z56 : (b5 = b6) = False := eq_false fun e => by subst e; rw [g65] at n6; cases n6
  have E6 := (Ext.refl h6).set n6 ⟨g0, 8⟩
  have G61 := E6.2.g b1 _ g61
  have G64 := E6.2.g b4 _ g64
  have G65 := E6.2.g b5 _ g65
  have G66 : (h6.set b6 ⟨g0, 8⟩).get b6 = some ⟨g0, 8⟩ := H.set_get_same _ _ _
  have W6 := (W5.ext e6).ext E6
  have R6 := (R5.ext e6).ext E6
  have FX6 := (FX5.ext e6).ext E6
  have FG6 := FG.ext E6
  have nx1 := FX.new.ne G41
  have nx4 := FX.new.ne G44
  have nx5 := FX.r.known.ne n5
  have nx6 := (FX5.r.ext e6).known.ne n6
  have ng1 := FG.new.ne G51
  have ng4 := FG.new.ne G54
  have ng6 := FG.r.known.ne n6
  simp -implicitDefEqProofs only [go_sem, ↓reduceIte, reduceCtorEq, Int.reduceEq, Int.reduceLT, Int.reduceLE, Nat.reduceEqDiff, Nat.reduceAdd, Nat.reduceMul, Nat.reduceLeDiff, Nat.reduceSub, Int.reduceNeg, lg, qg, tg, ldc_get g61, ldc_get g64, ldc_get g65, z16, z46, z56, hb6, lw, tw, hb_b1, l0, t0]
  refine (eqState_pc FG6.r W6 hiL.1 hiL.2).use ?_
  simp -implicitDefEqProofs only [go_sem, ↓reduceIte, reduceCtorEq, Int.reduceEq, Int.reduceLT, Int.reduceLE, Nat.reduceEqDiff, Nat.reduceAdd, Nat.reduceMul, Nat.reduceLeDiff, Nat.reduceSub, Int.reduceNeg, lx, tx, ldc_get g61, ldc_get g64, ldc_get g65, z16, z46, z56, hb_b1, l0, t0]
  refine AC_of (toState_ac R6 hsm) ?_
  rintro _ h7 - ⟨e7, c7, rfl, F7⟩
  simp -implicitDefEqProofs only [go_sem, ↓reduceIte, reduceCtorEq, Int.reduceEq, Int.reduceLT, Int.reduceLE, Nat.reduceEqDiff, Nat.reduceAdd, Nat.reduceMul, Nat.reduceLeDiff, Nat.reduceSub, Int.reduceNeg, e7.2, hb_b1, l0, t0]
  refine (eqState_pc (FX6.ext e7).r F7.r o7 o8).use ?_
  have g71 := e7.2.g b1 _ G61
  have g74 := e7.2.g b4 _ G64
  have g75 := e7.2.g b5 _ G65
  have g76 := e7.2.g b6 _ G66
  simp -implicitDefEqProofs only [go_sem, ↓reduceIte, reduceCtorEq, Int.reduceEq, Int.reduceLT, Int.reduceLE, Nat.reduceEqDiff, Nat.reduceAdd, Nat.reduceMul, Nat.reduceLeDiff, Nat.reduceSub, Int.reduceNeg, e7.2, ldc_get g75, lx, tx, hb_b1, l0, t0]
  refine AC_of (markState_ac (FX6.ext e7) hsm (by omega)) ?_
  rintro _ h8 - ⟨rfl, k8, M8⟩
  have g81 := k8.2.1 b1 _ nx1 g71
  have g84 := k8.2.1 b4 _ nx4 g74
  have g86 := k8.2.1 b6 _ nx6 g76
  have W8 := (W6.ext e7).keep k8 Dwx
  have R8 := (R6.ext e7).keep k8 Dcx
  have FG8 := (FG6.ext e7).keep k8 Dxg.symm
  have ns := stN_nn s
  have ni := stN_nn (stateIdle s)
  simp -implicitDefEqProofs only [go_sem, ↓reduceIte, reduceCtorEq, Int.reduceEq, Int.reduceLT, Int.reduceLE, Nat.reduceEqDiff, Nat.reduceAdd, Nat.reduceMul, Nat.reduceLeDiff, Nat.reduceSub, Int.reduceNeg, show ¬ (1 + stN s < 0) by omega, ldc_get g84, ldc_get g86, lw, tw, lg, tg, hb_b1, l0, t0]
  refine (eqState_pc FG8.r W8 hiL.1 hiL.2).use ?_
  simp -implicitDefEqProofs only [go_sem, ↓reduceIte, reduceCtorEq, Int.reduceEq, Int.reduceLT, Int.reduceLE, Nat.reduceEqDiff, Nat.reduceAdd, Nat.reduceMul, Nat.reduceLeDiff, Nat.reduceSub, Int.reduceNeg, ldc_get g86, lg, tg, hb_b1, l0, t0]
  refine AC_of (markState_ac FG8 him (by omega)) ?_
  rintro _ h9 - ⟨rfl, k9, M9⟩
  have g91 := k9.2.1 b1 _ ng1 g81
  have g94 := k9.2.1 b4 _ ng4 g84
  have g96 := k9.2.1 b6 _ ng6 g86
  have W9 := W8.keep k9 Dwg
  have R9 := R8.keep k9 Dcg
  simp -implicitDefEqProofs only [go_sem, ↓reduceIte, reduceCtorEq, Int.reduceEq, Int.reduceLT, Int.reduceLE, Nat.reduceEqDiff, Nat.reduceAdd, Nat.reduceMul, Nat.reduceLeDiff, Nat.reduceSub, Int.reduceNeg, ldc_get g96, lg, tg, hb_b1, l0, t0]
  refine (heldState_pc M9 him (by omega)).use ?_
  simp -implicitDefEqProofs only [go_sem, ↓reduceIte, reduceCtorEq, Int.reduceEq, Int.reduceLT, Int.reduceLE, Nat.reduceEqDiff, Nat.reduceAdd, Nat.reduceMul, Nat.reduceLeDiff, Nat.reduceSub, Int.reduceNeg, show ¬ (1 + stN (stateIdle s) < 0) by omega, ldc_get g91, hb_b1, l0, t0]
  refine AC_of (toState_ac R9 hsm) ?_
  rintro _ h10 - ⟨e10, c10, rfl, F10⟩
  simp -implicitDefEqProofs only [go_sem, ↓reduceIte, reduceCtorEq, Int.reduceEq, Int.reduceLT, Int.reduceLE, Nat.reduceEqDiff, Nat.reduceAdd, Nat.reduceMul, Nat.reduceLeDiff, Nat.reduceSub, Int.reduceNeg, hb_b1, l0, t0]
  refine AC_of (implStateIdle_ac F10.r hsm) ?_
  rintro _ h11 - ⟨e11, j0, rfl, FJ⟩
  have e12 := e10.trans e11
  have gb4 := e12.2.g b4 _ g94
  have gb6 := e12.2.g b6 _ g96
  have lj := FJ.r.len
  have qj := FJ.r.one
  have tj := take_len lj
  simp -implicitDefEqProofs only [go_sem, ↓reduceIte, reduceCtorEq, Int.reduceEq, Int.reduceLT, Int.reduceLE, Nat.reduceEqDiff, Nat.reduceAdd, Nat.reduceMul, Nat.reduceLeDiff, Nat.reduceSub, Int.reduceNeg, hb_b1, l0, t0]
  intro b7 hb7 n7
  have z47 : (b4 = b7) = False := eq_false fun e => by subst e; rw [gb4] at n7; cases n7
  have z67 : (b6 = b7) = False := eq_false fun e => by subst e; rw [gb6] at n7; cases n7
  have E7 := (Ext.refl h11).set n7 ⟨j0, 8⟩
  simp -implicitDefEqProofs only [go_sem, ↓reduceIte, reduceCtorEq, Int.reduceEq, Int.reduceLT, Int.reduceLE, Nat.reduceEqDiff, Nat.reduceAdd, Nat.reduceMul, Nat.reduceLeDiff, Nat.reduceSub, Int.reduceNeg, lj, qj, tj, ldc_get gb4, ldc_get gb6, z47, z67, hb7, lw, tw, hb_b1, l0, t0]
  refine (eqState_pc (FJ.ext E7).r ((W9.ext e12).ext E7) hiL.1 hiL.2).use ?_
  simp -implicitDefEqProofs only [go_sem, ↓reduceIte, reduceCtorEq, Int.reduceEq, Int.reduceLT, Int.reduceLE, Nat.reduceEqDiff, Nat.reduceAdd, Nat.reduceMul, Nat.reduceLeDiff, Nat.reduceSub, Int.reduceNeg, ldc_get gb6, z67, lg, tg, hb_b1, l0, t0]
  refine (heldState_pc ((M9.ext e12).ext E7) him (by omega)).use ?_
  simp -implicitDefEqProofs only [go_sem, ↓reduceIte, reduceCtorEq, Int.reduceEq, Int.reduceLT, Int.reduceLE, Nat.reduceEqDiff, Nat.reduceAdd, Nat.reduceMul, Nat.reduceLeDiff, Nat.reduceSub, Int.reduceNeg, show ¬ (1 + stN (stateIdle s) < 0) by omega, hb_b1, l0, t0]
theorem stateIdle_law (h : H) (args : List Value) (ha : okAs h [.agg stLT] args) : AC Try.prog 11 args h fun r _ => r = .bool true := by
  obtain ⟨v, _, rfl, ⟨cs, rfl, q0⟩, a0⟩ := okAs_cons ha
  obtain rfl := okAs_nil a0
  obtain ⟨s, r, k⟩ := state_of q0
  exact stateIdle_walk r k
section
open Go.ChangeShapes Go.WideShapes Go.ChangeAt Go.RowKit
theorem fnExactStateIdle_lifted (os : Os) (started : os.Started) (H' : Type) (enc : TypeId × Value → H') : ReturnsInHanded {} Try.checked os 11 .any (Rows.fnExactStateIdleSpec.pre6 enc Try.prog Try.f11 Rows.fnExactStateIdleRow.domain false) (Rows.fnExactStateIdleSpec.post enc Try.prog Try.f11 false true false false) :=
  law_row (Ck := Try.checked) [.agg [.f (.int .i64), .f (.int .i64), .f (.int .i64), .f (.int .i64), .f (.int .i64), .f .str, .sl [.int .i64], .sl [.int .i64]]] (by kernel_rfl) started (by kernel_rfl) Try.func11 (ChangeSpec.witness6 (enc := enc) (C := Try.checked) false ⟨#[], #[.agg #[.int .i64 0, .int .i64 0, .int .i64 0, .int .i64 0, .int .i64 0, .string ByteArray.empty, .slice none 0 0, .slice none 0 0]], []⟩ 8 (by kernel_rfl) (by kernel_rfl) (by kernel_rfl) (by kernel_rfl))
    (by kernel_rfl) (by kernel_rfl) rfl (by kernel_rfl : Try.prog.underlying (Try.f11.resultTypes.getD 0 0) = some .bool) rfl
    (fun ds hd => by
      rw [show Try.f11.params.toList.length = 1 by kernel_rfl] at hd
      match ds, hd with
      | [_], _ => rfl)
    (by kernel_rfl) stateIdle_law
theorem fnExactStateIdle_holds : Rows.FnExactStateIdleSaid :=
  OpenClaim.holds_of_wide 11 Try.f11 rfl rfl rfl rfl rfl rfl rfl ⟨rfl, rfl, rfl, rfl, rfl⟩ rfl rfl rfl rfl rfl (by kernel_rfl) Try.func11 (by kernel_rfl)
    (of_decide_eq_true (by kernel_rfl)) (by unfold Func.isWrapper; first | (rw [if_pos (by decide +kernel)]; kernel_rfl) | (rw [if_neg (by decide +kernel)]; exact ⟨rfl, rfl⟩))
    (fun os started H' enc _ => fnExactStateIdle_lifted os started H' enc)
end
end Go.Proofs.Ytneiikjafpnapaa
