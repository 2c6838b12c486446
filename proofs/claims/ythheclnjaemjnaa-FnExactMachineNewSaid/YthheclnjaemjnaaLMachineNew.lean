/- MachineNew of the program returns what MachineNew of the reference returns, for all arguments: the given statement, with no condition. -/
import Derived.Test.YthheclnjaemjnaaC14n
import Derived.Test.YthheclnjaemjnaaCGm
import Derived.Test.YthheclnjaemjnaaRows
import Derived.ProofKit
import Derived.ShutString
import Derived.ChangeOld
import Derived.Below
set_option linter.unusedVariables false
set_option linter.unusedSimpArgs false
set_option maxRecDepth 100000
namespace Go.Proofs.Ythheclnjaemjnaa
open Go.KH

/-- laws.FnExactMachineNew -/
def b_laws_FnExactMachineNew : C := (.seq (.ops [q 2 (.mv (.c (.bool false)))])
 (.seq (.ops [q 3 (.mv (.c (i64 1048576)))])
 (.seq (.ops [q 11 (.mv (.t 0)), q 12 (.mv (.t 3)), ⟨(some 13), none, .call (.c (.func (.func 49) #[] #[])) [(.t 11), (.t 12)]⟩, q 3 (.mv (.t 13))])
 (.seq (.seq (.ops [q 14 (.mv (.t 3)), q 15 (.bin .lss (.t 14) (.c (i64 0)))])
 (.cond (.t 15) (.seq (.ops [q 2 (.mv (.c (.bool true)))])
 .ret) .skip))
 (.seq (.ops [q 16 (.mv (.t 0)), ⟨(some 17), none, .call (.c (.func (.func 51) #[] #[])) [(.t 16)]⟩, ⟨(some 18), none, .call (.c (.func (.func 50) #[] #[])) [(.t 17)]⟩, ⟨(some 4), none, .alloc [(i64 0), nils, nils, (i64 0)]⟩, ⟨none, none, .st 4 (.t 4) (.t 18)⟩])
 (.seq (.ops [q 19 (.mv (.t 0)), ⟨(some 20), none, .call (.c (.func (.func 51) #[] #[])) [(.t 19)]⟩, q 5 (.mv (.t 20))])
 (.seq (.ops [q 21 (.mv (.t 5)), ⟨(some 22), none, .call (.c (.func (.func 52) #[] #[])) [(.t 21)]⟩, ⟨(some 6), none, .alloc [(i64 0), nils, nils, (i64 0)]⟩, ⟨none, none, .st 4 (.t 6) (.t 22)⟩])
 (.seq (.seq (.ops [q 23 (.ld true 4 (.t 6)), q 24 (.ld true 4 (.t 4)), ⟨(some 25), none, .call (.c (.func (.func 53) #[] #[])) [(.t 23), (.t 24)]⟩, q 26 (.un .not (.t 25))])
 (.cond (.t 26) (.seq (.ops [q 2 (.mv (.c (.bool false)))])
 .ret) .skip))
 (.seq (.seq (.ops [q 27 (.mv (.t 5)), q 28 (.mv (.t 0)), ⟨(some 29), none, .call (.c (.func (.func 51) #[] #[])) [(.t 28)]⟩, ⟨(some 30), none, .call (.c (.func (.func 54) #[] #[])) [(.t 27), (.t 29)]⟩, q 31 (.un .not (.t 30))])
 (.cond (.t 31) (.seq (.ops [q 2 (.mv (.c (.bool false)))])
 .ret) .skip))
 (.seq (.ops [q 7 (.mv (.c (i64 1)))])
 (.seq (.ops [q 32 (.mv (.t 5)), q 33 (.mv (.t 7)), ⟨(some 34), none, .call (.c (.func (.func 55) #[] #[])) [(.t 32), (.t 33)]⟩, q 7 (.mv (.t 34))])
 (.seq (.seq (.ops [q 35 (.mv (.t 7)), q 36 (.bin .lss (.t 35) (.c (i64 0))), q 37 (.mv (.t 36)), qg 38 37 false (.ld true 4 (.t 6)), qg 39 37 false (.ld true 4 (.t 4)), ⟨(some 40), (some (37, false)), .call (.c (.func (.func 53) #[] #[])) [(.t 38), (.t 39)]⟩, qg 41 37 false (.un .not (.t 40)), q 42 (.pick (.t 37) (.c (.bool true)) (.t 41))])
 (.cond (.t 42) (.seq (.ops [q 2 (.mv (.c (.bool false)))])
 .ret) .skip))
 (.seq (.ops [q 8 (.mv (.c (i64 1)))])
 (.seq (.ops [q 43 (.ld true 4 (.t 6)), q 44 (.mv (.t 8)), ⟨(some 45), none, .call (.c (.func (.func 56) #[] #[])) [(.t 43), (.t 44)]⟩, q 8 (.mv (.t 45))])
 (.seq (.ops [q 9 (.mv (.c (i64 1)))])
 (.seq (.ops [q 46 (.ld true 4 (.t 6)), q 47 (.mv (.t 9)), ⟨(some 48), none, .call (.c (.func (.func 57) #[] #[])) [(.t 46), (.t 47)]⟩, q 9 (.mv (.t 48))])
 (.seq (.seq (.ops [q 49 (.mv (.t 9)), q 50 (.bin .lss (.t 49) (.c (i64 0)))])
 (.cond (.t 50) (.seq (.ops [q 2 (.mv (.c (.bool false)))])
 .ret) .skip))
 (.seq (.seq (.ops [q 51 (.mv (.t 9)), q 52 (.mv (.t 8)), q 53 (.bin .neq (.t 51) (.t 52))])
 (.cond (.t 53) (.seq (.ops [q 2 (.mv (.c (.bool false)))])
 .ret) .skip))
 (.seq (.ops [q 54 (.mv (.t 0)), ⟨(some 55), none, .call (.c (.func (.func 51) #[] #[])) [(.t 54)]⟩, ⟨(some 56), none, .call (.c (.func (.func 52) #[] #[])) [(.t 55)]⟩, ⟨(some 10), none, .alloc [(i64 0), nils, nils, (i64 0)]⟩, ⟨none, none, .st 4 (.t 10) (.t 56)⟩])
 (.seq (.seq (.ops [q 57 (.ld true 4 (.t 10)), q 58 (.ld true 4 (.t 4)), ⟨(some 59), none, .call (.c (.func (.func 53) #[] #[])) [(.t 57), (.t 58)]⟩, q 60 (.un .not (.t 59))])
 (.cond (.t 60) (.seq (.ops [q 2 (.mv (.c (.bool false)))])
 .ret) .skip))
 (.seq (.ops [q 9 (.mv (.c (i64 1)))])
 (.seq (.ops [q 61 (.ld true 4 (.t 6)), q 62 (.mv (.t 9)), ⟨(some 63), none, .call (.c (.func (.func 57) #[] #[])) [(.t 61), (.t 62)]⟩, q 9 (.mv (.t 63))])
 (.seq (.seq (.ops [q 64 (.mv (.t 9)), q 65 (.bin .lss (.t 64) (.c (i64 0)))])
 (.cond (.t 65) (.seq (.ops [q 2 (.mv (.c (.bool false)))])
 .ret) .skip))
 (.seq (.seq (.ops [q 66 (.mv (.t 9)), q 67 (.mv (.t 8)), q 68 (.bin .neq (.t 66) (.t 67))])
 (.cond (.t 68) (.seq (.ops [q 2 (.mv (.c (.bool false)))])
 .ret) .skip))
 (.seq (.ops [q 2 (.mv (.c (.bool true)))])
 .ret)))))))))))))))))))))))))
theorem w_laws_FnExactMachineNew {args : List Value} {h : H} {Q : Value → H → Prop} (hl : args.length ≤ 69) (hk : wpc Try.prog b_laws_FnExactMachineNew (retw [.tmp 2] Q) (argsFr args) h) : AC Try.prog 8 args h Q :=
  AC.of_wpc mixedOrders Try.func8 (by kernel_rfl) (by kernel_rfl : prepF Try.prog Try.f8 = some ⟨69, [.tmp 2], b_laws_FnExactMachineNew⟩) hl hk

theorem newOut_fin1 (l : List (List UInt8)) : (newOut l).1.flash.fin1 := by
  unfold newOut
  split
  · exact ⟨by simp [mach0], by simp [mach0]⟩
  · split
    · rename_i hi
      have ho := flash0_ok hi
      have h2 : 2 ≤ (flash0 l).sec.length := by show 2 ≤ (sec0 l).length; rw [sec0_len]; omega
      have h3 := flashOk_small (actsDo_ok (metaActsOf (flash0 l) (stateB idle0)) ho (metaActs_ok h2 (by have := stateB_46 idle0_ok; omega)))
      show (actsDo (flash0 l) (metaActsOf (flash0 l) (stateB idle0))).fin1
      exact ⟨by omega, by omega⟩
    · exact ⟨by simp [mach0], by simp [mach0]⟩
theorem fin1_fin {f : UFlash} (h : f.fin1) : f.fin := by
  have := h.1
  have := h.2
  have e := show maxLen = 9223372036854775807 from rfl
  unfold UFlash.fin
  omega
set_option maxHeartbeats 1600000 in
theorem machineNew_walk {h : H} {va : Value} {l : List (List UInt8)} (A0 : RepR h [.s 1 (strs l)] [va]) (n1 : l.length ≤ maxLen) (n2 : ∀ s ∈ l, s.length ≤ maxLen) : AC Try.prog 8 [va] h fun r _ => r = .bool true := by
  skip
  refine w_laws_FnExactMachineNew (by simp) ?_
  unfold b_laws_FnExactMachineNew
  simp -implicitDefEqProofs only [go_sem, ↓reduceIte, reduceCtorEq, Int.reduceEq, Int.reduceLT, Int.reduceLE, Nat.reduceEqDiff, Nat.reduceAdd, Nat.reduceMul, Nat.reduceLeDiff, Nat.reduceSub, Int.reduceNeg]
  refine (szStringS_pc (A0).1 n1 n2 (by omega)).use ?_
  simp -implicitDefEqProofs only [go_sem, ↓reduceIte, reduceCtorEq, Int.reduceEq, Int.reduceLT, Int.reduceLE, Nat.reduceEqDiff, Nat.reduceAdd, Nat.reduceMul, Nat.reduceLeDiff, Nat.reduceSub, Int.reduceNeg]
  refine Br.of (fun hc0 => ?_) (fun hc0 => ?_)
  · simp -implicitDefEqProofs only [go_sem, ↓reduceIte, reduceCtorEq, Int.reduceEq, Int.reduceLT, Int.reduceLE, Nat.reduceEqDiff, Nat.reduceAdd, Nat.reduceMul, Nat.reduceLeDiff, Nat.reduceSub, Int.reduceNeg, hc0]
  have hsm : l.length ≤ 1048576 := by have := lessn_nn hc0; omega
  have hio := newOut_fin1 l
  have hfin := fin1_fin hio
  have hnn := flN_le hio
  simp -implicitDefEqProofs only [go_sem, ↓reduceIte, reduceCtorEq, Int.reduceEq, Int.reduceLT, Int.reduceLE, Nat.reduceEqDiff, Nat.reduceAdd, Nat.reduceMul, Nat.reduceLeDiff, Nat.reduceSub, Int.reduceNeg, hc0]
  refine AC_of (toStringS_ac (A0).1 hsm) ?_
  rintro v_wa x1 - ⟨e1, f_wa⟩
  have T_wa := rep1 f_wa
  have D_a_wa := DjL.of (RepR.known A0) (RepF.new T_wa)
  have R1_a := RepR.ext A0 e1
  simp -implicitDefEqProofs only [go_sem, ↓reduceIte, reduceCtorEq, Int.reduceEq, Int.reduceLT, Int.reduceLE, Nat.reduceEqDiff, Nat.reduceAdd, Nat.reduceMul, Nat.reduceLeDiff, Nat.reduceSub, Int.reduceNeg]
  refine AC_of (specMachineNew_ac (T_wa.r).1 hsm) ?_
  rintro _ x2 - ⟨e2, w0, rfl, T_w0⟩
  have D_a_w0 := DjL.of (RepR.known R1_a) (RepF.new T_w0)
  have D_wa_w0 := DjL.of (RepR.known T_wa.r) (RepF.new T_w0)
  have R2_a := RepR.ext R1_a e2
  have R2_wa := RepR.ext T_wa.r e2
  have F2_wa := RepF.ext T_wa e2
  have l_w0 := T_w0.r.len
  simp only [List.length_cons, List.length_nil, Nat.reduceAdd] at l_w0
  have q_w0 := T_w0.r.one
  have t_w0 := take_len l_w0
  simp -implicitDefEqProofs only [go_sem, ↓reduceIte, reduceCtorEq, Int.reduceEq, Int.reduceLT, Int.reduceLE, Nat.reduceEqDiff, Nat.reduceAdd, Nat.reduceMul, Nat.reduceLeDiff, Nat.reduceSub, Int.reduceNeg, l_w0, q_w0, t_w0]
  intro b_w0 hb_b_w0 n_b_w0
  have nn_wa_b_w0 := F2_wa.r.known.ne n_b_w0
  have nn_w0_b_w0 := T_w0.r.known.ne n_b_w0
  have E_b_w0 := (Ext.refl x2).set n_b_w0 ⟨w0, 4⟩
  simp -implicitDefEqProofs only [go_sem, ↓reduceIte, reduceCtorEq, Int.reduceEq, Int.reduceLT, Int.reduceLE, Nat.reduceEqDiff, Nat.reduceAdd, Nat.reduceMul, Nat.reduceLeDiff, Nat.reduceSub, Int.reduceNeg, hb_b_w0, l_w0, q_w0, t_w0]
  have R3_a := RepR.ext R2_a E_b_w0
  have R3_wa := RepR.ext F2_wa.r E_b_w0
  have R3_w0 := RepR.ext T_w0.r E_b_w0
  have F3_wa := RepF.ext F2_wa E_b_w0
  have F3_w0 := RepF.ext T_w0 E_b_w0
  have G3_b_w0 : (x2.set b_w0 ⟨w0, 4⟩).get b_w0 = some ⟨w0, 4⟩ := H.set_get_same _ _ _
  refine AC_of (toStringS_ac (R3_a).1 hsm) ?_
  rintro v_xa x3 - ⟨e3, f_xa⟩
  have T_xa := rep1 f_xa
  have nn_xa_b_w0 := RepF.new T_xa |>.ne G3_b_w0
  have D_a_xa := DjL.of (RepR.known R3_a) (RepF.new T_xa)
  have D_w0_xa := DjL.of (RepR.known F3_w0.r) (RepF.new T_xa)
  have G4_b_w0 := e3.2.g b_w0 _ G3_b_w0
  have R4_a := RepR.ext R3_a e3
  have R4_w0 := RepR.ext F3_w0.r e3
  have F4_w0 := RepF.ext F3_w0 e3
  simp -implicitDefEqProofs only [go_sem, ↓reduceIte, reduceCtorEq, Int.reduceEq, Int.reduceLT, Int.reduceLE, Nat.reduceEqDiff, Nat.reduceAdd, Nat.reduceMul, Nat.reduceLeDiff, Nat.reduceSub, Int.reduceNeg, ldc_get G4_b_w0, l_w0, q_w0, t_w0]
  refine AC_of (implMachineNew_ac (T_xa.r).1 hsm) ?_
  rintro _ x4 - ⟨e4, g0, rfl, T_g0⟩
  have nn_g0_b_w0 := RepF.new T_g0 |>.ne G4_b_w0
  have D_a_g0 := DjL.of (RepR.known R4_a) (RepF.new T_g0)
  have D_w0_g0 := DjL.of (RepR.known F4_w0.r) (RepF.new T_g0)
  have D_xa_g0 := DjL.of (RepR.known T_xa.r) (RepF.new T_g0)
  have G5_b_w0 := e4.2.g b_w0 _ G4_b_w0
  have R5_a := RepR.ext R4_a e4
  have R5_w0 := RepR.ext F4_w0.r e4
  have R5_xa := RepR.ext T_xa.r e4
  have F5_w0 := RepF.ext F4_w0 e4
  have F5_xa := RepF.ext T_xa e4
  have l_g0 := T_g0.r.len
  simp only [List.length_cons, List.length_nil, Nat.reduceAdd] at l_g0
  have q_g0 := T_g0.r.one
  have t_g0 := take_len l_g0
  simp -implicitDefEqProofs only [go_sem, ↓reduceIte, reduceCtorEq, Int.reduceEq, Int.reduceLT, Int.reduceLE, Nat.reduceEqDiff, Nat.reduceAdd, Nat.reduceMul, Nat.reduceLeDiff, Nat.reduceSub, Int.reduceNeg, ldc_get G5_b_w0, l_w0, q_w0, t_w0, l_g0, q_g0, t_g0]
  intro b_g0 hb_b_g0 n_b_g0
  have z_b_w0_b_g0 : (b_w0 = b_g0) = False := eq_false fun e => by subst e; rw [G5_b_w0] at n_b_g0; cases n_b_g0
  have nn_w0_b_g0 := F5_w0.r.known.ne n_b_g0
  have nn_xa_b_g0 := F5_xa.r.known.ne n_b_g0
  have nn_g0_b_g0 := T_g0.r.known.ne n_b_g0
  have E_b_g0 := (Ext.refl x4).set n_b_g0 ⟨g0, 4⟩
  simp -implicitDefEqProofs only [go_sem, ↓reduceIte, reduceCtorEq, Int.reduceEq, Int.reduceLT, Int.reduceLE, Nat.reduceEqDiff, Nat.reduceAdd, Nat.reduceMul, Nat.reduceLeDiff, Nat.reduceSub, Int.reduceNeg, hb_b_g0, ldc_get G5_b_w0, z_b_w0_b_g0, l_w0, q_w0, t_w0, l_g0, q_g0, t_g0]
  have G6_b_w0 := E_b_g0.2.g b_w0 _ G5_b_w0
  have R6_a := RepR.ext R5_a E_b_g0
  have R6_w0 := RepR.ext F5_w0.r E_b_g0
  have R6_xa := RepR.ext F5_xa.r E_b_g0
  have R6_g0 := RepR.ext T_g0.r E_b_g0
  have F6_w0 := RepF.ext F5_w0 E_b_g0
  have F6_xa := RepF.ext F5_xa E_b_g0
  have F6_g0 := RepF.ext T_g0 E_b_g0
  have G6_b_g0 : (x4.set b_g0 ⟨g0, 4⟩).get b_g0 = some ⟨g0, 4⟩ := H.set_get_same _ _ _
  refine (eqMachineOut_pc F6_g0.r F6_w0.r hfin).use ?_
  simp -implicitDefEqProofs only [go_sem, ↓reduceIte, reduceCtorEq, Int.reduceEq, Int.reduceLT, Int.reduceLE, Nat.reduceEqDiff, Nat.reduceAdd, Nat.reduceMul, Nat.reduceLeDiff, Nat.reduceSub, Int.reduceNeg, ldc_get G6_b_w0, ldc_get G6_b_g0, z_b_w0_b_g0, l_w0, q_w0, t_w0, l_g0, q_g0, t_g0]
  refine AC_of (toStringS_ac (R6_a).1 hsm) ?_
  rintro v_ya x5 - ⟨e5, f_ya⟩
  have T_ya := rep1 f_ya
  have G7_b_w0 := e5.2.g b_w0 _ G6_b_w0
  have G7_b_g0 := e5.2.g b_g0 _ G6_b_g0
  have R7_a := RepR.ext R6_a e5
  have R7_w0 := RepR.ext F6_w0.r e5
  have R7_xa := RepR.ext F6_xa.r e5
  have R7_g0 := RepR.ext F6_g0.r e5
  have F7_w0 := RepF.ext F6_w0 e5
  have F7_xa := RepF.ext F6_xa e5
  have F7_g0 := RepF.ext F6_g0 e5
  simp -implicitDefEqProofs only [go_sem, ↓reduceIte, reduceCtorEq, Int.reduceEq, Int.reduceLT, Int.reduceLE, Nat.reduceEqDiff, Nat.reduceAdd, Nat.reduceMul, Nat.reduceLeDiff, Nat.reduceSub, Int.reduceNeg, e5.2, ldc_get G7_b_w0, ldc_get G7_b_g0, z_b_w0_b_g0, l_w0, q_w0, t_w0, l_g0, q_g0, t_g0]
  refine (eqStringS_pc (F7_xa.r).1 (T_ya.r).1 n1).use ?_
  simp -implicitDefEqProofs only [go_sem, ↓reduceIte, reduceCtorEq, Int.reduceEq, Int.reduceLT, Int.reduceLE, Nat.reduceEqDiff, Nat.reduceAdd, Nat.reduceMul, Nat.reduceLeDiff, Nat.reduceSub, Int.reduceNeg, e5.2, ldc_get G7_b_w0, ldc_get G7_b_g0, z_b_w0_b_g0, l_w0, q_w0, t_w0, l_g0, q_g0, t_g0]
  refine AC_of (markStringS_ac (F7_xa).1 (by omega) (by omega)) ?_
  rintro _ m0 - ⟨rfl, k0, M0⟩
  have k0 := keep1 k0
  have G8_b_w0 := k0.2.1 b_w0 _ nn_xa_b_w0 G7_b_w0
  have G8_b_g0 := k0.2.1 b_g0 _ nn_xa_b_g0 G7_b_g0
  have F8_w0 := RepF.keep F7_w0 k0 D_w0_xa
  have F8_g0 := RepF.keep F7_g0 k0 D_xa_g0.symm
  have R8_a := RepR.keep R7_a k0 D_a_xa
  simp -implicitDefEqProofs only [go_sem, ↓reduceIte, reduceCtorEq, Int.reduceEq, Int.reduceLT, Int.reduceLE, Nat.reduceEqDiff, Nat.reduceAdd, Nat.reduceMul, Nat.reduceLeDiff, Nat.reduceSub, Int.reduceNeg, show ¬ (1 + (l.length : Int) < 0) by omega, ldc_get G8_b_w0, ldc_get G8_b_g0, z_b_w0_b_g0, l_w0, q_w0, t_w0, l_g0, q_g0, t_g0]
  refine (eqMachineOut_pc F8_g0.r F8_w0.r hfin).use ?_
  simp -implicitDefEqProofs only [go_sem, ↓reduceIte, reduceCtorEq, Int.reduceEq, Int.reduceLT, Int.reduceLE, Nat.reduceEqDiff, Nat.reduceAdd, Nat.reduceMul, Nat.reduceLeDiff, Nat.reduceSub, Int.reduceNeg, ldc_get G8_b_w0, ldc_get G8_b_g0, z_b_w0_b_g0, l_w0, q_w0, t_w0, l_g0, q_g0, t_g0]
  refine AC_of (markMachineOut_ac F8_g0 hio (by omega)) ?_
  rintro _ mg - ⟨rfl, kg, Mg⟩
  have G9_b_w0 := kg.2.1 b_w0 _ nn_g0_b_w0 G8_b_w0
  have G9_b_g0 := kg.2.1 b_g0 _ nn_g0_b_g0 G8_b_g0
  have F9_w0 := RepF.keep F8_w0 kg D_w0_g0
  have R9_a := RepR.keep R8_a kg D_a_g0
  simp -implicitDefEqProofs only [go_sem, ↓reduceIte, reduceCtorEq, Int.reduceEq, Int.reduceLT, Int.reduceLE, Nat.reduceEqDiff, Nat.reduceAdd, Nat.reduceMul, Nat.reduceLeDiff, Nat.reduceSub, Int.reduceNeg, ldc_get G9_b_w0, ldc_get G9_b_g0, z_b_w0_b_g0, l_w0, q_w0, t_w0, l_g0, q_g0, t_g0]
  refine (heldMachineOut_pc Mg hio (by omega)).use ?_
  simp -implicitDefEqProofs only [go_sem, ↓reduceIte, reduceCtorEq, Int.reduceEq, Int.reduceLT, Int.reduceLE, Nat.reduceEqDiff, Nat.reduceAdd, Nat.reduceMul, Nat.reduceLeDiff, Nat.reduceSub, Int.reduceNeg, show ¬ (1 + flN (newOut l).1.flash < 0) by omega, ldc_get G9_b_w0, ldc_get G9_b_g0, z_b_w0_b_g0, l_w0, q_w0, t_w0, l_g0, q_g0, t_g0]
  refine AC_of (toStringS_ac (R9_a).1 hsm) ?_
  rintro v_za x6 - ⟨e6, f_za⟩
  have T_za := rep1 f_za
  have nn_za_b_w0 := RepF.new T_za |>.ne G9_b_w0
  have nn_za_b_g0 := RepF.new T_za |>.ne G9_b_g0
  have D_a_za := DjL.of (RepR.known R9_a) (RepF.new T_za)
  have D_w0_za := DjL.of (RepR.known F9_w0.r) (RepF.new T_za)
  have G10_b_w0 := e6.2.g b_w0 _ G9_b_w0
  have G10_b_g0 := e6.2.g b_g0 _ G9_b_g0
  have R10_a := RepR.ext R9_a e6
  have R10_w0 := RepR.ext F9_w0.r e6
  have F10_w0 := RepF.ext F9_w0 e6
  have Mg := RepR.ext Mg e6
  simp -implicitDefEqProofs only [go_sem, ↓reduceIte, reduceCtorEq, Int.reduceEq, Int.reduceLT, Int.reduceLE, Nat.reduceEqDiff, Nat.reduceAdd, Nat.reduceMul, Nat.reduceLeDiff, Nat.reduceSub, Int.reduceNeg, ldc_get G10_b_w0, ldc_get G10_b_g0, z_b_w0_b_g0, l_w0, q_w0, t_w0, l_g0, q_g0, t_g0]
  refine AC_of (implMachineNew_ac (T_za.r).1 hsm) ?_
  rintro _ x7 - ⟨e7, j0, rfl, T_j0⟩
  have nn_j0_b_w0 := RepF.new T_j0 |>.ne G10_b_w0
  have nn_j0_b_g0 := RepF.new T_j0 |>.ne G10_b_g0
  have D_a_j0 := DjL.of (RepR.known R10_a) (RepF.new T_j0)
  have D_w0_j0 := DjL.of (RepR.known F10_w0.r) (RepF.new T_j0)
  have D_za_j0 := DjL.of (RepR.known T_za.r) (RepF.new T_j0)
  have G11_b_w0 := e7.2.g b_w0 _ G10_b_w0
  have G11_b_g0 := e7.2.g b_g0 _ G10_b_g0
  have R11_a := RepR.ext R10_a e7
  have R11_w0 := RepR.ext F10_w0.r e7
  have R11_za := RepR.ext T_za.r e7
  have F11_w0 := RepF.ext F10_w0 e7
  have F11_za := RepF.ext T_za e7
  have Mg := RepR.ext Mg e7
  have l_j0 := T_j0.r.len
  simp only [List.length_cons, List.length_nil, Nat.reduceAdd] at l_j0
  have q_j0 := T_j0.r.one
  have t_j0 := take_len l_j0
  simp -implicitDefEqProofs only [go_sem, ↓reduceIte, reduceCtorEq, Int.reduceEq, Int.reduceLT, Int.reduceLE, Nat.reduceEqDiff, Nat.reduceAdd, Nat.reduceMul, Nat.reduceLeDiff, Nat.reduceSub, Int.reduceNeg, ldc_get G11_b_w0, ldc_get G11_b_g0, z_b_w0_b_g0, l_w0, q_w0, t_w0, l_g0, q_g0, t_g0, l_j0, q_j0, t_j0]
  intro b_j0 hb_b_j0 n_b_j0
  have z_b_w0_b_j0 : (b_w0 = b_j0) = False := eq_false fun e => by subst e; rw [G11_b_w0] at n_b_j0; cases n_b_j0
  have z_b_g0_b_j0 : (b_g0 = b_j0) = False := eq_false fun e => by subst e; rw [G11_b_g0] at n_b_j0; cases n_b_j0
  have nn_w0_b_j0 := F11_w0.r.known.ne n_b_j0
  have nn_za_b_j0 := F11_za.r.known.ne n_b_j0
  have nn_j0_b_j0 := T_j0.r.known.ne n_b_j0
  have E_b_j0 := (Ext.refl x7).set n_b_j0 ⟨j0, 4⟩
  simp -implicitDefEqProofs only [go_sem, ↓reduceIte, reduceCtorEq, Int.reduceEq, Int.reduceLT, Int.reduceLE, Nat.reduceEqDiff, Nat.reduceAdd, Nat.reduceMul, Nat.reduceLeDiff, Nat.reduceSub, Int.reduceNeg, hb_b_j0, ldc_get G11_b_w0, ldc_get G11_b_g0, z_b_w0_b_g0, z_b_w0_b_j0, z_b_g0_b_j0, l_w0, q_w0, t_w0, l_g0, q_g0, t_g0, l_j0, q_j0, t_j0]
  have G12_b_w0 := E_b_j0.2.g b_w0 _ G11_b_w0
  have G12_b_g0 := E_b_j0.2.g b_g0 _ G11_b_g0
  have R12_a := RepR.ext R11_a E_b_j0
  have R12_w0 := RepR.ext F11_w0.r E_b_j0
  have R12_za := RepR.ext F11_za.r E_b_j0
  have R12_j0 := RepR.ext T_j0.r E_b_j0
  have F12_w0 := RepF.ext F11_w0 E_b_j0
  have F12_za := RepF.ext F11_za E_b_j0
  have F12_j0 := RepF.ext T_j0 E_b_j0
  have G12_b_j0 : (x7.set b_j0 ⟨j0, 4⟩).get b_j0 = some ⟨j0, 4⟩ := H.set_get_same _ _ _
  have Mg := RepR.ext Mg E_b_j0
  refine (eqMachineOut_pc F12_j0.r F12_w0.r hfin).use ?_
  simp -implicitDefEqProofs only [go_sem, ↓reduceIte, reduceCtorEq, Int.reduceEq, Int.reduceLT, Int.reduceLE, Nat.reduceEqDiff, Nat.reduceAdd, Nat.reduceMul, Nat.reduceLeDiff, Nat.reduceSub, Int.reduceNeg, ldc_get G12_b_w0, ldc_get G12_b_g0, ldc_get G12_b_j0, z_b_w0_b_g0, z_b_w0_b_j0, z_b_g0_b_j0, l_w0, q_w0, t_w0, l_g0, q_g0, t_g0, l_j0, q_j0, t_j0]
  refine (heldMachineOut_pc Mg hio (by omega)).use ?_
  simp -implicitDefEqProofs only [go_sem, ↓reduceIte, reduceCtorEq, Int.reduceEq, Int.reduceLT, Int.reduceLE, Nat.reduceEqDiff, Nat.reduceAdd, Nat.reduceMul, Nat.reduceLeDiff, Nat.reduceSub, Int.reduceNeg, show ¬ (1 + flN (newOut l).1.flash < 0) by omega, ldc_get G12_b_w0, ldc_get G12_b_g0, ldc_get G12_b_j0, z_b_w0_b_g0, z_b_w0_b_j0, z_b_g0_b_j0, l_w0, q_w0, t_w0, l_g0, q_g0, t_g0, l_j0, q_j0, t_j0]
theorem machineNew_law (h : H) (args : List Value) (ha : okAs h [.one (.sl [.str])] args) : AC Try.prog 8 args h fun r _ => r = .bool true := by
  obtain ⟨v, _, rfl, ⟨rows, hs, hf, hn⟩, a0⟩ := okAs_cons ha
  obtain rfl := okAs_nil a0
  obtain ⟨l, rfl, hok⟩ := strs_of rows hf
  exact machineNew_walk ⟨hs, trivial⟩ (by simpa using hn) hok
section
open Go.ChangeShapes Go.WideShapes Go.ChangeAt Go.RowKit
theorem fnExactMachineNew_lifted (os : Os) (started : os.Started) (H' : Type) (enc : TypeId × Value → H') : ReturnsInHanded {} Try.checked os 8 .any (Rows.fnExactMachineNewSpec.pre6 enc Try.prog Try.f8 Rows.fnExactMachineNewRow.domain false) (Rows.fnExactMachineNewSpec.post enc Try.prog Try.f8 false true false false) :=
  law_row (Ck := Try.checked) [.one (.sl [.str])] (by kernel_rfl) started (by kernel_rfl) Try.func8 (ChangeSpec.witness6 (enc := enc) (C := Try.checked) false ⟨#[], #[.slice none 0 0], []⟩ 8 (by kernel_rfl) (by kernel_rfl) (by kernel_rfl) (by kernel_rfl))
    (by kernel_rfl) (by kernel_rfl) rfl (by kernel_rfl : Try.prog.underlying (Try.f8.resultTypes.getD 0 0) = some .bool) rfl
    (fun ds hd => by
      rw [show Try.f8.params.toList.length = 1 by kernel_rfl] at hd
      match ds, hd with
      | [_], _ => rfl)
    (by kernel_rfl) machineNew_law
theorem fnExactMachineNew_holds : Rows.FnExactMachineNewSaid :=
  OpenClaim.holds_of_wide 8 Try.f8 rfl rfl rfl rfl rfl rfl rfl ⟨rfl, rfl, rfl, rfl, rfl⟩ rfl rfl rfl rfl rfl (by kernel_rfl) Try.func8 (by kernel_rfl)
    (of_decide_eq_true (by kernel_rfl)) (by unfold Func.isWrapper; first | (rw [if_pos (by decide +kernel)]; kernel_rfl) | (rw [if_neg (by decide +kernel)]; exact ⟨rfl, rfl⟩))
    (fun os started H' enc _ => fnExactMachineNew_lifted os started H' enc)
end
end Go.Proofs.Ythheclnjaemjnaa
