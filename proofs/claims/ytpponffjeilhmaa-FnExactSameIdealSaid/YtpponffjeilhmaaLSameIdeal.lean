/- SameIdeal of the program returns what SameIdeal of the reference returns, for all arguments: the given statement, with no condition. -/
import Derived.Test.YtpponffjeilhmaaC15v
import Derived.Test.YtpponffjeilhmaaRows
import Derived.ProofKit
import Derived.ShutString
import Derived.ChangeOld
import Derived.Below
set_option linter.unusedVariables false
set_option linter.unusedSimpArgs false
set_option maxRecDepth 100000
namespace Go.Proofs.Ytpponffjeilhmaa
open Go.KH

/-- laws.FnExactSameIdeal -/
def b_laws_FnExactSameIdeal : C := (.seq (.ops [⟨(some 2), none, .box (.t 0)⟩, ⟨(some 3), none, .box (.t 1)⟩, q 4 (.mv (.c (.bool false)))])
 (.seq (.ops [q 5 (.mv (.c (i64 1048576)))])
 (.seq (.ops [q 10 (.ld true 9 (.t 2)), q 11 (.mv (.t 5)), ⟨(some 12), none, .call (.c (.func (.func 23) #[] #[])) [(.t 10), (.t 11)]⟩, q 5 (.mv (.t 12))])
 (.seq (.seq (.ops [q 13 (.mv (.t 5)), q 14 (.bin .lss (.t 13) (.c (i64 0)))])
 (.cond (.t 14) (.seq (.ops [q 4 (.mv (.c (.bool true)))])
 .ret) .skip))
 (.seq (.ops [q 15 (.ld true 9 (.t 3)), q 16 (.mv (.t 5)), ⟨(some 17), none, .call (.c (.func (.func 23) #[] #[])) [(.t 15), (.t 16)]⟩, q 5 (.mv (.t 17))])
 (.seq (.seq (.ops [q 18 (.mv (.t 5)), q 19 (.bin .lss (.t 18) (.c (i64 0)))])
 (.cond (.t 19) (.seq (.ops [q 4 (.mv (.c (.bool true)))])
 .ret) .skip))
 (.seq (.dops true (.tk (q 20 (.ld true 9 (.t 2))) (.tk (q 22 (.ld true 9 (.t 3))) (.sq (⟨(some 21), none, .call (.c (.func (.func 25) #[] #[])) [(.t 20)]⟩) (.sq (⟨(some 23), none, .call (.c (.func (.func 25) #[] #[])) [(.t 22)]⟩) (.sq (⟨(some 24), none, .call (.c (.func (.func 28) #[] #[])) [(.t 21), (.t 23)]⟩) (.tk (q 6 (.mv (.t 24))) .nil)))))))
 (.seq (.ops [q 25 (.ld true 9 (.t 2)), ⟨(some 26), none, .call (.c (.func (.func 25) #[] #[])) [(.t 25)]⟩, ⟨(some 7), none, .alloc [(i64 0), (i64 0), (i64 0), (i64 0), (i64 0), (i64 0), (str []), nils, nils]⟩, ⟨none, none, .st 9 (.t 7) (.t 26)⟩])
 (.seq (.ops [q 27 (.ld true 9 (.t 3)), ⟨(some 28), none, .call (.c (.func (.func 25) #[] #[])) [(.t 27)]⟩, ⟨(some 8), none, .alloc [(i64 0), (i64 0), (i64 0), (i64 0), (i64 0), (i64 0), (str []), nils, nils]⟩, ⟨none, none, .st 9 (.t 8) (.t 28)⟩])
 (.seq (.ops [q 29 (.ld true 9 (.t 7)), q 30 (.ld true 9 (.t 8)), ⟨(some 31), none, .call (.c (.func (.func 29) #[] #[])) [(.t 29), (.t 30)]⟩, q 9 (.mv (.t 31))])
 (.seq (.seq (.ops [q 32 (.mv (.t 9)), q 33 (.mv (.t 6)), q 34 (.eqb true (.t 32) (.t 33))])
 (.cond (.t 34) (.seq (.ops [q 4 (.mv (.c (.bool false)))])
 .ret) .skip))
 (.seq (.seq (.dops true (.tk (q 35 (.ld true 9 (.t 7))) (.tk (q 36 (.ld true 9 (.t 2))) (.sq (⟨(some 37), none, .call (.c (.func (.func 25) #[] #[])) [(.t 36)]⟩) (.sq (⟨(some 38), none, .call (.c (.func (.func 27) #[] #[])) [(.t 35), (.t 37)]⟩) (.tk (q 39 (.un .not (.t 38))) .nil))))))
 (.cond (.t 39) (.seq (.ops [q 4 (.mv (.c (.bool false)))])
 .ret) .skip))
 (.seq (.seq (.dops true (.tk (q 40 (.ld true 9 (.t 8))) (.tk (q 41 (.ld true 9 (.t 3))) (.sq (⟨(some 42), none, .call (.c (.func (.func 25) #[] #[])) [(.t 41)]⟩) (.sq (⟨(some 43), none, .call (.c (.func (.func 27) #[] #[])) [(.t 40), (.t 42)]⟩) (.tk (q 44 (.un .not (.t 43))) .nil))))))
 (.cond (.t 44) (.seq (.ops [q 4 (.mv (.c (.bool false)))])
 .ret) .skip))
 (.seq (.ops [q 4 (.mv (.c (.bool true)))])
 .ret))))))))))))))
theorem w_laws_FnExactSameIdeal {args : List Value} {h : H} {Q : Value → H → Prop} (hl : args.length ≤ 45) (hk : wpc Try.prog b_laws_FnExactSameIdeal (retw [.tmp 4] Q) (argsFr args) h) : AC Try.prog 5 args h Q :=
  AC.of_wpc mixedOrders Try.func5 (by kernel_rfl) (by kernel_rfl : prepF Try.prog Try.f5 = some ⟨45, [.tmp 4], b_laws_FnExactSameIdeal⟩) hl hk


set_option maxHeartbeats 1600000 in
theorem sameIdeal_walk {h : H} {ca cb : List Value} {i j : UIdeal} (A0 : RepR h (spIdeal i) ca) (ok1 : i.ok) (B0 : RepR h (spIdeal j) cb) (ok2 : j.ok) : AC Try.prog 5 [.agg ca.toArray, .agg cb.toArray] h fun r _ => r = .bool true := by
  have l_a := A0.len
  simp only [List.length_cons, List.length_nil, Nat.reduceAdd] at l_a
  have q_a := A0.one
  have t_a := take_len l_a
  have l_b := B0.len
  simp only [List.length_cons, List.length_nil, Nat.reduceAdd] at l_b
  have q_b := B0.one
  have t_b := take_len l_b
  refine w_laws_FnExactSameIdeal (by simp) ?_
  unfold b_laws_FnExactSameIdeal
  simp -implicitDefEqProofs only [go_sem, ↓reduceIte, reduceCtorEq, Int.reduceEq, Int.reduceLT, Int.reduceLE, Nat.reduceEqDiff, Nat.reduceAdd, Nat.reduceMul, Nat.reduceLeDiff, Nat.reduceSub, Int.reduceNeg, l_a, q_a, t_a, l_b, q_b, t_b]
  intro b_a hb_b_a n_b_a
  have E_b_a := (Ext.refl h).set n_b_a ⟨ca, 9⟩
  simp -implicitDefEqProofs only [go_sem, ↓reduceIte, reduceCtorEq, Int.reduceEq, Int.reduceLT, Int.reduceLE, Nat.reduceEqDiff, Nat.reduceAdd, Nat.reduceMul, Nat.reduceLeDiff, Nat.reduceSub, Int.reduceNeg, hb_b_a, l_a, q_a, t_a, l_b, q_b, t_b]
  have R1_a := RepR.ext A0 E_b_a
  have R1_b := RepR.ext B0 E_b_a
  have G1_b_a : (h.set b_a ⟨ca, 9⟩).get b_a = some ⟨ca, 9⟩ := H.set_get_same _ _ _
  intro b_b hb_b_b n_b_b
  have z_b_a_b_b : (b_a = b_b) = False := eq_false fun e => by subst e; rw [G1_b_a] at n_b_b; cases n_b_b
  have E_b_b := (Ext.refl (h.set b_a ⟨ca, 9⟩)).set n_b_b ⟨cb, 9⟩
  simp -implicitDefEqProofs only [go_sem, ↓reduceIte, reduceCtorEq, Int.reduceEq, Int.reduceLT, Int.reduceLE, Nat.reduceEqDiff, Nat.reduceAdd, Nat.reduceMul, Nat.reduceLeDiff, Nat.reduceSub, Int.reduceNeg, hb_b_b, ldc_get G1_b_a, z_b_a_b_b, l_a, q_a, t_a, l_b, q_b, t_b]
  have G2_b_a := E_b_b.2.g b_a _ G1_b_a
  have R2_a := RepR.ext R1_a E_b_b
  have R2_b := RepR.ext R1_b E_b_b
  have G2_b_b : ((h.set b_a ⟨ca, 9⟩).set b_b ⟨cb, 9⟩).get b_b = some ⟨cb, 9⟩ := H.set_get_same _ _ _
  refine (szIdeal_pc R2_a ok1 (by omega)).use ?_
  simp -implicitDefEqProofs only [go_sem, ↓reduceIte, reduceCtorEq, Int.reduceEq, Int.reduceLT, Int.reduceLE, Nat.reduceEqDiff, Nat.reduceAdd, Nat.reduceMul, Nat.reduceLeDiff, Nat.reduceSub, Int.reduceNeg, ldc_get G2_b_a, ldc_get G2_b_b, z_b_a_b_b, l_a, q_a, t_a, l_b, q_b, t_b]
  refine Br.of (fun hc0 => ?_) (fun hc0 => ?_)
  · simp -implicitDefEqProofs only [go_sem, ↓reduceIte, reduceCtorEq, Int.reduceEq, Int.reduceLT, Int.reduceLE, Nat.reduceEqDiff, Nat.reduceAdd, Nat.reduceMul, Nat.reduceLeDiff, Nat.reduceSub, Int.reduceNeg, hc0, ldc_get G2_b_a, ldc_get G2_b_b, z_b_a_b_b, l_a, q_a, t_a, l_b, q_b, t_b]
  have sz0 := lessn_nn hc0
  simp -implicitDefEqProofs only [go_sem, ↓reduceIte, reduceCtorEq, Int.reduceEq, Int.reduceLT, Int.reduceLE, Nat.reduceEqDiff, Nat.reduceAdd, Nat.reduceMul, Nat.reduceLeDiff, Nat.reduceSub, Int.reduceNeg, hc0, ldc_get G2_b_a, ldc_get G2_b_b, z_b_a_b_b, l_a, q_a, t_a, l_b, q_b, t_b]
  refine (szIdeal_pc R2_b ok2 (by omega)).use ?_
  simp -implicitDefEqProofs only [go_sem, ↓reduceIte, reduceCtorEq, Int.reduceEq, Int.reduceLT, Int.reduceLE, Nat.reduceEqDiff, Nat.reduceAdd, Nat.reduceMul, Nat.reduceLeDiff, Nat.reduceSub, Int.reduceNeg, ldc_get G2_b_a, ldc_get G2_b_b, z_b_a_b_b, l_a, q_a, t_a, l_b, q_b, t_b]
  refine Br.of (fun hc1 => ?_) (fun hc1 => ?_)
  · simp -implicitDefEqProofs only [go_sem, ↓reduceIte, reduceCtorEq, Int.reduceEq, Int.reduceLT, Int.reduceLE, Nat.reduceEqDiff, Nat.reduceAdd, Nat.reduceMul, Nat.reduceLeDiff, Nat.reduceSub, Int.reduceNeg, hc1, ldc_get G2_b_a, ldc_get G2_b_b, z_b_a_b_b, l_a, q_a, t_a, l_b, q_b, t_b]
  have sm := idealSz_small (by omega) hc0
  have sn := idealSz_small (by omega) hc1
  simp -implicitDefEqProofs only [go_sem, ↓reduceIte, reduceCtorEq, Int.reduceEq, Int.reduceLT, Int.reduceLE, Nat.reduceEqDiff, Nat.reduceAdd, Nat.reduceMul, Nat.reduceLeDiff, Nat.reduceSub, Int.reduceNeg, hc1, ldc_get G2_b_a, ldc_get G2_b_b, z_b_a_b_b, l_a, q_a, t_a, l_b, q_b, t_b]
  refine AC_of (toIdeal_ac R2_a sm) ?_
  rintro _ x1 - ⟨e1, v_wa, rfl, T_wa⟩
  have nn_wa_b_a := RepF.new T_wa |>.ne G2_b_a
  have nn_wa_b_b := RepF.new T_wa |>.ne G2_b_b
  have D_a_wa := DjL.of (RepR.known R2_a) (RepF.new T_wa)
  have D_b_wa := DjL.of (RepR.known R2_b) (RepF.new T_wa)
  have G3_b_a := e1.2.g b_a _ G2_b_a
  have G3_b_b := e1.2.g b_b _ G2_b_b
  have R3_a := RepR.ext R2_a e1
  have R3_b := RepR.ext R2_b e1
  have l_v_wa := T_wa.r.len
  simp only [List.length_cons, List.length_nil, Nat.reduceAdd] at l_v_wa
  have q_v_wa := T_wa.r.one
  have t_v_wa := take_len l_v_wa
  have S1 := e1.2
  simp -implicitDefEqProofs only [go_sem, ↓reduceIte, reduceCtorEq, Int.reduceEq, Int.reduceLT, Int.reduceLE, Nat.reduceEqDiff, Nat.reduceAdd, Nat.reduceMul, Nat.reduceLeDiff, Nat.reduceSub, Int.reduceNeg, ldc_get G3_b_a, ldc_get G3_b_b, z_b_a_b_b, l_a, q_a, t_a, l_b, q_b, t_b, l_v_wa, q_v_wa, t_v_wa, S1]
  refine AC_of (toIdeal_ac R3_b sn) ?_
  rintro _ x2 - ⟨e2, v_wb, rfl, T_wb⟩
  have nn_wb_b_a := RepF.new T_wb |>.ne G3_b_a
  have nn_wb_b_b := RepF.new T_wb |>.ne G3_b_b
  have D_a_wb := DjL.of (RepR.known R3_a) (RepF.new T_wb)
  have D_b_wb := DjL.of (RepR.known R3_b) (RepF.new T_wb)
  have D_wa_wb := DjL.of (RepR.known T_wa.r) (RepF.new T_wb)
  have G4_b_a := e2.2.g b_a _ G3_b_a
  have G4_b_b := e2.2.g b_b _ G3_b_b
  have R4_a := RepR.ext R3_a e2
  have R4_b := RepR.ext R3_b e2
  have R4_wa := RepR.ext T_wa.r e2
  have F4_wa := RepF.ext T_wa e2
  have l_v_wb := T_wb.r.len
  simp only [List.length_cons, List.length_nil, Nat.reduceAdd] at l_v_wb
  have q_v_wb := T_wb.r.one
  have t_v_wb := take_len l_v_wb
  have S2 := Sub.trans S1 e2.2
  simp -implicitDefEqProofs only [go_sem, ↓reduceIte, reduceCtorEq, Int.reduceEq, Int.reduceLT, Int.reduceLE, Nat.reduceEqDiff, Nat.reduceAdd, Nat.reduceMul, Nat.reduceLeDiff, Nat.reduceSub, Int.reduceNeg, ldc_get G4_b_a, ldc_get G4_b_b, z_b_a_b_b, l_a, q_a, t_a, l_b, q_b, t_b, l_v_wa, q_v_wa, t_v_wa, l_v_wb, q_v_wb, t_v_wb, S1, S2]
  refine (specSameIdeal_pc F4_wa.r T_wb.r sm sn).use ?_
  simp -implicitDefEqProofs only [go_sem, ↓reduceIte, reduceCtorEq, Int.reduceEq, Int.reduceLT, Int.reduceLE, Nat.reduceEqDiff, Nat.reduceAdd, Nat.reduceMul, Nat.reduceLeDiff, Nat.reduceSub, Int.reduceNeg, ldc_get G4_b_a, ldc_get G4_b_b, z_b_a_b_b, l_a, q_a, t_a, l_b, q_b, t_b, l_v_wa, q_v_wa, t_v_wa, l_v_wb, q_v_wb, t_v_wb, S1, S2]
  refine AC_of (toIdeal_ac R4_a sm) ?_
  rintro _ x3 - ⟨e3, v_xa, rfl, T_xa⟩
  have nn_xa_b_a := RepF.new T_xa |>.ne G4_b_a
  have nn_xa_b_b := RepF.new T_xa |>.ne G4_b_b
  have D_a_xa := DjL.of (RepR.known R4_a) (RepF.new T_xa)
  have D_b_xa := DjL.of (RepR.known R4_b) (RepF.new T_xa)
  have G5_b_a := e3.2.g b_a _ G4_b_a
  have G5_b_b := e3.2.g b_b _ G4_b_b
  have R5_a := RepR.ext R4_a e3
  have R5_b := RepR.ext R4_b e3
  have l_v_xa := T_xa.r.len
  simp only [List.length_cons, List.length_nil, Nat.reduceAdd] at l_v_xa
  have q_v_xa := T_xa.r.one
  have t_v_xa := take_len l_v_xa
  simp -implicitDefEqProofs only [go_sem, ↓reduceIte, reduceCtorEq, Int.reduceEq, Int.reduceLT, Int.reduceLE, Nat.reduceEqDiff, Nat.reduceAdd, Nat.reduceMul, Nat.reduceLeDiff, Nat.reduceSub, Int.reduceNeg, ldc_get G5_b_a, ldc_get G5_b_b, z_b_a_b_b, l_a, q_a, t_a, l_b, q_b, t_b, l_v_wa, q_v_wa, t_v_wa, l_v_wb, q_v_wb, t_v_wb, l_v_xa, q_v_xa, t_v_xa]
  intro b_xa hb_b_xa n_b_xa
  have z_b_a_b_xa : (b_a = b_xa) = False := eq_false fun e => by subst e; rw [G5_b_a] at n_b_xa; cases n_b_xa
  have z_b_b_b_xa : (b_b = b_xa) = False := eq_false fun e => by subst e; rw [G5_b_b] at n_b_xa; cases n_b_xa
  have nn_xa_b_xa := T_xa.r.known.ne n_b_xa
  have E_b_xa := (Ext.refl x3).set n_b_xa ⟨v_xa, 9⟩
  simp -implicitDefEqProofs only [go_sem, ↓reduceIte, reduceCtorEq, Int.reduceEq, Int.reduceLT, Int.reduceLE, Nat.reduceEqDiff, Nat.reduceAdd, Nat.reduceMul, Nat.reduceLeDiff, Nat.reduceSub, Int.reduceNeg, hb_b_xa, ldc_get G5_b_a, ldc_get G5_b_b, z_b_a_b_b, z_b_a_b_xa, z_b_b_b_xa, l_a, q_a, t_a, l_b, q_b, t_b, l_v_wa, q_v_wa, t_v_wa, l_v_wb, q_v_wb, t_v_wb, l_v_xa, q_v_xa, t_v_xa]
  have G6_b_a := E_b_xa.2.g b_a _ G5_b_a
  have G6_b_b := E_b_xa.2.g b_b _ G5_b_b
  have R6_a := RepR.ext R5_a E_b_xa
  have R6_b := RepR.ext R5_b E_b_xa
  have R6_xa := RepR.ext T_xa.r E_b_xa
  have F6_xa := RepF.ext T_xa E_b_xa
  have G6_b_xa : (x3.set b_xa ⟨v_xa, 9⟩).get b_xa = some ⟨v_xa, 9⟩ := H.set_get_same _ _ _
  refine AC_of (toIdeal_ac R6_b sn) ?_
  rintro _ x4 - ⟨e4, v_xb, rfl, T_xb⟩
  have nn_xb_b_a := RepF.new T_xb |>.ne G6_b_a
  have nn_xb_b_b := RepF.new T_xb |>.ne G6_b_b
  have nn_xb_b_xa := RepF.new T_xb |>.ne G6_b_xa
  have D_a_xb := DjL.of (RepR.known R6_a) (RepF.new T_xb)
  have D_b_xb := DjL.of (RepR.known R6_b) (RepF.new T_xb)
  have D_xa_xb := DjL.of (RepR.known F6_xa.r) (RepF.new T_xb)
  have G7_b_a := e4.2.g b_a _ G6_b_a
  have G7_b_b := e4.2.g b_b _ G6_b_b
  have G7_b_xa := e4.2.g b_xa _ G6_b_xa
  have R7_a := RepR.ext R6_a e4
  have R7_b := RepR.ext R6_b e4
  have R7_xa := RepR.ext F6_xa.r e4
  have F7_xa := RepF.ext F6_xa e4
  have l_v_xb := T_xb.r.len
  simp only [List.length_cons, List.length_nil, Nat.reduceAdd] at l_v_xb
  have q_v_xb := T_xb.r.one
  have t_v_xb := take_len l_v_xb
  simp -implicitDefEqProofs only [go_sem, ↓reduceIte, reduceCtorEq, Int.reduceEq, Int.reduceLT, Int.reduceLE, Nat.reduceEqDiff, Nat.reduceAdd, Nat.reduceMul, Nat.reduceLeDiff, Nat.reduceSub, Int.reduceNeg, ldc_get G7_b_a, ldc_get G7_b_b, ldc_get G7_b_xa, z_b_a_b_b, z_b_a_b_xa, z_b_b_b_xa, l_a, q_a, t_a, l_b, q_b, t_b, l_v_wa, q_v_wa, t_v_wa, l_v_wb, q_v_wb, t_v_wb, l_v_xa, q_v_xa, t_v_xa, l_v_xb, q_v_xb, t_v_xb]
  intro b_xb hb_b_xb n_b_xb
  have z_b_a_b_xb : (b_a = b_xb) = False := eq_false fun e => by subst e; rw [G7_b_a] at n_b_xb; cases n_b_xb
  have z_b_b_b_xb : (b_b = b_xb) = False := eq_false fun e => by subst e; rw [G7_b_b] at n_b_xb; cases n_b_xb
  have z_b_xa_b_xb : (b_xa = b_xb) = False := eq_false fun e => by subst e; rw [G7_b_xa] at n_b_xb; cases n_b_xb
  have nn_xa_b_xb := F7_xa.r.known.ne n_b_xb
  have nn_xb_b_xb := T_xb.r.known.ne n_b_xb
  have E_b_xb := (Ext.refl x4).set n_b_xb ⟨v_xb, 9⟩
  simp -implicitDefEqProofs only [go_sem, ↓reduceIte, reduceCtorEq, Int.reduceEq, Int.reduceLT, Int.reduceLE, Nat.reduceEqDiff, Nat.reduceAdd, Nat.reduceMul, Nat.reduceLeDiff, Nat.reduceSub, Int.reduceNeg, hb_b_xb, ldc_get G7_b_a, ldc_get G7_b_b, ldc_get G7_b_xa, z_b_a_b_b, z_b_a_b_xa, z_b_b_b_xa, z_b_a_b_xb, z_b_b_b_xb, z_b_xa_b_xb, l_a, q_a, t_a, l_b, q_b, t_b, l_v_wa, q_v_wa, t_v_wa, l_v_wb, q_v_wb, t_v_wb, l_v_xa, q_v_xa, t_v_xa, l_v_xb, q_v_xb, t_v_xb]
  have G8_b_a := E_b_xb.2.g b_a _ G7_b_a
  have G8_b_b := E_b_xb.2.g b_b _ G7_b_b
  have G8_b_xa := E_b_xb.2.g b_xa _ G7_b_xa
  have R8_a := RepR.ext R7_a E_b_xb
  have R8_b := RepR.ext R7_b E_b_xb
  have R8_xa := RepR.ext F7_xa.r E_b_xb
  have R8_xb := RepR.ext T_xb.r E_b_xb
  have F8_xa := RepF.ext F7_xa E_b_xb
  have F8_xb := RepF.ext T_xb E_b_xb
  have G8_b_xb : (x4.set b_xb ⟨v_xb, 9⟩).get b_xb = some ⟨v_xb, 9⟩ := H.set_get_same _ _ _
  refine (implSameIdeal_pc F8_xa.r F8_xb.r sm sn).use ?_
  simp -implicitDefEqProofs only [go_sem, ↓reduceIte, reduceCtorEq, Int.reduceEq, Int.reduceLT, Int.reduceLE, Nat.reduceEqDiff, Nat.reduceAdd, Nat.reduceMul, Nat.reduceLeDiff, Nat.reduceSub, Int.reduceNeg, ldc_get G8_b_a, ldc_get G8_b_b, ldc_get G8_b_xa, ldc_get G8_b_xb, z_b_a_b_b, z_b_a_b_xa, z_b_b_b_xa, z_b_a_b_xb, z_b_b_b_xb, z_b_xa_b_xb, l_a, q_a, t_a, l_b, q_b, t_b, l_v_wa, q_v_wa, t_v_wa, l_v_wb, q_v_wb, t_v_wb, l_v_xa, q_v_xa, t_v_xa, l_v_xb, q_v_xb, t_v_xb]
  refine AC_of (toIdeal_ac R8_a sm) ?_
  rintro _ x5 - ⟨e5, v_ya, rfl, T_ya⟩
  have G9_b_a := e5.2.g b_a _ G8_b_a
  have G9_b_b := e5.2.g b_b _ G8_b_b
  have G9_b_xa := e5.2.g b_xa _ G8_b_xa
  have G9_b_xb := e5.2.g b_xb _ G8_b_xb
  have R9_a := RepR.ext R8_a e5
  have R9_b := RepR.ext R8_b e5
  have R9_xa := RepR.ext F8_xa.r e5
  have R9_xb := RepR.ext F8_xb.r e5
  have F9_xa := RepF.ext F8_xa e5
  have F9_xb := RepF.ext F8_xb e5
  simp -implicitDefEqProofs only [go_sem, ↓reduceIte, reduceCtorEq, Int.reduceEq, Int.reduceLT, Int.reduceLE, Nat.reduceEqDiff, Nat.reduceAdd, Nat.reduceMul, Nat.reduceLeDiff, Nat.reduceSub, Int.reduceNeg, e5.2, ldc_get G9_b_a, ldc_get G9_b_b, ldc_get G9_b_xa, ldc_get G9_b_xb, z_b_a_b_b, z_b_a_b_xa, z_b_b_b_xa, z_b_a_b_xb, z_b_b_b_xb, z_b_xa_b_xb, l_a, q_a, t_a, l_b, q_b, t_b, l_v_wa, q_v_wa, t_v_wa, l_v_wb, q_v_wb, t_v_wb, l_v_xa, q_v_xa, t_v_xa, l_v_xb, q_v_xb, t_v_xb]
  refine (eqIdeal_pc F9_xa.r T_ya.r ok1.fin).use ?_
  simp -implicitDefEqProofs only [go_sem, ↓reduceIte, reduceCtorEq, Int.reduceEq, Int.reduceLT, Int.reduceLE, Nat.reduceEqDiff, Nat.reduceAdd, Nat.reduceMul, Nat.reduceLeDiff, Nat.reduceSub, Int.reduceNeg, e5.2, ldc_get G9_b_a, ldc_get G9_b_b, ldc_get G9_b_xa, ldc_get G9_b_xb, z_b_a_b_b, z_b_a_b_xa, z_b_b_b_xa, z_b_a_b_xb, z_b_b_b_xb, z_b_xa_b_xb, l_a, q_a, t_a, l_b, q_b, t_b, l_v_wa, q_v_wa, t_v_wa, l_v_wb, q_v_wb, t_v_wb, l_v_xa, q_v_xa, t_v_xa, l_v_xb, q_v_xb, t_v_xb]
  refine AC_of (toIdeal_ac R9_b sn) ?_
  rintro _ x6 - ⟨e6, v_yb, rfl, T_yb⟩
  have G10_b_a := e6.2.g b_a _ G9_b_a
  have G10_b_b := e6.2.g b_b _ G9_b_b
  have G10_b_xa := e6.2.g b_xa _ G9_b_xa
  have G10_b_xb := e6.2.g b_xb _ G9_b_xb
  have R10_a := RepR.ext R9_a e6
  have R10_b := RepR.ext R9_b e6
  have R10_xa := RepR.ext F9_xa.r e6
  have R10_xb := RepR.ext F9_xb.r e6
  have F10_xa := RepF.ext F9_xa e6
  have F10_xb := RepF.ext F9_xb e6
  simp -implicitDefEqProofs only [go_sem, ↓reduceIte, reduceCtorEq, Int.reduceEq, Int.reduceLT, Int.reduceLE, Nat.reduceEqDiff, Nat.reduceAdd, Nat.reduceMul, Nat.reduceLeDiff, Nat.reduceSub, Int.reduceNeg, e6.2, ldc_get G10_b_a, ldc_get G10_b_b, ldc_get G10_b_xa, ldc_get G10_b_xb, z_b_a_b_b, z_b_a_b_xa, z_b_b_b_xa, z_b_a_b_xb, z_b_b_b_xb, z_b_xa_b_xb, l_a, q_a, t_a, l_b, q_b, t_b, l_v_wa, q_v_wa, t_v_wa, l_v_wb, q_v_wb, t_v_wb, l_v_xa, q_v_xa, t_v_xa, l_v_xb, q_v_xb, t_v_xb]
  refine (eqIdeal_pc F10_xb.r T_yb.r ok2.fin).use ?_
  simp -implicitDefEqProofs only [go_sem, ↓reduceIte, reduceCtorEq, Int.reduceEq, Int.reduceLT, Int.reduceLE, Nat.reduceEqDiff, Nat.reduceAdd, Nat.reduceMul, Nat.reduceLeDiff, Nat.reduceSub, Int.reduceNeg, e6.2, ldc_get G10_b_a, ldc_get G10_b_b, ldc_get G10_b_xa, ldc_get G10_b_xb, z_b_a_b_b, z_b_a_b_xa, z_b_b_b_xa, z_b_a_b_xb, z_b_b_b_xb, z_b_xa_b_xb, l_a, q_a, t_a, l_b, q_b, t_b, l_v_wa, q_v_wa, t_v_wa, l_v_wb, q_v_wb, t_v_wb, l_v_xa, q_v_xa, t_v_xa, l_v_xb, q_v_xb, t_v_xb]
theorem sameIdeal_law (h : H) (args : List Value) (ha : okAs h [.agg idLT, .agg idLT] args) : AC Try.prog 5 args h fun r _ => r = .bool true := by
  obtain ⟨v, _, rfl, ⟨cs, rfl, q0⟩, a0⟩ := okAs_cons ha
  obtain ⟨w, _, rfl, ⟨cs2, rfl, q1⟩, a1⟩ := okAs_cons a0
  obtain rfl := okAs_nil a1
  obtain ⟨i, r, k⟩ := ideal_of q0
  obtain ⟨j, r2, k2⟩ := ideal_of q1
  exact sameIdeal_walk r k r2 k2
section
open Go.ChangeShapes Go.WideShapes Go.ChangeAt Go.RowKit
theorem fnExactSameIdeal_lifted (os : Os) (started : os.Started) (H' : Type) (enc : TypeId × Value → H') : ReturnsInHanded {} Try.checked os 5 .any (Rows.fnExactSameIdealSpec.pre6 enc Try.prog Try.f5 Rows.fnExactSameIdealRow.domain false) (Rows.fnExactSameIdealSpec.post enc Try.prog Try.f5 false true false false) :=
  law_row (Ck := Try.checked) [.agg [.f (.int .i64), .f (.int .i64), .f (.int .i64), .f (.int .i64), .f (.int .i64), .f (.int .i64), .f .str, .sl [.str], .sl [.int .i64, .int .i64, .int .i64, .str]], .agg [.f (.int .i64), .f (.int .i64), .f (.int .i64), .f (.int .i64), .f (.int .i64), .f (.int .i64), .f .str, .sl [.str], .sl [.int .i64, .int .i64, .int .i64, .str]]] (by kernel_rfl) started (by kernel_rfl) Try.func5 (ChangeSpec.witness6 (enc := enc) (C := Try.checked) false ⟨#[], #[.agg #[.int .i64 0, .int .i64 0, .int .i64 0, .int .i64 0, .int .i64 0, .int .i64 0, .string ByteArray.empty, .slice none 0 0, .slice none 0 0], .agg #[.int .i64 0, .int .i64 0, .int .i64 0, .int .i64 0, .int .i64 0, .int .i64 0, .string ByteArray.empty, .slice none 0 0, .slice none 0 0]], []⟩ 8 (by kernel_rfl) (by kernel_rfl) (by kernel_rfl) (by kernel_rfl))
    (by kernel_rfl) (by kernel_rfl) rfl (by kernel_rfl : Try.prog.underlying (Try.f5.resultTypes.getD 0 0) = some .bool) rfl
    (fun ds hd => by
      rw [show Try.f5.params.toList.length = 2 by kernel_rfl] at hd
      match ds, hd with
      | [_, _], _ => rfl)
    (by kernel_rfl) sameIdeal_law
theorem fnExactSameIdeal_holds : Rows.FnExactSameIdealSaid :=
  OpenClaim.holds_of_wide 5 Try.f5 rfl rfl rfl rfl rfl rfl rfl ⟨rfl, rfl, rfl, rfl, rfl⟩ rfl rfl rfl rfl rfl (by kernel_rfl) Try.func5 (by kernel_rfl)
    (of_decide_eq_true (by kernel_rfl)) (by unfold Func.isWrapper; first | (rw [if_pos (by decide +kernel)]; kernel_rfl) | (rw [if_neg (by decide +kernel)]; exact ⟨rfl, rfl⟩))
    (fun os started H' enc _ => fnExactSameIdeal_lifted os started H' enc)
end
end Go.Proofs.Ytpponffjeilhmaa
