/- IdealOf of the program returns what IdealOf of the reference returns, for all arguments: the given statement, with no condition. -/
import Derived.Test.YtiokibikhanfcaaGreatC15o
import Derived.Test.YtiokibikhanfcaaGreatCGm
import Derived.Test.YtiokibikhanfcaaGreatRows
import Derived.ProofKit
import Derived.ShutString
import Derived.ChangeOld
import Derived.Below
set_option linter.unusedVariables false
set_option linter.unusedSimpArgs false
set_option maxRecDepth 100000
namespace Go.Proofs.YtiokibikhanfcaaGreat
open Go.KH

/-- laws.FnExactIdealOf -/
def b_laws_FnExactIdealOf : C := (.seq (.ops [⟨(some 1), none, .box (.t 0)⟩, q 2 (.mv (.c (.bool false)))])
 (.seq (.ops [q 3 (.mv (.c (i64 1048576)))])
 (.seq (.ops [q 11 (.ld true 3 (.t 1)), q 12 (.mv (.t 3)), ⟨(some 13), none, .call (.c (.func (.func 9) #[] #[])) [(.t 11), (.t 12)]⟩, q 3 (.mv (.t 13))])
 (.seq (.seq (.ops [q 14 (.mv (.t 3)), q 15 (.bin .lss (.t 14) (.c (i64 0)))])
 (.cond (.t 15) (.seq (.ops [q 2 (.mv (.c (.bool true)))])
 .ret) .skip))
 (.seq (.ops [q 16 (.ld true 3 (.t 1)), ⟨(some 17), none, .call (.c (.func (.func 11) #[] #[])) [(.t 16)]⟩, ⟨(some 18), none, .call (.c (.func (.func 35) #[] #[])) [(.t 17)]⟩, ⟨(some 4), none, .alloc [(i64 0), (i64 0), (i64 0), (i64 0), (i64 0), (i64 0), (str []), nils, nils, (str []), nils, (i64 0)]⟩, ⟨none, none, .st 12 (.t 4) (.t 18)⟩])
 (.seq (.ops [q 19 (.ld true 3 (.t 1)), ⟨(some 20), none, .call (.c (.func (.func 11) #[] #[])) [(.t 19)]⟩, ⟨(some 5), none, .alloc [(i64 0), nils, nils]⟩, ⟨none, none, .st 3 (.t 5) (.t 20)⟩])
 (.seq (.ops [q 21 (.ld true 3 (.t 5)), ⟨(some 22), none, .call (.c (.func (.func 36) #[] #[])) [(.t 21)]⟩, ⟨(some 6), none, .alloc [(i64 0), (i64 0), (i64 0), (i64 0), (i64 0), (i64 0), (str []), nils, nils, (str []), nils, (i64 0)]⟩, ⟨none, none, .st 12 (.t 6) (.t 22)⟩])
 (.seq (.seq (.ops [q 23 (.ld true 12 (.t 6)), q 24 (.ld true 12 (.t 4)), ⟨(some 25), none, .call (.c (.func (.func 37) #[] #[])) [(.t 23), (.t 24)]⟩, q 26 (.un .not (.t 25))])
 (.cond (.t 26) (.seq (.ops [q 2 (.mv (.c (.bool false)))])
 .ret) .skip))
 (.seq (.seq (.dops true (.tk (q 27 (.ld true 3 (.t 5))) (.tk (q 28 (.ld true 3 (.t 1))) (.sq (⟨(some 29), none, .call (.c (.func (.func 11) #[] #[])) [(.t 28)]⟩) (.sq (⟨(some 30), none, .call (.c (.func (.func 14) #[] #[])) [(.t 27), (.t 29)]⟩) (.tk (q 31 (.un .not (.t 30))) .nil))))))
 (.cond (.t 31) (.seq (.ops [q 2 (.mv (.c (.bool false)))])
 .ret) .skip))
 (.seq (.ops [q 7 (.mv (.c (i64 1)))])
 (.seq (.ops [q 32 (.ld true 3 (.t 5)), q 33 (.mv (.t 7)), ⟨(some 34), none, .call (.c (.func (.func 15) #[] #[])) [(.t 32), (.t 33)]⟩, q 7 (.mv (.t 34))])
 (.seq (.seq (.ops [q 35 (.mv (.t 7)), q 36 (.bin .lss (.t 35) (.c (i64 0))), q 37 (.mv (.t 36)), qg 38 37 false (.ld true 12 (.t 6)), qg 39 37 false (.ld true 12 (.t 4)), ⟨(some 40), (some (37, false)), .call (.c (.func (.func 37) #[] #[])) [(.t 38), (.t 39)]⟩, qg 41 37 false (.un .not (.t 40)), q 42 (.pick (.t 37) (.c (.bool true)) (.t 41))])
 (.cond (.t 42) (.seq (.ops [q 2 (.mv (.c (.bool false)))])
 .ret) .skip))
 (.seq (.ops [q 8 (.mv (.c (i64 1)))])
 (.seq (.ops [q 43 (.ld true 12 (.t 6)), q 44 (.mv (.t 8)), ⟨(some 45), none, .call (.c (.func (.func 38) #[] #[])) [(.t 43), (.t 44)]⟩, q 8 (.mv (.t 45))])
 (.seq (.ops [q 9 (.mv (.c (i64 1)))])
 (.seq (.ops [q 46 (.ld true 12 (.t 6)), q 47 (.mv (.t 9)), ⟨(some 48), none, .call (.c (.func (.func 39) #[] #[])) [(.t 46), (.t 47)]⟩, q 9 (.mv (.t 48))])
 (.seq (.seq (.ops [q 49 (.mv (.t 9)), q 50 (.bin .lss (.t 49) (.c (i64 0)))])
 (.cond (.t 50) (.seq (.ops [q 2 (.mv (.c (.bool false)))])
 .ret) .skip))
 (.seq (.seq (.ops [q 51 (.mv (.t 9)), q 52 (.mv (.t 8)), q 53 (.bin .neq (.t 51) (.t 52))])
 (.cond (.t 53) (.seq (.ops [q 2 (.mv (.c (.bool false)))])
 .ret) .skip))
 (.seq (.ops [q 54 (.ld true 3 (.t 1)), ⟨(some 55), none, .call (.c (.func (.func 11) #[] #[])) [(.t 54)]⟩, ⟨(some 56), none, .call (.c (.func (.func 36) #[] #[])) [(.t 55)]⟩, ⟨(some 10), none, .alloc [(i64 0), (i64 0), (i64 0), (i64 0), (i64 0), (i64 0), (str []), nils, nils, (str []), nils, (i64 0)]⟩, ⟨none, none, .st 12 (.t 10) (.t 56)⟩])
 (.seq (.seq (.ops [q 57 (.ld true 12 (.t 10)), q 58 (.ld true 12 (.t 4)), ⟨(some 59), none, .call (.c (.func (.func 37) #[] #[])) [(.t 57), (.t 58)]⟩, q 60 (.un .not (.t 59))])
 (.cond (.t 60) (.seq (.ops [q 2 (.mv (.c (.bool false)))])
 .ret) .skip))
 (.seq (.ops [q 9 (.mv (.c (i64 1)))])
 (.seq (.ops [q 61 (.ld true 12 (.t 6)), q 62 (.mv (.t 9)), ⟨(some 63), none, .call (.c (.func (.func 39) #[] #[])) [(.t 61), (.t 62)]⟩, q 9 (.mv (.t 63))])
 (.seq (.seq (.ops [q 64 (.mv (.t 9)), q 65 (.bin .lss (.t 64) (.c (i64 0)))])
 (.cond (.t 65) (.seq (.ops [q 2 (.mv (.c (.bool false)))])
 .ret) .skip))
 (.seq (.seq (.ops [q 66 (.mv (.t 9)), q 67 (.mv (.t 8)), q 68 (.bin .neq (.t 66) (.t 67))])
 (.cond (.t 68) (.seq (.ops [q 2 (.mv (.c (.bool false)))])
 .ret) .skip))
 (.seq (.ops [q 2 (.mv (.c (.bool true)))])
 .ret)))))))))))))))))))))))))
theorem w_laws_FnExactIdealOf {args : List Value} {h : H} {Q : Value → H → Prop} (hl : args.length ≤ 69) (hk : wpc Tryz.prog b_laws_FnExactIdealOf (retw [.tmp 2] Q) (argsFr args) h) : AC Tryz.prog 8 args h Q :=
  AC.of_wpc mixedOrders Tryz.func8 (by kernel_rfl) (by kernel_rfl : prepF Tryz.prog Tryz.f8 = some ⟨69, [.tmp 2], b_laws_FnExactIdealOf⟩) hl hk


set_option maxHeartbeats 1600000 in
theorem idealOf_walk {h : H} {ca : List Value} {m : UMach} (A0 : RepR h (spMach m) ca) (ok1 : m.ok) : AC Tryz.prog 8 [.agg ca.toArray] h fun r _ => r = .bool true := by
  have l_a := A0.len
  simp only [List.length_cons, List.length_nil, Nat.reduceAdd] at l_a
  have q_a := A0.one
  have t_a := take_len l_a
  refine w_laws_FnExactIdealOf (by simp) ?_
  unfold b_laws_FnExactIdealOf
  simp -implicitDefEqProofs only [go_sem, l_a, q_a, t_a]
  intro b_a hb_b_a n_b_a
  have E_b_a := (Ext.refl h).set n_b_a ⟨ca, 3⟩
  simp -implicitDefEqProofs only [go_sem, hb_b_a, l_a, q_a, t_a]
  have R1_a := RepR.ext A0 E_b_a
  have G1_b_a : (h.set b_a ⟨ca, 3⟩).get b_a = some ⟨ca, 3⟩ := H.set_get_same _ _ _
  refine (szMachine_pc R1_a ok1 (by omega)).use ?_
  simp -implicitDefEqProofs only [go_sem, ldc_get G1_b_a, l_a, q_a, t_a]
  refine Br.of (fun hc0 => ?_) (fun hc0 => ?_)
  · simp -implicitDefEqProofs only [go_sem, hc0, ldc_get G1_b_a, l_a, q_a, t_a]
  have sm := flSz_small (by omega) hc0
  have hfn := flN_le sm.fin1
  have hsm8 := idealMOut_small m
  have hio : (idealMOut m).small := ⟨⟨by omega, by omega⟩, by rw [hsm8.2.2]; simp⟩
  have hfin : (idealMOut m).fin := by have := show maxLen = 9223372036854775807 from rfl; exact ⟨⟨by omega, by omega⟩, by rw [hsm8.2.2]; simp⟩
  have hnn : 0 ≤ mkNIdealOut (idealMOut m) := by unfold mkNIdealOut; omega
  simp -implicitDefEqProofs only [go_sem, hc0, ldc_get G1_b_a, l_a, q_a, t_a]
  refine AC_of (toMachine_ac R1_a sm) ?_
  rintro _ x1 - ⟨e1, v_wa, rfl, T_wa⟩
  have nn_wa_b_a := RepF.new T_wa |>.ne G1_b_a
  have D_a_wa := DjL.of (RepR.known R1_a) (RepF.new T_wa)
  have G2_b_a := e1.2.g b_a _ G1_b_a
  have R2_a := RepR.ext R1_a e1
  have l_v_wa := T_wa.r.len
  simp only [List.length_cons, List.length_nil, Nat.reduceAdd] at l_v_wa
  have q_v_wa := T_wa.r.one
  have t_v_wa := take_len l_v_wa
  simp -implicitDefEqProofs only [go_sem, ldc_get G2_b_a, l_a, q_a, t_a, l_v_wa, q_v_wa, t_v_wa]
  refine AC_of (specIdealOf_ac T_wa.r sm.fin1) ?_
  rintro _ x2 - ⟨e2, w0, rfl, T_w0⟩
  have nn_w0_b_a := RepF.new T_w0 |>.ne G2_b_a
  have D_a_w0 := DjL.of (RepR.known R2_a) (RepF.new T_w0)
  have D_wa_w0 := DjL.of (RepR.known T_wa.r) (RepF.new T_w0)
  have G3_b_a := e2.2.g b_a _ G2_b_a
  have R3_a := RepR.ext R2_a e2
  have R3_wa := RepR.ext T_wa.r e2
  have F3_wa := RepF.ext T_wa e2
  have l_w0 := T_w0.r.len
  simp only [List.length_cons, List.length_nil, Nat.reduceAdd] at l_w0
  have q_w0 := T_w0.r.one
  have t_w0 := take_len l_w0
  simp -implicitDefEqProofs only [go_sem, ldc_get G3_b_a, l_a, q_a, t_a, l_v_wa, q_v_wa, t_v_wa, l_w0, q_w0, t_w0]
  intro b_w0 hb_b_w0 n_b_w0
  have z_b_a_b_w0 : (b_a = b_w0) = False := eq_false fun e => by subst e; rw [G3_b_a] at n_b_w0; cases n_b_w0
  have nn_wa_b_w0 := F3_wa.r.known.ne n_b_w0
  have nn_w0_b_w0 := T_w0.r.known.ne n_b_w0
  have E_b_w0 := (Ext.refl x2).set n_b_w0 ⟨w0, 12⟩
  simp -implicitDefEqProofs only [go_sem, hb_b_w0, ldc_get G3_b_a, z_b_a_b_w0, l_a, q_a, t_a, l_v_wa, q_v_wa, t_v_wa, l_w0, q_w0, t_w0]
  have G4_b_a := E_b_w0.2.g b_a _ G3_b_a
  have R4_a := RepR.ext R3_a E_b_w0
  have R4_wa := RepR.ext F3_wa.r E_b_w0
  have R4_w0 := RepR.ext T_w0.r E_b_w0
  have F4_wa := RepF.ext F3_wa E_b_w0
  have F4_w0 := RepF.ext T_w0 E_b_w0
  have G4_b_w0 : (x2.set b_w0 ⟨w0, 12⟩).get b_w0 = some ⟨w0, 12⟩ := H.set_get_same _ _ _
  refine AC_of (toMachine_ac R4_a sm) ?_
  rintro _ x3 - ⟨e3, v_xa, rfl, T_xa⟩
  have nn_xa_b_a := RepF.new T_xa |>.ne G4_b_a
  have nn_xa_b_w0 := RepF.new T_xa |>.ne G4_b_w0
  have D_a_xa := DjL.of (RepR.known R4_a) (RepF.new T_xa)
  have D_w0_xa := DjL.of (RepR.known F4_w0.r) (RepF.new T_xa)
  have G5_b_a := e3.2.g b_a _ G4_b_a
  have G5_b_w0 := e3.2.g b_w0 _ G4_b_w0
  have R5_a := RepR.ext R4_a e3
  have R5_w0 := RepR.ext F4_w0.r e3
  have F5_w0 := RepF.ext F4_w0 e3
  have l_v_xa := T_xa.r.len
  simp only [List.length_cons, List.length_nil, Nat.reduceAdd] at l_v_xa
  have q_v_xa := T_xa.r.one
  have t_v_xa := take_len l_v_xa
  simp -implicitDefEqProofs only [go_sem, ldc_get G5_b_a, ldc_get G5_b_w0, z_b_a_b_w0, l_a, q_a, t_a, l_v_wa, q_v_wa, t_v_wa, l_w0, q_w0, t_w0, l_v_xa, q_v_xa, t_v_xa]
  intro b_xa hb_b_xa n_b_xa
  have z_b_a_b_xa : (b_a = b_xa) = False := eq_false fun e => by subst e; rw [G5_b_a] at n_b_xa; cases n_b_xa
  have z_b_w0_b_xa : (b_w0 = b_xa) = False := eq_false fun e => by subst e; rw [G5_b_w0] at n_b_xa; cases n_b_xa
  have nn_w0_b_xa := F5_w0.r.known.ne n_b_xa
  have nn_xa_b_xa := T_xa.r.known.ne n_b_xa
  have E_b_xa := (Ext.refl x3).set n_b_xa ⟨v_xa, 3⟩
  simp -implicitDefEqProofs only [go_sem, hb_b_xa, ldc_get G5_b_a, ldc_get G5_b_w0, z_b_a_b_w0, z_b_a_b_xa, z_b_w0_b_xa, l_a, q_a, t_a, l_v_wa, q_v_wa, t_v_wa, l_w0, q_w0, t_w0, l_v_xa, q_v_xa, t_v_xa]
  have G6_b_a := E_b_xa.2.g b_a _ G5_b_a
  have G6_b_w0 := E_b_xa.2.g b_w0 _ G5_b_w0
  have R6_a := RepR.ext R5_a E_b_xa
  have R6_w0 := RepR.ext F5_w0.r E_b_xa
  have R6_xa := RepR.ext T_xa.r E_b_xa
  have F6_w0 := RepF.ext F5_w0 E_b_xa
  have F6_xa := RepF.ext T_xa E_b_xa
  have G6_b_xa : (x3.set b_xa ⟨v_xa, 3⟩).get b_xa = some ⟨v_xa, 3⟩ := H.set_get_same _ _ _
  refine AC_of (implIdealOf_ac F6_xa.r sm.fin1) ?_
  rintro _ x4 - ⟨e4, g0, rfl, T_g0⟩
  have nn_g0_b_a := RepF.new T_g0 |>.ne G6_b_a
  have nn_g0_b_w0 := RepF.new T_g0 |>.ne G6_b_w0
  have nn_g0_b_xa := RepF.new T_g0 |>.ne G6_b_xa
  have D_a_g0 := DjL.of (RepR.known R6_a) (RepF.new T_g0)
  have D_w0_g0 := DjL.of (RepR.known F6_w0.r) (RepF.new T_g0)
  have D_xa_g0 := DjL.of (RepR.known F6_xa.r) (RepF.new T_g0)
  have G7_b_a := e4.2.g b_a _ G6_b_a
  have G7_b_w0 := e4.2.g b_w0 _ G6_b_w0
  have G7_b_xa := e4.2.g b_xa _ G6_b_xa
  have R7_a := RepR.ext R6_a e4
  have R7_w0 := RepR.ext F6_w0.r e4
  have R7_xa := RepR.ext F6_xa.r e4
  have F7_w0 := RepF.ext F6_w0 e4
  have F7_xa := RepF.ext F6_xa e4
  have l_g0 := T_g0.r.len
  simp only [List.length_cons, List.length_nil, Nat.reduceAdd] at l_g0
  have q_g0 := T_g0.r.one
  have t_g0 := take_len l_g0
  simp -implicitDefEqProofs only [go_sem, ldc_get G7_b_a, ldc_get G7_b_w0, ldc_get G7_b_xa, z_b_a_b_w0, z_b_a_b_xa, z_b_w0_b_xa, l_a, q_a, t_a, l_v_wa, q_v_wa, t_v_wa, l_w0, q_w0, t_w0, l_v_xa, q_v_xa, t_v_xa, l_g0, q_g0, t_g0]
  intro b_g0 hb_b_g0 n_b_g0
  have z_b_a_b_g0 : (b_a = b_g0) = False := eq_false fun e => by subst e; rw [G7_b_a] at n_b_g0; cases n_b_g0
  have z_b_w0_b_g0 : (b_w0 = b_g0) = False := eq_false fun e => by subst e; rw [G7_b_w0] at n_b_g0; cases n_b_g0
  have z_b_xa_b_g0 : (b_xa = b_g0) = False := eq_false fun e => by subst e; rw [G7_b_xa] at n_b_g0; cases n_b_g0
  have nn_w0_b_g0 := F7_w0.r.known.ne n_b_g0
  have nn_xa_b_g0 := F7_xa.r.known.ne n_b_g0
  have nn_g0_b_g0 := T_g0.r.known.ne n_b_g0
  have E_b_g0 := (Ext.refl x4).set n_b_g0 ⟨g0, 12⟩
  simp -implicitDefEqProofs only [go_sem, hb_b_g0, ldc_get G7_b_a, ldc_get G7_b_w0, ldc_get G7_b_xa, z_b_a_b_w0, z_b_a_b_xa, z_b_w0_b_xa, z_b_a_b_g0, z_b_w0_b_g0, z_b_xa_b_g0, l_a, q_a, t_a, l_v_wa, q_v_wa, t_v_wa, l_w0, q_w0, t_w0, l_v_xa, q_v_xa, t_v_xa, l_g0, q_g0, t_g0]
  have G8_b_a := E_b_g0.2.g b_a _ G7_b_a
  have G8_b_w0 := E_b_g0.2.g b_w0 _ G7_b_w0
  have G8_b_xa := E_b_g0.2.g b_xa _ G7_b_xa
  have R8_a := RepR.ext R7_a E_b_g0
  have R8_w0 := RepR.ext F7_w0.r E_b_g0
  have R8_xa := RepR.ext F7_xa.r E_b_g0
  have R8_g0 := RepR.ext T_g0.r E_b_g0
  have F8_w0 := RepF.ext F7_w0 E_b_g0
  have F8_xa := RepF.ext F7_xa E_b_g0
  have F8_g0 := RepF.ext T_g0 E_b_g0
  have G8_b_g0 : (x4.set b_g0 ⟨g0, 12⟩).get b_g0 = some ⟨g0, 12⟩ := H.set_get_same _ _ _
  refine (eqIdealOut_pc F8_g0.r F8_w0.r hfin).use ?_
  simp -implicitDefEqProofs only [go_sem, ldc_get G8_b_a, ldc_get G8_b_w0, ldc_get G8_b_xa, ldc_get G8_b_g0, z_b_a_b_w0, z_b_a_b_xa, z_b_w0_b_xa, z_b_a_b_g0, z_b_w0_b_g0, z_b_xa_b_g0, l_a, q_a, t_a, l_v_wa, q_v_wa, t_v_wa, l_w0, q_w0, t_w0, l_v_xa, q_v_xa, t_v_xa, l_g0, q_g0, t_g0]
  refine AC_of (toMachine_ac R8_a sm) ?_
  rintro _ x5 - ⟨e5, v_ya, rfl, T_ya⟩
  have G9_b_a := e5.2.g b_a _ G8_b_a
  have G9_b_w0 := e5.2.g b_w0 _ G8_b_w0
  have G9_b_xa := e5.2.g b_xa _ G8_b_xa
  have G9_b_g0 := e5.2.g b_g0 _ G8_b_g0
  have R9_a := RepR.ext R8_a e5
  have R9_w0 := RepR.ext F8_w0.r e5
  have R9_xa := RepR.ext F8_xa.r e5
  have R9_g0 := RepR.ext F8_g0.r e5
  have F9_w0 := RepF.ext F8_w0 e5
  have F9_xa := RepF.ext F8_xa e5
  have F9_g0 := RepF.ext F8_g0 e5
  simp -implicitDefEqProofs only [go_sem, e5.2, ldc_get G9_b_a, ldc_get G9_b_w0, ldc_get G9_b_xa, ldc_get G9_b_g0, z_b_a_b_w0, z_b_a_b_xa, z_b_w0_b_xa, z_b_a_b_g0, z_b_w0_b_g0, z_b_xa_b_g0, l_a, q_a, t_a, l_v_wa, q_v_wa, t_v_wa, l_w0, q_w0, t_w0, l_v_xa, q_v_xa, t_v_xa, l_g0, q_g0, t_g0]
  refine (eqMachine_pc F9_xa.r T_ya.r ok1.2.fin).use ?_
  simp -implicitDefEqProofs only [go_sem, e5.2, ldc_get G9_b_a, ldc_get G9_b_w0, ldc_get G9_b_xa, ldc_get G9_b_g0, z_b_a_b_w0, z_b_a_b_xa, z_b_w0_b_xa, z_b_a_b_g0, z_b_w0_b_g0, z_b_xa_b_g0, l_a, q_a, t_a, l_v_wa, q_v_wa, t_v_wa, l_w0, q_w0, t_w0, l_v_xa, q_v_xa, t_v_xa, l_g0, q_g0, t_g0]
  refine AC_of (markMachine_ac F9_xa sm.fin1 (by omega)) ?_
  rintro _ m0 - ⟨rfl, k0, M0⟩
  have G10_b_a := k0.2.1 b_a _ nn_xa_b_a G9_b_a
  have G10_b_w0 := k0.2.1 b_w0 _ nn_xa_b_w0 G9_b_w0
  have G10_b_xa := k0.2.1 b_xa _ nn_xa_b_xa G9_b_xa
  have G10_b_g0 := k0.2.1 b_g0 _ nn_xa_b_g0 G9_b_g0
  have F10_w0 := RepF.keep F9_w0 k0 D_w0_xa
  have F10_g0 := RepF.keep F9_g0 k0 D_xa_g0.symm
  have R10_a := RepR.keep R9_a k0 D_a_xa
  simp -implicitDefEqProofs only [go_sem, show ¬ (1 + flN m.flash < 0) by omega, ldc_get G10_b_a, ldc_get G10_b_w0, ldc_get G10_b_xa, ldc_get G10_b_g0, z_b_a_b_w0, z_b_a_b_xa, z_b_w0_b_xa, z_b_a_b_g0, z_b_w0_b_g0, z_b_xa_b_g0, l_a, q_a, t_a, l_v_wa, q_v_wa, t_v_wa, l_w0, q_w0, t_w0, l_v_xa, q_v_xa, t_v_xa, l_g0, q_g0, t_g0]
  refine (eqIdealOut_pc F10_g0.r F10_w0.r hfin).use ?_
  simp -implicitDefEqProofs only [go_sem, ldc_get G10_b_a, ldc_get G10_b_w0, ldc_get G10_b_xa, ldc_get G10_b_g0, z_b_a_b_w0, z_b_a_b_xa, z_b_w0_b_xa, z_b_a_b_g0, z_b_w0_b_g0, z_b_xa_b_g0, l_a, q_a, t_a, l_v_wa, q_v_wa, t_v_wa, l_w0, q_w0, t_w0, l_v_xa, q_v_xa, t_v_xa, l_g0, q_g0, t_g0]
  refine AC_of (markIdealOut_ac F10_g0 hio (by omega)) ?_
  rintro _ mg - ⟨rfl, kg, Mg⟩
  have G11_b_a := kg.2.1 b_a _ nn_g0_b_a G10_b_a
  have G11_b_w0 := kg.2.1 b_w0 _ nn_g0_b_w0 G10_b_w0
  have G11_b_xa := kg.2.1 b_xa _ nn_g0_b_xa G10_b_xa
  have G11_b_g0 := kg.2.1 b_g0 _ nn_g0_b_g0 G10_b_g0
  have F11_w0 := RepF.keep F10_w0 kg D_w0_g0
  have R11_a := RepR.keep R10_a kg D_a_g0
  simp -implicitDefEqProofs only [go_sem, ldc_get G11_b_a, ldc_get G11_b_w0, ldc_get G11_b_xa, ldc_get G11_b_g0, z_b_a_b_w0, z_b_a_b_xa, z_b_w0_b_xa, z_b_a_b_g0, z_b_w0_b_g0, z_b_xa_b_g0, l_a, q_a, t_a, l_v_wa, q_v_wa, t_v_wa, l_w0, q_w0, t_w0, l_v_xa, q_v_xa, t_v_xa, l_g0, q_g0, t_g0]
  refine (heldIdealOut_pc Mg hio (by omega)).use ?_
  simp -implicitDefEqProofs only [go_sem, show ¬ (1 + mkNIdealOut (idealMOut m) < 0) by omega, ldc_get G11_b_a, ldc_get G11_b_w0, ldc_get G11_b_xa, ldc_get G11_b_g0, z_b_a_b_w0, z_b_a_b_xa, z_b_w0_b_xa, z_b_a_b_g0, z_b_w0_b_g0, z_b_xa_b_g0, l_a, q_a, t_a, l_v_wa, q_v_wa, t_v_wa, l_w0, q_w0, t_w0, l_v_xa, q_v_xa, t_v_xa, l_g0, q_g0, t_g0]
  refine AC_of (toMachine_ac R11_a sm) ?_
  rintro _ x6 - ⟨e6, v_za, rfl, T_za⟩
  have nn_za_b_a := RepF.new T_za |>.ne G11_b_a
  have nn_za_b_w0 := RepF.new T_za |>.ne G11_b_w0
  have nn_za_b_xa := RepF.new T_za |>.ne G11_b_xa
  have nn_za_b_g0 := RepF.new T_za |>.ne G11_b_g0
  have D_a_za := DjL.of (RepR.known R11_a) (RepF.new T_za)
  have D_w0_za := DjL.of (RepR.known F11_w0.r) (RepF.new T_za)
  have G12_b_a := e6.2.g b_a _ G11_b_a
  have G12_b_w0 := e6.2.g b_w0 _ G11_b_w0
  have G12_b_xa := e6.2.g b_xa _ G11_b_xa
  have G12_b_g0 := e6.2.g b_g0 _ G11_b_g0
  have R12_a := RepR.ext R11_a e6
  have R12_w0 := RepR.ext F11_w0.r e6
  have F12_w0 := RepF.ext F11_w0 e6
  have l_v_za := T_za.r.len
  simp only [List.length_cons, List.length_nil, Nat.reduceAdd] at l_v_za
  have q_v_za := T_za.r.one
  have t_v_za := take_len l_v_za
  have Mg := RepR.ext Mg e6
  simp -implicitDefEqProofs only [go_sem, ldc_get G12_b_a, ldc_get G12_b_w0, ldc_get G12_b_xa, ldc_get G12_b_g0, z_b_a_b_w0, z_b_a_b_xa, z_b_w0_b_xa, z_b_a_b_g0, z_b_w0_b_g0, z_b_xa_b_g0, l_a, q_a, t_a, l_v_wa, q_v_wa, t_v_wa, l_w0, q_w0, t_w0, l_v_xa, q_v_xa, t_v_xa, l_g0, q_g0, t_g0, l_v_za, q_v_za, t_v_za]
  refine AC_of (implIdealOf_ac T_za.r sm.fin1) ?_
  rintro _ x7 - ⟨e7, j0, rfl, T_j0⟩
  have nn_j0_b_a := RepF.new T_j0 |>.ne G12_b_a
  have nn_j0_b_w0 := RepF.new T_j0 |>.ne G12_b_w0
  have nn_j0_b_xa := RepF.new T_j0 |>.ne G12_b_xa
  have nn_j0_b_g0 := RepF.new T_j0 |>.ne G12_b_g0
  have D_a_j0 := DjL.of (RepR.known R12_a) (RepF.new T_j0)
  have D_w0_j0 := DjL.of (RepR.known F12_w0.r) (RepF.new T_j0)
  have D_za_j0 := DjL.of (RepR.known T_za.r) (RepF.new T_j0)
  have G13_b_a := e7.2.g b_a _ G12_b_a
  have G13_b_w0 := e7.2.g b_w0 _ G12_b_w0
  have G13_b_xa := e7.2.g b_xa _ G12_b_xa
  have G13_b_g0 := e7.2.g b_g0 _ G12_b_g0
  have R13_a := RepR.ext R12_a e7
  have R13_w0 := RepR.ext F12_w0.r e7
  have R13_za := RepR.ext T_za.r e7
  have F13_w0 := RepF.ext F12_w0 e7
  have F13_za := RepF.ext T_za e7
  have Mg := RepR.ext Mg e7
  have l_j0 := T_j0.r.len
  simp only [List.length_cons, List.length_nil, Nat.reduceAdd] at l_j0
  have q_j0 := T_j0.r.one
  have t_j0 := take_len l_j0
  simp -implicitDefEqProofs only [go_sem, ldc_get G13_b_a, ldc_get G13_b_w0, ldc_get G13_b_xa, ldc_get G13_b_g0, z_b_a_b_w0, z_b_a_b_xa, z_b_w0_b_xa, z_b_a_b_g0, z_b_w0_b_g0, z_b_xa_b_g0, l_a, q_a, t_a, l_v_wa, q_v_wa, t_v_wa, l_w0, q_w0, t_w0, l_v_xa, q_v_xa, t_v_xa, l_g0, q_g0, t_g0, l_v_za, q_v_za, t_v_za, l_j0, q_j0, t_j0]
  intro b_j0 hb_b_j0 n_b_j0
  have z_b_a_b_j0 : (b_a = b_j0) = False := eq_false fun e => by subst e; rw [G13_b_a] at n_b_j0; cases n_b_j0
  have z_b_w0_b_j0 : (b_w0 = b_j0) = False := eq_false fun e => by subst e; rw [G13_b_w0] at n_b_j0; cases n_b_j0
  have z_b_xa_b_j0 : (b_xa = b_j0) = False := eq_false fun e => by subst e; rw [G13_b_xa] at n_b_j0; cases n_b_j0
  have z_b_g0_b_j0 : (b_g0 = b_j0) = False := eq_false fun e => by subst e; rw [G13_b_g0] at n_b_j0; cases n_b_j0
  have nn_w0_b_j0 := F13_w0.r.known.ne n_b_j0
  have nn_za_b_j0 := F13_za.r.known.ne n_b_j0
  have nn_j0_b_j0 := T_j0.r.known.ne n_b_j0
  have E_b_j0 := (Ext.refl x7).set n_b_j0 ⟨j0, 12⟩
  simp -implicitDefEqProofs only [go_sem, hb_b_j0, ldc_get G13_b_a, ldc_get G13_b_w0, ldc_get G13_b_xa, ldc_get G13_b_g0, z_b_a_b_w0, z_b_a_b_xa, z_b_w0_b_xa, z_b_a_b_g0, z_b_w0_b_g0, z_b_xa_b_g0, z_b_a_b_j0, z_b_w0_b_j0, z_b_xa_b_j0, z_b_g0_b_j0, l_a, q_a, t_a, l_v_wa, q_v_wa, t_v_wa, l_w0, q_w0, t_w0, l_v_xa, q_v_xa, t_v_xa, l_g0, q_g0, t_g0, l_v_za, q_v_za, t_v_za, l_j0, q_j0, t_j0]
  have G14_b_a := E_b_j0.2.g b_a _ G13_b_a
  have G14_b_w0 := E_b_j0.2.g b_w0 _ G13_b_w0
  have G14_b_xa := E_b_j0.2.g b_xa _ G13_b_xa
  have G14_b_g0 := E_b_j0.2.g b_g0 _ G13_b_g0
  have R14_a := RepR.ext R13_a E_b_j0
  have R14_w0 := RepR.ext F13_w0.r E_b_j0
  have R14_za := RepR.ext F13_za.r E_b_j0
  have R14_j0 := RepR.ext T_j0.r E_b_j0
  have F14_w0 := RepF.ext F13_w0 E_b_j0
  have F14_za := RepF.ext F13_za E_b_j0
  have F14_j0 := RepF.ext T_j0 E_b_j0
  have G14_b_j0 : (x7.set b_j0 ⟨j0, 12⟩).get b_j0 = some ⟨j0, 12⟩ := H.set_get_same _ _ _
  have Mg := RepR.ext Mg E_b_j0
  refine (eqIdealOut_pc F14_j0.r F14_w0.r hfin).use ?_
  simp -implicitDefEqProofs only [go_sem, ldc_get G14_b_a, ldc_get G14_b_w0, ldc_get G14_b_xa, ldc_get G14_b_g0, ldc_get G14_b_j0, z_b_a_b_w0, z_b_a_b_xa, z_b_w0_b_xa, z_b_a_b_g0, z_b_w0_b_g0, z_b_xa_b_g0, z_b_a_b_j0, z_b_w0_b_j0, z_b_xa_b_j0, z_b_g0_b_j0, l_a, q_a, t_a, l_v_wa, q_v_wa, t_v_wa, l_w0, q_w0, t_w0, l_v_xa, q_v_xa, t_v_xa, l_g0, q_g0, t_g0, l_v_za, q_v_za, t_v_za, l_j0, q_j0, t_j0]
  refine (heldIdealOut_pc Mg hio (by omega)).use ?_
  simp -implicitDefEqProofs only [go_sem, show ¬ (1 + mkNIdealOut (idealMOut m) < 0) by omega, ldc_get G14_b_a, ldc_get G14_b_w0, ldc_get G14_b_xa, ldc_get G14_b_g0, ldc_get G14_b_j0, z_b_a_b_w0, z_b_a_b_xa, z_b_w0_b_xa, z_b_a_b_g0, z_b_w0_b_g0, z_b_xa_b_g0, z_b_a_b_j0, z_b_w0_b_j0, z_b_xa_b_j0, z_b_g0_b_j0, l_a, q_a, t_a, l_v_wa, q_v_wa, t_v_wa, l_w0, q_w0, t_w0, l_v_xa, q_v_xa, t_v_xa, l_g0, q_g0, t_g0, l_v_za, q_v_za, t_v_za, l_j0, q_j0, t_j0]
theorem idealOf_law (h : H) (args : List Value) (ha : okAs h [.agg mcLT] args) : AC Tryz.prog 8 args h fun r _ => r = .bool true := by
  obtain ⟨v, _, rfl, ⟨cs, rfl, q0⟩, a0⟩ := okAs_cons ha
  obtain rfl := okAs_nil a0
  obtain ⟨m, r, k⟩ := mach_of q0
  exact idealOf_walk r k
section
open Go.ChangeShapes Go.WideShapes Go.ChangeAt Go.RowKit
theorem fnExactIdealOf_lifted (os : Os) (started : os.Started) (H' : Type) (enc : TypeId × Value → H') : ReturnsInHanded {} Tryz.checked os 8 .any (Rows.fnExactIdealOfSpec.pre6 enc Tryz.prog Tryz.f8 Rows.fnExactIdealOfRow.domain false) (Rows.fnExactIdealOfSpec.post enc Tryz.prog Tryz.f8 false true false false) :=
  law_row (Ck := Tryz.checked) [.agg [.f (.int .i64), .sl [.str], .sl [.int .i64, .str]]] (by kernel_rfl) started (by kernel_rfl) Tryz.func8 (ChangeSpec.witness6 (enc := enc) (C := Tryz.checked) false ⟨#[], #[.agg #[.int .i64 0, .slice none 0 0, .slice none 0 0]], []⟩ 8 (by kernel_rfl) (by kernel_rfl) (by kernel_rfl) (by kernel_rfl))
    (by kernel_rfl) (by kernel_rfl) rfl (by kernel_rfl : Tryz.prog.underlying (Tryz.f8.resultTypes.getD 0 0) = some .bool) rfl
    (fun ds hd => by
      rw [show Tryz.f8.params.toList.length = 1 by kernel_rfl] at hd
      match ds, hd with
      | [_], _ => rfl)
    (by kernel_rfl) idealOf_law
theorem fnExactIdealOf_holds : Rows.FnExactIdealOfSaid :=
  OpenClaim.holds_of_wide 8 Tryz.f8 rfl rfl rfl rfl rfl rfl rfl ⟨rfl, rfl, rfl, rfl, rfl⟩ rfl rfl rfl rfl rfl (by kernel_rfl) Tryz.func8 (by kernel_rfl)
    (of_decide_eq_true (by kernel_rfl)) (by unfold Func.isWrapper; first | (rw [if_pos (by decide +kernel)]; kernel_rfl) | (rw [if_neg (by decide +kernel)]; exact ⟨rfl, rfl⟩))
    (fun os started H' enc _ => fnExactIdealOf_lifted os started H' enc)
end
end Go.Proofs.YtiokibikhanfcaaGreat
