/- BootCut of the program returns what BootCut of the reference returns, for all arguments: the given statement, with no condition. -/
import Derived.Test.YtiokibikhanfcaaGreatC14y
import Derived.Test.YtiokibikhanfcaaGreatCGm
import Derived.Test.YtiokibikhanfcaaGreatCB
import Derived.Test.YtiokibikhanfcaaGreatC12h
import Derived.Test.YtiokibikhanfcaaGreatRows
import Derived.ProofKit
import Derived.ShutString
import Derived.ChangeOld
import Derived.Below
set_option linter.unusedVariables false
set_option linter.unusedSimpArgs false
set_option maxRecDepth 100000
namespace Go.Proofs.YtiokibikhanfcaaGreat
open Go.KH

/-- laws.FnExactBootCut -/
def b_laws_FnExactBootCut : C := (.seq (.ops [⟨(some 3), none, .box (.t 0)⟩, q 6 (.mv (.c (.bool false)))])
 (.seq (.seq (.ops [q 16 (.mv (.t 2)), q 17 (.len (.t 16)), q 18 (.bin .gtr (.t 17) (.c (i64 1048576)))])
 (.cond (.t 18) (.seq (.ops [q 6 (.mv (.c (.bool true)))])
 .ret) .skip))
 (.seq (.ops [q 7 (.mv (.c (i64 1048576)))])
 (.seq (.ops [q 19 (.ld true 3 (.t 3)), q 20 (.mv (.t 7)), ⟨(some 21), none, .call (.c (.func (.func 9) #[] #[])) [(.t 19), (.t 20)]⟩, q 7 (.mv (.t 21))])
 (.seq (.seq (.ops [q 22 (.mv (.t 7)), q 23 (.bin .lss (.t 22) (.c (i64 0)))])
 (.cond (.t 23) (.seq (.ops [q 6 (.mv (.c (.bool true)))])
 .ret) .skip))
 (.seq (.ops [q 24 (.ld true 3 (.t 3)), ⟨(some 25), none, .call (.c (.func (.func 11) #[] #[])) [(.t 24)]⟩, q 26 (.mv (.t 1)), q 27 (.mv (.t 2)), ⟨(some 28), none, .call (.c (.func (.func 29) #[] #[])) [(.t 27)]⟩, ⟨(some 29), none, .call (.c (.func (.func 28) #[] #[])) [(.t 25), (.t 26), (.t 28)]⟩, ⟨(some 8), none, .alloc [(i64 0), nils, nils, (i64 0)]⟩, ⟨none, none, .st 4 (.t 8) (.t 29)⟩])
 (.seq (.ops [q 30 (.ld true 3 (.t 3)), ⟨(some 31), none, .call (.c (.func (.func 11) #[] #[])) [(.t 30)]⟩, ⟨(some 9), none, .alloc [(i64 0), nils, nils]⟩, ⟨none, none, .st 3 (.t 9) (.t 31)⟩])
 (.seq (.ops [q 32 (.mv (.t 2)), ⟨(some 33), none, .call (.c (.func (.func 29) #[] #[])) [(.t 32)]⟩, q 10 (.mv (.t 33))])
 (.seq (.ops [q 34 (.ld true 3 (.t 9)), q 35 (.mv (.t 1)), q 36 (.mv (.t 10)), ⟨(some 37), none, .call (.c (.func (.func 30) #[] #[])) [(.t 34), (.t 35), (.t 36)]⟩, ⟨(some 11), none, .alloc [(i64 0), nils, nils, (i64 0)]⟩, ⟨none, none, .st 4 (.t 11) (.t 37)⟩])
 (.seq (.seq (.ops [q 38 (.ld true 4 (.t 11)), q 39 (.ld true 4 (.t 8)), ⟨(some 40), none, .call (.c (.func (.func 25) #[] #[])) [(.t 38), (.t 39)]⟩, q 41 (.un .not (.t 40))])
 (.cond (.t 41) (.seq (.ops [q 6 (.mv (.c (.bool false)))])
 .ret) .skip))
 (.seq (.seq (.dops true (.tk (q 42 (.ld true 3 (.t 9))) (.tk (q 43 (.ld true 3 (.t 3))) (.sq (⟨(some 44), none, .call (.c (.func (.func 11) #[] #[])) [(.t 43)]⟩) (.sq (⟨(some 45), none, .call (.c (.func (.func 14) #[] #[])) [(.t 42), (.t 44)]⟩) (.tk (q 46 (.un .not (.t 45))) .nil))))))
 (.cond (.t 46) (.seq (.ops [q 6 (.mv (.c (.bool false)))])
 .ret) .skip))
 (.seq (.seq (.ops [q 47 (.mv (.t 10)), q 48 (.mv (.t 2)), ⟨(some 49), none, .call (.c (.func (.func 29) #[] #[])) [(.t 48)]⟩, ⟨(some 50), none, .call (.c (.func (.func 31) #[] #[])) [(.t 47), (.t 49)]⟩, q 51 (.un .not (.t 50))])
 (.cond (.t 51) (.seq (.ops [q 6 (.mv (.c (.bool false)))])
 .ret) .skip))
 (.seq (.ops [q 12 (.mv (.c (i64 1)))])
 (.seq (.ops [q 52 (.ld true 3 (.t 9)), q 53 (.mv (.t 12)), ⟨(some 54), none, .call (.c (.func (.func 15) #[] #[])) [(.t 52), (.t 53)]⟩, q 12 (.mv (.t 54))])
 (.seq (.ops [q 55 (.mv (.t 10)), q 56 (.mv (.t 12)), ⟨(some 57), none, .call (.c (.func (.func 32) #[] #[])) [(.t 55), (.t 56)]⟩, q 12 (.mv (.t 57))])
 (.seq (.seq (.ops [q 58 (.mv (.t 12)), q 59 (.bin .lss (.t 58) (.c (i64 0))), q 60 (.mv (.t 59)), qg 61 60 false (.ld true 4 (.t 11)), qg 62 60 false (.ld true 4 (.t 8)), ⟨(some 63), (some (60, false)), .call (.c (.func (.func 25) #[] #[])) [(.t 61), (.t 62)]⟩, qg 64 60 false (.un .not (.t 63)), q 65 (.pick (.t 60) (.c (.bool true)) (.t 64))])
 (.cond (.t 65) (.seq (.ops [q 6 (.mv (.c (.bool false)))])
 .ret) .skip))
 (.seq (.ops [q 13 (.mv (.c (i64 1)))])
 (.seq (.ops [q 66 (.ld true 4 (.t 11)), q 67 (.mv (.t 13)), ⟨(some 68), none, .call (.c (.func (.func 26) #[] #[])) [(.t 66), (.t 67)]⟩, q 13 (.mv (.t 68))])
 (.seq (.ops [q 14 (.mv (.c (i64 1)))])
 (.seq (.ops [q 69 (.ld true 4 (.t 11)), q 70 (.mv (.t 14)), ⟨(some 71), none, .call (.c (.func (.func 27) #[] #[])) [(.t 69), (.t 70)]⟩, q 14 (.mv (.t 71))])
 (.seq (.seq (.ops [q 72 (.mv (.t 14)), q 73 (.bin .lss (.t 72) (.c (i64 0)))])
 (.cond (.t 73) (.seq (.ops [q 6 (.mv (.c (.bool false)))])
 .ret) .skip))
 (.seq (.seq (.ops [q 74 (.mv (.t 14)), q 75 (.mv (.t 13)), q 76 (.bin .neq (.t 74) (.t 75))])
 (.cond (.t 76) (.seq (.ops [q 6 (.mv (.c (.bool false)))])
 .ret) .skip))
 (.seq (.ops [q 77 (.ld true 3 (.t 3)), ⟨(some 78), none, .call (.c (.func (.func 11) #[] #[])) [(.t 77)]⟩, q 79 (.mv (.t 1)), q 80 (.mv (.t 2)), ⟨(some 81), none, .call (.c (.func (.func 29) #[] #[])) [(.t 80)]⟩, ⟨(some 82), none, .call (.c (.func (.func 30) #[] #[])) [(.t 78), (.t 79), (.t 81)]⟩, ⟨(some 15), none, .alloc [(i64 0), nils, nils, (i64 0)]⟩, ⟨none, none, .st 4 (.t 15) (.t 82)⟩])
 (.seq (.seq (.ops [q 83 (.ld true 4 (.t 15)), q 84 (.ld true 4 (.t 8)), ⟨(some 85), none, .call (.c (.func (.func 25) #[] #[])) [(.t 83), (.t 84)]⟩, q 86 (.un .not (.t 85))])
 (.cond (.t 86) (.seq (.ops [q 6 (.mv (.c (.bool false)))])
 .ret) .skip))
 (.seq (.ops [q 14 (.mv (.c (i64 1)))])
 (.seq (.ops [q 87 (.ld true 4 (.t 11)), q 88 (.mv (.t 14)), ⟨(some 89), none, .call (.c (.func (.func 27) #[] #[])) [(.t 87), (.t 88)]⟩, q 14 (.mv (.t 89))])
 (.seq (.seq (.ops [q 90 (.mv (.t 14)), q 91 (.bin .lss (.t 90) (.c (i64 0)))])
 (.cond (.t 91) (.seq (.ops [q 6 (.mv (.c (.bool false)))])
 .ret) .skip))
 (.seq (.seq (.ops [q 92 (.mv (.t 14)), q 93 (.mv (.t 13)), q 94 (.bin .neq (.t 92) (.t 93))])
 (.cond (.t 94) (.seq (.ops [q 6 (.mv (.c (.bool false)))])
 .ret) .skip))
 (.seq (.ops [q 6 (.mv (.c (.bool true)))])
 .ret)))))))))))))))))))))))))))))
theorem w_laws_FnExactBootCut {args : List Value} {h : H} {Q : Value → H → Prop} (hl : args.length ≤ 95) (hk : wpc Tryz.prog b_laws_FnExactBootCut (retw [.tmp 6] Q) (argsFr args) h) : AC Tryz.prog 6 args h Q :=
  AC.of_wpc mixedOrders Tryz.func6 (by kernel_rfl) (by kernel_rfl : prepF Tryz.prog Tryz.f6 = some ⟨95, [.tmp 6], b_laws_FnExactBootCut⟩) hl hk


set_option maxHeartbeats 1600000 in
theorem bootCut_walk {h : H} {ca : List Value} {vb : Value} {m : UMach} {kn : Int} {fs : List Int} (A0 : RepR h (spMach m) ca) (ok1 : m.ok) (B0 : RepR h [.s 1 (ints fs)] [vb]) (n1 : fs.length ≤ maxLen) (hin : ∀ x ∈ fs, in64 x) : AC Tryz.prog 6 [.agg ca.toArray, i64 kn, vb] h fun r _ => r = .bool true := by
  have l_a := A0.len
  simp only [List.length_cons, List.length_nil, Nat.reduceAdd] at l_a
  have q_a := A0.one
  have t_a := take_len l_a
  have ll_b : (ints fs).length = fs.length := by simp
  have sh_b := B0.1.shape
  rw [ll_b] at sh_b
  obtain ⟨_, _, rfl⟩ := sh_b
  refine w_laws_FnExactBootCut (by simp) ?_
  unfold b_laws_FnExactBootCut
  simp -implicitDefEqProofs only [go_sem, l_a, q_a, t_a, ll_b]
  intro b_a hb_b_a n_b_a
  have E_b_a := (Ext.refl h).set n_b_a ⟨ca, 3⟩
  simp -implicitDefEqProofs only [go_sem, hb_b_a, l_a, q_a, t_a, ll_b]
  have R1_a := RepR.ext A0 E_b_a
  have R1_b := RepR.ext B0 E_b_a
  have G1_b_a : (h.set b_a ⟨ca, 3⟩).get b_a = some ⟨ca, 3⟩ := H.set_get_same _ _ _
  refine Br.of (fun hcF => ?_) (fun hcF => ?_)
  · simp -implicitDefEqProofs only [go_sem, hcF, ldc_get G1_b_a, l_a, q_a, t_a, ll_b]
  have hbF : fs.length ≤ 1048576 := by omega
  simp -implicitDefEqProofs only [go_sem, hcF, ldc_get G1_b_a, l_a, q_a, t_a, ll_b]
  refine (szMachine_pc R1_a ok1 (by omega)).use ?_
  simp -implicitDefEqProofs only [go_sem, ldc_get G1_b_a, l_a, q_a, t_a, ll_b]
  refine Br.of (fun hc0 => ?_) (fun hc0 => ?_)
  · simp -implicitDefEqProofs only [go_sem, hc0, ldc_get G1_b_a, l_a, q_a, t_a, ll_b]
  have sm := flSz_small (by omega) hc0
  have hfn := flN_le sm.fin1
  have hio := cutOut_fin1 m kn fs
  have hfin := fin1_fin hio
  have hnn := flN_le hio
  simp -implicitDefEqProofs only [go_sem, hc0, ldc_get G1_b_a, l_a, q_a, t_a, ll_b]
  refine AC_of (toMachine_ac R1_a sm) ?_
  rintro _ x1 - ⟨e1, v_wa, rfl, T_wa⟩
  have nn_wa_b_a := RepF.new T_wa |>.ne G1_b_a
  have D_a_wa := DjL.of (RepR.known R1_a) (RepF.new T_wa)
  have D_b_wa := DjL.of (RepR.known R1_b) (RepF.new T_wa)
  have G2_b_a := e1.2.g b_a _ G1_b_a
  have R2_a := RepR.ext R1_a e1
  have R2_b := RepR.ext R1_b e1
  have l_v_wa := T_wa.r.len
  simp only [List.length_cons, List.length_nil, Nat.reduceAdd] at l_v_wa
  have q_v_wa := T_wa.r.one
  have t_v_wa := take_len l_v_wa
  have S1 := e1.2
  simp -implicitDefEqProofs only [go_sem, ldc_get G2_b_a, l_a, q_a, t_a, ll_b, l_v_wa, q_v_wa, t_v_wa, S1]
  refine AC_of (toInt64S_ac (R2_b).1 hbF) ?_
  rintro v_wb x2 - ⟨e2, f_wb⟩
  have T_wb := rep1 f_wb
  have nn_wb_b_a := RepF.new T_wb |>.ne G2_b_a
  have D_a_wb := DjL.of (RepR.known R2_a) (RepF.new T_wb)
  have D_b_wb := DjL.of (RepR.known R2_b) (RepF.new T_wb)
  have D_wa_wb := DjL.of (RepR.known T_wa.r) (RepF.new T_wb)
  have G3_b_a := e2.2.g b_a _ G2_b_a
  have R3_a := RepR.ext R2_a e2
  have R3_b := RepR.ext R2_b e2
  have R3_wa := RepR.ext T_wa.r e2
  have F3_wa := RepF.ext T_wa e2
  have S2 := Sub.trans S1 e2.2
  simp -implicitDefEqProofs only [go_sem, ldc_get G3_b_a, l_a, q_a, t_a, ll_b, l_v_wa, q_v_wa, t_v_wa, S1, S2]
  refine AC_of (specBootCut_ac F3_wa.r sm.fin1 (T_wb.r).1 hin) ?_
  rintro _ x3 - ⟨e3, w0, rfl, T_w0⟩
  have nn_w0_b_a := RepF.new T_w0 |>.ne G3_b_a
  have D_a_w0 := DjL.of (RepR.known R3_a) (RepF.new T_w0)
  have D_b_w0 := DjL.of (RepR.known R3_b) (RepF.new T_w0)
  have D_wa_w0 := DjL.of (RepR.known F3_wa.r) (RepF.new T_w0)
  have D_wb_w0 := DjL.of (RepR.known T_wb.r) (RepF.new T_w0)
  have G4_b_a := e3.2.g b_a _ G3_b_a
  have R4_a := RepR.ext R3_a e3
  have R4_b := RepR.ext R3_b e3
  have R4_wa := RepR.ext F3_wa.r e3
  have R4_wb := RepR.ext T_wb.r e3
  have F4_wa := RepF.ext F3_wa e3
  have F4_wb := RepF.ext T_wb e3
  have l_w0 := T_w0.r.len
  simp only [List.length_cons, List.length_nil, Nat.reduceAdd] at l_w0
  have q_w0 := T_w0.r.one
  have t_w0 := take_len l_w0
  simp -implicitDefEqProofs only [go_sem, ldc_get G4_b_a, l_a, q_a, t_a, ll_b, l_v_wa, q_v_wa, t_v_wa, l_w0, q_w0, t_w0, S1, S2]
  intro b_w0 hb_b_w0 n_b_w0
  have z_b_a_b_w0 : (b_a = b_w0) = False := eq_false fun e => by subst e; rw [G4_b_a] at n_b_w0; cases n_b_w0
  have nn_wa_b_w0 := F4_wa.r.known.ne n_b_w0
  have nn_wb_b_w0 := F4_wb.r.known.ne n_b_w0
  have nn_w0_b_w0 := T_w0.r.known.ne n_b_w0
  have E_b_w0 := (Ext.refl x3).set n_b_w0 ⟨w0, 4⟩
  simp -implicitDefEqProofs only [go_sem, hb_b_w0, ldc_get G4_b_a, z_b_a_b_w0, l_a, q_a, t_a, ll_b, l_v_wa, q_v_wa, t_v_wa, l_w0, q_w0, t_w0, S1, S2]
  have G5_b_a := E_b_w0.2.g b_a _ G4_b_a
  have R5_a := RepR.ext R4_a E_b_w0
  have R5_b := RepR.ext R4_b E_b_w0
  have R5_wa := RepR.ext F4_wa.r E_b_w0
  have R5_wb := RepR.ext F4_wb.r E_b_w0
  have R5_w0 := RepR.ext T_w0.r E_b_w0
  have F5_wa := RepF.ext F4_wa E_b_w0
  have F5_wb := RepF.ext F4_wb E_b_w0
  have F5_w0 := RepF.ext T_w0 E_b_w0
  have G5_b_w0 : (x3.set b_w0 ⟨w0, 4⟩).get b_w0 = some ⟨w0, 4⟩ := H.set_get_same _ _ _
  refine AC_of (toMachine_ac R5_a sm) ?_
  rintro _ x4 - ⟨e4, v_xa, rfl, T_xa⟩
  have nn_xa_b_a := RepF.new T_xa |>.ne G5_b_a
  have nn_xa_b_w0 := RepF.new T_xa |>.ne G5_b_w0
  have D_a_xa := DjL.of (RepR.known R5_a) (RepF.new T_xa)
  have D_b_xa := DjL.of (RepR.known R5_b) (RepF.new T_xa)
  have D_w0_xa := DjL.of (RepR.known F5_w0.r) (RepF.new T_xa)
  have G6_b_a := e4.2.g b_a _ G5_b_a
  have G6_b_w0 := e4.2.g b_w0 _ G5_b_w0
  have R6_a := RepR.ext R5_a e4
  have R6_b := RepR.ext R5_b e4
  have R6_w0 := RepR.ext F5_w0.r e4
  have F6_w0 := RepF.ext F5_w0 e4
  have l_v_xa := T_xa.r.len
  simp only [List.length_cons, List.length_nil, Nat.reduceAdd] at l_v_xa
  have q_v_xa := T_xa.r.one
  have t_v_xa := take_len l_v_xa
  simp -implicitDefEqProofs only [go_sem, ldc_get G6_b_a, ldc_get G6_b_w0, z_b_a_b_w0, l_a, q_a, t_a, ll_b, l_v_wa, q_v_wa, t_v_wa, l_w0, q_w0, t_w0, l_v_xa, q_v_xa, t_v_xa]
  intro b_xa hb_b_xa n_b_xa
  have z_b_a_b_xa : (b_a = b_xa) = False := eq_false fun e => by subst e; rw [G6_b_a] at n_b_xa; cases n_b_xa
  have z_b_w0_b_xa : (b_w0 = b_xa) = False := eq_false fun e => by subst e; rw [G6_b_w0] at n_b_xa; cases n_b_xa
  have nn_w0_b_xa := F6_w0.r.known.ne n_b_xa
  have nn_xa_b_xa := T_xa.r.known.ne n_b_xa
  have E_b_xa := (Ext.refl x4).set n_b_xa ⟨v_xa, 3⟩
  simp -implicitDefEqProofs only [go_sem, hb_b_xa, ldc_get G6_b_a, ldc_get G6_b_w0, z_b_a_b_w0, z_b_a_b_xa, z_b_w0_b_xa, l_a, q_a, t_a, ll_b, l_v_wa, q_v_wa, t_v_wa, l_w0, q_w0, t_w0, l_v_xa, q_v_xa, t_v_xa]
  have G7_b_a := E_b_xa.2.g b_a _ G6_b_a
  have G7_b_w0 := E_b_xa.2.g b_w0 _ G6_b_w0
  have R7_a := RepR.ext R6_a E_b_xa
  have R7_b := RepR.ext R6_b E_b_xa
  have R7_w0 := RepR.ext F6_w0.r E_b_xa
  have R7_xa := RepR.ext T_xa.r E_b_xa
  have F7_w0 := RepF.ext F6_w0 E_b_xa
  have F7_xa := RepF.ext T_xa E_b_xa
  have G7_b_xa : (x4.set b_xa ⟨v_xa, 3⟩).get b_xa = some ⟨v_xa, 3⟩ := H.set_get_same _ _ _
  refine AC_of (toInt64S_ac (R7_b).1 hbF) ?_
  rintro v_xb x5 - ⟨e5, f_xb⟩
  have T_xb := rep1 f_xb
  have nn_xb_b_a := RepF.new T_xb |>.ne G7_b_a
  have nn_xb_b_w0 := RepF.new T_xb |>.ne G7_b_w0
  have nn_xb_b_xa := RepF.new T_xb |>.ne G7_b_xa
  have D_a_xb := DjL.of (RepR.known R7_a) (RepF.new T_xb)
  have D_b_xb := DjL.of (RepR.known R7_b) (RepF.new T_xb)
  have D_w0_xb := DjL.of (RepR.known F7_w0.r) (RepF.new T_xb)
  have D_xa_xb := DjL.of (RepR.known F7_xa.r) (RepF.new T_xb)
  have G8_b_a := e5.2.g b_a _ G7_b_a
  have G8_b_w0 := e5.2.g b_w0 _ G7_b_w0
  have G8_b_xa := e5.2.g b_xa _ G7_b_xa
  have R8_a := RepR.ext R7_a e5
  have R8_b := RepR.ext R7_b e5
  have R8_w0 := RepR.ext F7_w0.r e5
  have R8_xa := RepR.ext F7_xa.r e5
  have F8_w0 := RepF.ext F7_w0 e5
  have F8_xa := RepF.ext F7_xa e5
  simp -implicitDefEqProofs only [go_sem, ldc_get G8_b_a, ldc_get G8_b_w0, ldc_get G8_b_xa, z_b_a_b_w0, z_b_a_b_xa, z_b_w0_b_xa, l_a, q_a, t_a, ll_b, l_v_wa, q_v_wa, t_v_wa, l_w0, q_w0, t_w0, l_v_xa, q_v_xa, t_v_xa]
  refine AC_of (implBootCut_ac F8_xa.r sm.fin1 (T_xb.r).1 hin) ?_
  rintro _ x6 - ⟨e6, g0, rfl, T_g0⟩
  have nn_g0_b_a := RepF.new T_g0 |>.ne G8_b_a
  have nn_g0_b_w0 := RepF.new T_g0 |>.ne G8_b_w0
  have nn_g0_b_xa := RepF.new T_g0 |>.ne G8_b_xa
  have D_a_g0 := DjL.of (RepR.known R8_a) (RepF.new T_g0)
  have D_b_g0 := DjL.of (RepR.known R8_b) (RepF.new T_g0)
  have D_w0_g0 := DjL.of (RepR.known F8_w0.r) (RepF.new T_g0)
  have D_xa_g0 := DjL.of (RepR.known F8_xa.r) (RepF.new T_g0)
  have D_xb_g0 := DjL.of (RepR.known T_xb.r) (RepF.new T_g0)
  have G9_b_a := e6.2.g b_a _ G8_b_a
  have G9_b_w0 := e6.2.g b_w0 _ G8_b_w0
  have G9_b_xa := e6.2.g b_xa _ G8_b_xa
  have R9_a := RepR.ext R8_a e6
  have R9_b := RepR.ext R8_b e6
  have R9_w0 := RepR.ext F8_w0.r e6
  have R9_xa := RepR.ext F8_xa.r e6
  have R9_xb := RepR.ext T_xb.r e6
  have F9_w0 := RepF.ext F8_w0 e6
  have F9_xa := RepF.ext F8_xa e6
  have F9_xb := RepF.ext T_xb e6
  have l_g0 := T_g0.r.len
  simp only [List.length_cons, List.length_nil, Nat.reduceAdd] at l_g0
  have q_g0 := T_g0.r.one
  have t_g0 := take_len l_g0
  simp -implicitDefEqProofs only [go_sem, ldc_get G9_b_a, ldc_get G9_b_w0, ldc_get G9_b_xa, z_b_a_b_w0, z_b_a_b_xa, z_b_w0_b_xa, l_a, q_a, t_a, ll_b, l_v_wa, q_v_wa, t_v_wa, l_w0, q_w0, t_w0, l_v_xa, q_v_xa, t_v_xa, l_g0, q_g0, t_g0]
  intro b_g0 hb_b_g0 n_b_g0
  have z_b_a_b_g0 : (b_a = b_g0) = False := eq_false fun e => by subst e; rw [G9_b_a] at n_b_g0; cases n_b_g0
  have z_b_w0_b_g0 : (b_w0 = b_g0) = False := eq_false fun e => by subst e; rw [G9_b_w0] at n_b_g0; cases n_b_g0
  have z_b_xa_b_g0 : (b_xa = b_g0) = False := eq_false fun e => by subst e; rw [G9_b_xa] at n_b_g0; cases n_b_g0
  have nn_w0_b_g0 := F9_w0.r.known.ne n_b_g0
  have nn_xa_b_g0 := F9_xa.r.known.ne n_b_g0
  have nn_xb_b_g0 := F9_xb.r.known.ne n_b_g0
  have nn_g0_b_g0 := T_g0.r.known.ne n_b_g0
  have E_b_g0 := (Ext.refl x6).set n_b_g0 ⟨g0, 4⟩
  simp -implicitDefEqProofs only [go_sem, hb_b_g0, ldc_get G9_b_a, ldc_get G9_b_w0, ldc_get G9_b_xa, z_b_a_b_w0, z_b_a_b_xa, z_b_w0_b_xa, z_b_a_b_g0, z_b_w0_b_g0, z_b_xa_b_g0, l_a, q_a, t_a, ll_b, l_v_wa, q_v_wa, t_v_wa, l_w0, q_w0, t_w0, l_v_xa, q_v_xa, t_v_xa, l_g0, q_g0, t_g0]
  have G10_b_a := E_b_g0.2.g b_a _ G9_b_a
  have G10_b_w0 := E_b_g0.2.g b_w0 _ G9_b_w0
  have G10_b_xa := E_b_g0.2.g b_xa _ G9_b_xa
  have R10_a := RepR.ext R9_a E_b_g0
  have R10_b := RepR.ext R9_b E_b_g0
  have R10_w0 := RepR.ext F9_w0.r E_b_g0
  have R10_xa := RepR.ext F9_xa.r E_b_g0
  have R10_xb := RepR.ext F9_xb.r E_b_g0
  have R10_g0 := RepR.ext T_g0.r E_b_g0
  have F10_w0 := RepF.ext F9_w0 E_b_g0
  have F10_xa := RepF.ext F9_xa E_b_g0
  have F10_xb := RepF.ext F9_xb E_b_g0
  have F10_g0 := RepF.ext T_g0 E_b_g0
  have G10_b_g0 : (x6.set b_g0 ⟨g0, 4⟩).get b_g0 = some ⟨g0, 4⟩ := H.set_get_same _ _ _
  refine (eqMachineOut_pc F10_g0.r F10_w0.r hfin).use ?_
  simp -implicitDefEqProofs only [go_sem, ldc_get G10_b_a, ldc_get G10_b_w0, ldc_get G10_b_xa, ldc_get G10_b_g0, z_b_a_b_w0, z_b_a_b_xa, z_b_w0_b_xa, z_b_a_b_g0, z_b_w0_b_g0, z_b_xa_b_g0, l_a, q_a, t_a, ll_b, l_v_wa, q_v_wa, t_v_wa, l_w0, q_w0, t_w0, l_v_xa, q_v_xa, t_v_xa, l_g0, q_g0, t_g0]
  refine AC_of (toMachine_ac R10_a sm) ?_
  rintro _ x7 - ⟨e7, v_ya, rfl, T_ya⟩
  have G11_b_a := e7.2.g b_a _ G10_b_a
  have G11_b_w0 := e7.2.g b_w0 _ G10_b_w0
  have G11_b_xa := e7.2.g b_xa _ G10_b_xa
  have G11_b_g0 := e7.2.g b_g0 _ G10_b_g0
  have R11_a := RepR.ext R10_a e7
  have R11_b := RepR.ext R10_b e7
  have R11_w0 := RepR.ext F10_w0.r e7
  have R11_xa := RepR.ext F10_xa.r e7
  have R11_xb := RepR.ext F10_xb.r e7
  have R11_g0 := RepR.ext F10_g0.r e7
  have F11_w0 := RepF.ext F10_w0 e7
  have F11_xa := RepF.ext F10_xa e7
  have F11_xb := RepF.ext F10_xb e7
  have F11_g0 := RepF.ext F10_g0 e7
  simp -implicitDefEqProofs only [go_sem, e7.2, ldc_get G11_b_a, ldc_get G11_b_w0, ldc_get G11_b_xa, ldc_get G11_b_g0, z_b_a_b_w0, z_b_a_b_xa, z_b_w0_b_xa, z_b_a_b_g0, z_b_w0_b_g0, z_b_xa_b_g0, l_a, q_a, t_a, ll_b, l_v_wa, q_v_wa, t_v_wa, l_w0, q_w0, t_w0, l_v_xa, q_v_xa, t_v_xa, l_g0, q_g0, t_g0]
  refine (eqMachine_pc F11_xa.r T_ya.r ok1.2.fin).use ?_
  simp -implicitDefEqProofs only [go_sem, e7.2, ldc_get G11_b_a, ldc_get G11_b_w0, ldc_get G11_b_xa, ldc_get G11_b_g0, z_b_a_b_w0, z_b_a_b_xa, z_b_w0_b_xa, z_b_a_b_g0, z_b_w0_b_g0, z_b_xa_b_g0, l_a, q_a, t_a, ll_b, l_v_wa, q_v_wa, t_v_wa, l_w0, q_w0, t_w0, l_v_xa, q_v_xa, t_v_xa, l_g0, q_g0, t_g0]
  refine AC_of (toInt64S_ac (R11_b).1 hbF) ?_
  rintro v_yb x8 - ⟨e8, f_yb⟩
  have T_yb := rep1 f_yb
  have G12_b_a := e8.2.g b_a _ G11_b_a
  have G12_b_w0 := e8.2.g b_w0 _ G11_b_w0
  have G12_b_xa := e8.2.g b_xa _ G11_b_xa
  have G12_b_g0 := e8.2.g b_g0 _ G11_b_g0
  have R12_a := RepR.ext R11_a e8
  have R12_b := RepR.ext R11_b e8
  have R12_w0 := RepR.ext F11_w0.r e8
  have R12_xa := RepR.ext F11_xa.r e8
  have R12_xb := RepR.ext F11_xb.r e8
  have R12_g0 := RepR.ext F11_g0.r e8
  have F12_w0 := RepF.ext F11_w0 e8
  have F12_xa := RepF.ext F11_xa e8
  have F12_xb := RepF.ext F11_xb e8
  have F12_g0 := RepF.ext F11_g0 e8
  simp -implicitDefEqProofs only [go_sem, e8.2, ldc_get G12_b_a, ldc_get G12_b_w0, ldc_get G12_b_xa, ldc_get G12_b_g0, z_b_a_b_w0, z_b_a_b_xa, z_b_w0_b_xa, z_b_a_b_g0, z_b_w0_b_g0, z_b_xa_b_g0, l_a, q_a, t_a, ll_b, l_v_wa, q_v_wa, t_v_wa, l_w0, q_w0, t_w0, l_v_xa, q_v_xa, t_v_xa, l_g0, q_g0, t_g0]
  refine (eqInt64S_pc (F12_xb.r).1 (T_yb.r).1 n1).use ?_
  simp -implicitDefEqProofs only [go_sem, e8.2, ldc_get G12_b_a, ldc_get G12_b_w0, ldc_get G12_b_xa, ldc_get G12_b_g0, z_b_a_b_w0, z_b_a_b_xa, z_b_w0_b_xa, z_b_a_b_g0, z_b_w0_b_g0, z_b_xa_b_g0, l_a, q_a, t_a, ll_b, l_v_wa, q_v_wa, t_v_wa, l_w0, q_w0, t_w0, l_v_xa, q_v_xa, t_v_xa, l_g0, q_g0, t_g0]
  refine AC_of (markMachine_ac F12_xa sm.fin1 (by omega)) ?_
  rintro _ m0 - ⟨rfl, k0, M0⟩
  have G13_b_a := k0.2.1 b_a _ nn_xa_b_a G12_b_a
  have G13_b_w0 := k0.2.1 b_w0 _ nn_xa_b_w0 G12_b_w0
  have G13_b_xa := k0.2.1 b_xa _ nn_xa_b_xa G12_b_xa
  have G13_b_g0 := k0.2.1 b_g0 _ nn_xa_b_g0 G12_b_g0
  have F13_w0 := RepF.keep F12_w0 k0 D_w0_xa
  have F13_xb := RepF.keep F12_xb k0 D_xa_xb.symm
  have F13_g0 := RepF.keep F12_g0 k0 D_xa_g0.symm
  have R13_a := RepR.keep R12_a k0 D_a_xa
  have R13_b := RepR.keep R12_b k0 D_b_xa
  simp -implicitDefEqProofs only [go_sem, show ¬ (1 + flN m.flash < 0) by omega, ldc_get G13_b_a, ldc_get G13_b_w0, ldc_get G13_b_xa, ldc_get G13_b_g0, z_b_a_b_w0, z_b_a_b_xa, z_b_w0_b_xa, z_b_a_b_g0, z_b_w0_b_g0, z_b_xa_b_g0, l_a, q_a, t_a, ll_b, l_v_wa, q_v_wa, t_v_wa, l_w0, q_w0, t_w0, l_v_xa, q_v_xa, t_v_xa, l_g0, q_g0, t_g0]
  refine AC_of (markInt64S_ac (F13_xb).1 (by omega) (by omega)) ?_
  rintro _ m1 - ⟨rfl, k1, M1⟩
  have k1 := keep1 k1
  have G14_b_a := k1.2.1 b_a _ nn_xb_b_a G13_b_a
  have G14_b_w0 := k1.2.1 b_w0 _ nn_xb_b_w0 G13_b_w0
  have G14_b_xa := k1.2.1 b_xa _ nn_xb_b_xa G13_b_xa
  have G14_b_g0 := k1.2.1 b_g0 _ nn_xb_b_g0 G13_b_g0
  have F14_w0 := RepF.keep F13_w0 k1 D_w0_xb
  have F14_g0 := RepF.keep F13_g0 k1 D_xb_g0.symm
  have R14_a := RepR.keep R13_a k1 D_a_xb
  have R14_b := RepR.keep R13_b k1 D_b_xb
  simp -implicitDefEqProofs only [go_sem, show ¬ (1 + flN m.flash + (fs.length : Int) < 0) by omega, ldc_get G14_b_a, ldc_get G14_b_w0, ldc_get G14_b_xa, ldc_get G14_b_g0, z_b_a_b_w0, z_b_a_b_xa, z_b_w0_b_xa, z_b_a_b_g0, z_b_w0_b_g0, z_b_xa_b_g0, l_a, q_a, t_a, ll_b, l_v_wa, q_v_wa, t_v_wa, l_w0, q_w0, t_w0, l_v_xa, q_v_xa, t_v_xa, l_g0, q_g0, t_g0]
  refine (eqMachineOut_pc F14_g0.r F14_w0.r hfin).use ?_
  simp -implicitDefEqProofs only [go_sem, ldc_get G14_b_a, ldc_get G14_b_w0, ldc_get G14_b_xa, ldc_get G14_b_g0, z_b_a_b_w0, z_b_a_b_xa, z_b_w0_b_xa, z_b_a_b_g0, z_b_w0_b_g0, z_b_xa_b_g0, l_a, q_a, t_a, ll_b, l_v_wa, q_v_wa, t_v_wa, l_w0, q_w0, t_w0, l_v_xa, q_v_xa, t_v_xa, l_g0, q_g0, t_g0]
  refine AC_of (markMachineOut_ac F14_g0 hio (by omega)) ?_
  rintro _ mg - ⟨rfl, kg, Mg⟩
  have G15_b_a := kg.2.1 b_a _ nn_g0_b_a G14_b_a
  have G15_b_w0 := kg.2.1 b_w0 _ nn_g0_b_w0 G14_b_w0
  have G15_b_xa := kg.2.1 b_xa _ nn_g0_b_xa G14_b_xa
  have G15_b_g0 := kg.2.1 b_g0 _ nn_g0_b_g0 G14_b_g0
  have F15_w0 := RepF.keep F14_w0 kg D_w0_g0
  have R15_a := RepR.keep R14_a kg D_a_g0
  have R15_b := RepR.keep R14_b kg D_b_g0
  simp -implicitDefEqProofs only [go_sem, ldc_get G15_b_a, ldc_get G15_b_w0, ldc_get G15_b_xa, ldc_get G15_b_g0, z_b_a_b_w0, z_b_a_b_xa, z_b_w0_b_xa, z_b_a_b_g0, z_b_w0_b_g0, z_b_xa_b_g0, l_a, q_a, t_a, ll_b, l_v_wa, q_v_wa, t_v_wa, l_w0, q_w0, t_w0, l_v_xa, q_v_xa, t_v_xa, l_g0, q_g0, t_g0]
  refine (heldMachineOut_pc Mg hio (by omega)).use ?_
  simp -implicitDefEqProofs only [go_sem, show ¬ (1 + flN (cutOut m kn fs).1.flash < 0) by omega, ldc_get G15_b_a, ldc_get G15_b_w0, ldc_get G15_b_xa, ldc_get G15_b_g0, z_b_a_b_w0, z_b_a_b_xa, z_b_w0_b_xa, z_b_a_b_g0, z_b_w0_b_g0, z_b_xa_b_g0, l_a, q_a, t_a, ll_b, l_v_wa, q_v_wa, t_v_wa, l_w0, q_w0, t_w0, l_v_xa, q_v_xa, t_v_xa, l_g0, q_g0, t_g0]
  refine AC_of (toMachine_ac R15_a sm) ?_
  rintro _ x9 - ⟨e9, v_za, rfl, T_za⟩
  have nn_za_b_a := RepF.new T_za |>.ne G15_b_a
  have nn_za_b_w0 := RepF.new T_za |>.ne G15_b_w0
  have nn_za_b_xa := RepF.new T_za |>.ne G15_b_xa
  have nn_za_b_g0 := RepF.new T_za |>.ne G15_b_g0
  have D_a_za := DjL.of (RepR.known R15_a) (RepF.new T_za)
  have D_b_za := DjL.of (RepR.known R15_b) (RepF.new T_za)
  have D_w0_za := DjL.of (RepR.known F15_w0.r) (RepF.new T_za)
  have G16_b_a := e9.2.g b_a _ G15_b_a
  have G16_b_w0 := e9.2.g b_w0 _ G15_b_w0
  have G16_b_xa := e9.2.g b_xa _ G15_b_xa
  have G16_b_g0 := e9.2.g b_g0 _ G15_b_g0
  have R16_a := RepR.ext R15_a e9
  have R16_b := RepR.ext R15_b e9
  have R16_w0 := RepR.ext F15_w0.r e9
  have F16_w0 := RepF.ext F15_w0 e9
  have l_v_za := T_za.r.len
  simp only [List.length_cons, List.length_nil, Nat.reduceAdd] at l_v_za
  have q_v_za := T_za.r.one
  have t_v_za := take_len l_v_za
  have Mg := RepR.ext Mg e9
  simp -implicitDefEqProofs only [go_sem, ldc_get G16_b_a, ldc_get G16_b_w0, ldc_get G16_b_xa, ldc_get G16_b_g0, z_b_a_b_w0, z_b_a_b_xa, z_b_w0_b_xa, z_b_a_b_g0, z_b_w0_b_g0, z_b_xa_b_g0, l_a, q_a, t_a, ll_b, l_v_wa, q_v_wa, t_v_wa, l_w0, q_w0, t_w0, l_v_xa, q_v_xa, t_v_xa, l_g0, q_g0, t_g0, l_v_za, q_v_za, t_v_za]
  refine AC_of (toInt64S_ac (R16_b).1 hbF) ?_
  rintro v_zb x10 - ⟨e10, f_zb⟩
  have T_zb := rep1 f_zb
  have nn_zb_b_a := RepF.new T_zb |>.ne G16_b_a
  have nn_zb_b_w0 := RepF.new T_zb |>.ne G16_b_w0
  have nn_zb_b_xa := RepF.new T_zb |>.ne G16_b_xa
  have nn_zb_b_g0 := RepF.new T_zb |>.ne G16_b_g0
  have D_a_zb := DjL.of (RepR.known R16_a) (RepF.new T_zb)
  have D_b_zb := DjL.of (RepR.known R16_b) (RepF.new T_zb)
  have D_w0_zb := DjL.of (RepR.known F16_w0.r) (RepF.new T_zb)
  have D_za_zb := DjL.of (RepR.known T_za.r) (RepF.new T_zb)
  have G17_b_a := e10.2.g b_a _ G16_b_a
  have G17_b_w0 := e10.2.g b_w0 _ G16_b_w0
  have G17_b_xa := e10.2.g b_xa _ G16_b_xa
  have G17_b_g0 := e10.2.g b_g0 _ G16_b_g0
  have R17_a := RepR.ext R16_a e10
  have R17_b := RepR.ext R16_b e10
  have R17_w0 := RepR.ext F16_w0.r e10
  have R17_za := RepR.ext T_za.r e10
  have F17_w0 := RepF.ext F16_w0 e10
  have F17_za := RepF.ext T_za e10
  have Mg := RepR.ext Mg e10
  simp -implicitDefEqProofs only [go_sem, ldc_get G17_b_a, ldc_get G17_b_w0, ldc_get G17_b_xa, ldc_get G17_b_g0, z_b_a_b_w0, z_b_a_b_xa, z_b_w0_b_xa, z_b_a_b_g0, z_b_w0_b_g0, z_b_xa_b_g0, l_a, q_a, t_a, ll_b, l_v_wa, q_v_wa, t_v_wa, l_w0, q_w0, t_w0, l_v_xa, q_v_xa, t_v_xa, l_g0, q_g0, t_g0, l_v_za, q_v_za, t_v_za]
  refine AC_of (implBootCut_ac F17_za.r sm.fin1 (T_zb.r).1 hin) ?_
  rintro _ x11 - ⟨e11, j0, rfl, T_j0⟩
  have nn_j0_b_a := RepF.new T_j0 |>.ne G17_b_a
  have nn_j0_b_w0 := RepF.new T_j0 |>.ne G17_b_w0
  have nn_j0_b_xa := RepF.new T_j0 |>.ne G17_b_xa
  have nn_j0_b_g0 := RepF.new T_j0 |>.ne G17_b_g0
  have D_a_j0 := DjL.of (RepR.known R17_a) (RepF.new T_j0)
  have D_b_j0 := DjL.of (RepR.known R17_b) (RepF.new T_j0)
  have D_w0_j0 := DjL.of (RepR.known F17_w0.r) (RepF.new T_j0)
  have D_za_j0 := DjL.of (RepR.known F17_za.r) (RepF.new T_j0)
  have D_zb_j0 := DjL.of (RepR.known T_zb.r) (RepF.new T_j0)
  have G18_b_a := e11.2.g b_a _ G17_b_a
  have G18_b_w0 := e11.2.g b_w0 _ G17_b_w0
  have G18_b_xa := e11.2.g b_xa _ G17_b_xa
  have G18_b_g0 := e11.2.g b_g0 _ G17_b_g0
  have R18_a := RepR.ext R17_a e11
  have R18_b := RepR.ext R17_b e11
  have R18_w0 := RepR.ext F17_w0.r e11
  have R18_za := RepR.ext F17_za.r e11
  have R18_zb := RepR.ext T_zb.r e11
  have F18_w0 := RepF.ext F17_w0 e11
  have F18_za := RepF.ext F17_za e11
  have F18_zb := RepF.ext T_zb e11
  have Mg := RepR.ext Mg e11
  have l_j0 := T_j0.r.len
  simp only [List.length_cons, List.length_nil, Nat.reduceAdd] at l_j0
  have q_j0 := T_j0.r.one
  have t_j0 := take_len l_j0
  simp -implicitDefEqProofs only [go_sem, ldc_get G18_b_a, ldc_get G18_b_w0, ldc_get G18_b_xa, ldc_get G18_b_g0, z_b_a_b_w0, z_b_a_b_xa, z_b_w0_b_xa, z_b_a_b_g0, z_b_w0_b_g0, z_b_xa_b_g0, l_a, q_a, t_a, ll_b, l_v_wa, q_v_wa, t_v_wa, l_w0, q_w0, t_w0, l_v_xa, q_v_xa, t_v_xa, l_g0, q_g0, t_g0, l_v_za, q_v_za, t_v_za, l_j0, q_j0, t_j0]
  intro b_j0 hb_b_j0 n_b_j0
  have z_b_a_b_j0 : (b_a = b_j0) = False := eq_false fun e => by subst e; rw [G18_b_a] at n_b_j0; cases n_b_j0
  have z_b_w0_b_j0 : (b_w0 = b_j0) = False := eq_false fun e => by subst e; rw [G18_b_w0] at n_b_j0; cases n_b_j0
  have z_b_xa_b_j0 : (b_xa = b_j0) = False := eq_false fun e => by subst e; rw [G18_b_xa] at n_b_j0; cases n_b_j0
  have z_b_g0_b_j0 : (b_g0 = b_j0) = False := eq_false fun e => by subst e; rw [G18_b_g0] at n_b_j0; cases n_b_j0
  have nn_w0_b_j0 := F18_w0.r.known.ne n_b_j0
  have nn_za_b_j0 := F18_za.r.known.ne n_b_j0
  have nn_zb_b_j0 := F18_zb.r.known.ne n_b_j0
  have nn_j0_b_j0 := T_j0.r.known.ne n_b_j0
  have E_b_j0 := (Ext.refl x11).set n_b_j0 ⟨j0, 4⟩
  simp -implicitDefEqProofs only [go_sem, hb_b_j0, ldc_get G18_b_a, ldc_get G18_b_w0, ldc_get G18_b_xa, ldc_get G18_b_g0, z_b_a_b_w0, z_b_a_b_xa, z_b_w0_b_xa, z_b_a_b_g0, z_b_w0_b_g0, z_b_xa_b_g0, z_b_a_b_j0, z_b_w0_b_j0, z_b_xa_b_j0, z_b_g0_b_j0, l_a, q_a, t_a, ll_b, l_v_wa, q_v_wa, t_v_wa, l_w0, q_w0, t_w0, l_v_xa, q_v_xa, t_v_xa, l_g0, q_g0, t_g0, l_v_za, q_v_za, t_v_za, l_j0, q_j0, t_j0]
  have G19_b_a := E_b_j0.2.g b_a _ G18_b_a
  have G19_b_w0 := E_b_j0.2.g b_w0 _ G18_b_w0
  have G19_b_xa := E_b_j0.2.g b_xa _ G18_b_xa
  have G19_b_g0 := E_b_j0.2.g b_g0 _ G18_b_g0
  have R19_a := RepR.ext R18_a E_b_j0
  have R19_b := RepR.ext R18_b E_b_j0
  have R19_w0 := RepR.ext F18_w0.r E_b_j0
  have R19_za := RepR.ext F18_za.r E_b_j0
  have R19_zb := RepR.ext F18_zb.r E_b_j0
  have R19_j0 := RepR.ext T_j0.r E_b_j0
  have F19_w0 := RepF.ext F18_w0 E_b_j0
  have F19_za := RepF.ext F18_za E_b_j0
  have F19_zb := RepF.ext F18_zb E_b_j0
  have F19_j0 := RepF.ext T_j0 E_b_j0
  have G19_b_j0 : (x11.set b_j0 ⟨j0, 4⟩).get b_j0 = some ⟨j0, 4⟩ := H.set_get_same _ _ _
  have Mg := RepR.ext Mg E_b_j0
  refine (eqMachineOut_pc F19_j0.r F19_w0.r hfin).use ?_
  simp -implicitDefEqProofs only [go_sem, ldc_get G19_b_a, ldc_get G19_b_w0, ldc_get G19_b_xa, ldc_get G19_b_g0, ldc_get G19_b_j0, z_b_a_b_w0, z_b_a_b_xa, z_b_w0_b_xa, z_b_a_b_g0, z_b_w0_b_g0, z_b_xa_b_g0, z_b_a_b_j0, z_b_w0_b_j0, z_b_xa_b_j0, z_b_g0_b_j0, l_a, q_a, t_a, ll_b, l_v_wa, q_v_wa, t_v_wa, l_w0, q_w0, t_w0, l_v_xa, q_v_xa, t_v_xa, l_g0, q_g0, t_g0, l_v_za, q_v_za, t_v_za, l_j0, q_j0, t_j0]
  refine (heldMachineOut_pc Mg hio (by omega)).use ?_
  simp -implicitDefEqProofs only [go_sem, show ¬ (1 + flN (cutOut m kn fs).1.flash < 0) by omega, ldc_get G19_b_a, ldc_get G19_b_w0, ldc_get G19_b_xa, ldc_get G19_b_g0, ldc_get G19_b_j0, z_b_a_b_w0, z_b_a_b_xa, z_b_w0_b_xa, z_b_a_b_g0, z_b_w0_b_g0, z_b_xa_b_g0, z_b_a_b_j0, z_b_w0_b_j0, z_b_xa_b_j0, z_b_g0_b_j0, l_a, q_a, t_a, ll_b, l_v_wa, q_v_wa, t_v_wa, l_w0, q_w0, t_w0, l_v_xa, q_v_xa, t_v_xa, l_g0, q_g0, t_g0, l_v_za, q_v_za, t_v_za, l_j0, q_j0, t_j0]
theorem bootCut_law (h : H) (args : List Value) (ha : okAs h [.agg mcLT, .one (.f (.int .i64)), .one (.sl [.int .i64])] args) : AC Tryz.prog 6 args h fun r _ => r = .bool true := by
  obtain ⟨v, _, rfl, ⟨cs, rfl, q0⟩, a0⟩ := okAs_cons ha
  obtain ⟨_, _, rfl, q, a1⟩ := okAs_cons a0
  obtain ⟨kn, rfl, hk1⟩ := q
  obtain ⟨v3, _, rfl, ⟨rows3, hs3, hf3, hn3⟩, a2⟩ := okAs_cons a1
  obtain rfl := okAs_nil a2
  obtain ⟨m, r, k⟩ := mach_of q0
  obtain ⟨fs, rfl, hin⟩ := ints_of rows3 hf3
  exact bootCut_walk r k ⟨hs3, trivial⟩ (by simpa using hn3) hin
section
open Go.ChangeShapes Go.WideShapes Go.ChangeAt Go.RowKit
theorem fnExactBootCut_lifted (os : Os) (started : os.Started) (H' : Type) (enc : TypeId × Value → H') : ReturnsInHanded {} Tryz.checked os 6 .any (Rows.fnExactBootCutSpec.pre6 enc Tryz.prog Tryz.f6 Rows.fnExactBootCutRow.domain false) (Rows.fnExactBootCutSpec.post enc Tryz.prog Tryz.f6 false true false false) :=
  law_row (Ck := Tryz.checked) [.agg [.f (.int .i64), .sl [.str], .sl [.int .i64, .str]], .one (.f (.int .i64)), .one (.sl [.int .i64])] (by kernel_rfl) started (by kernel_rfl) Tryz.func6 (ChangeSpec.witness6 (enc := enc) (C := Tryz.checked) false ⟨#[], #[.agg #[.int .i64 0, .slice none 0 0, .slice none 0 0], .int .i64 0, .slice none 0 0], []⟩ 8 (by kernel_rfl) (by kernel_rfl) (by kernel_rfl) (by kernel_rfl))
    (by kernel_rfl) (by kernel_rfl) rfl (by kernel_rfl : Tryz.prog.underlying (Tryz.f6.resultTypes.getD 0 0) = some .bool) rfl
    (fun ds hd => by
      rw [show Tryz.f6.params.toList.length = 3 by kernel_rfl] at hd
      match ds, hd with
      | [_, _, _], _ => rfl)
    (by kernel_rfl) bootCut_law
theorem fnExactBootCut_holds : Rows.FnExactBootCutSaid :=
  OpenClaim.holds_of_wide 6 Tryz.f6 rfl rfl rfl rfl rfl rfl rfl ⟨rfl, rfl, rfl, rfl, rfl⟩ rfl rfl rfl rfl rfl (by kernel_rfl) Tryz.func6 (by kernel_rfl)
    (of_decide_eq_true (by kernel_rfl)) (by unfold Func.isWrapper; first | (rw [if_pos (by decide +kernel)]; kernel_rfl) | (rw [if_neg (by decide +kernel)]; exact ⟨rfl, rfl⟩))
    (fun os started H' enc _ => fnExactBootCut_lifted os started H' enc)
end
end Go.Proofs.YtiokibikhanfcaaGreat
