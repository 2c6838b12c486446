/- PackageOf of the program returns what PackageOf of the reference returns, for all arguments: the given statement, with no condition. -/
import Derived.Test.YtdofcojbjcpikaaDoorCZi
import Derived.Test.YtdofcojbjcpikaaDoorCZe
import Derived.Test.YtdofcojbjcpikaaDoorRows
import Derived.Test.YtdofcojbjcpikaaDoorCards
import Derived.Test.YtdofcojbjcpikaaDoorTie
import Derived.SevenTiedAt
import Derived.ProofKit
import Derived.ShutString
import Derived.ChangeOld
import Derived.Below
set_option linter.unusedVariables false
set_option linter.unusedSimpArgs false
set_option maxRecDepth 100000
namespace Go.Proofs.YtdofcojbjcpikaaDoor
open Go.KH

/-- laws.FnExactPackageOf -/
def b_laws_FnExactPackageOf : C := (.seq (.ops [q 4 (.mv (.c (.bool false)))])
 (.seq (.ops [q 5 (.mv (.c (i64 1048576)))])
 (.seq (.ops [q 14 (.mv (.t 0)), q 15 (.mv (.t 5)), ⟨(some 16), none, .call (.c (.func (.func 6) #[] #[])) [(.t 14), (.t 15)]⟩, q 5 (.mv (.t 16))])
 (.seq (.seq (.ops [q 17 (.mv (.t 5)), q 18 (.bin .lss (.t 17) (.c (i64 0)))])
 (.cond (.t 18) (.seq (.ops [q 4 (.mv (.c (.bool true)))])
 .ret) .skip))
 (.seq (.ops [q 19 (.mv (.t 1)), q 20 (.mv (.t 5)), ⟨(some 21), none, .call (.c (.func (.func 6) #[] #[])) [(.t 19), (.t 20)]⟩, q 5 (.mv (.t 21))])
 (.seq (.seq (.ops [q 22 (.mv (.t 5)), q 23 (.bin .lss (.t 22) (.c (i64 0)))])
 (.cond (.t 23) (.seq (.ops [q 4 (.mv (.c (.bool true)))])
 .ret) .skip))
 (.seq (.ops [q 24 (.mv (.t 0)), ⟨(some 25), none, .call (.c (.func (.func 9) #[] #[])) [(.t 24)]⟩, q 26 (.mv (.t 1)), ⟨(some 27), none, .call (.c (.func (.func 9) #[] #[])) [(.t 26)]⟩, ⟨(some 28), none, .call (.c (.func (.func 13) #[] #[])) [(.t 25), (.t 27)]⟩, ⟨(some 6), none, .alloc [(i64 0), (str []), nils, (i64 0)]⟩, ⟨none, none, .st 4 (.t 6) (.t 28)⟩])
 (.seq (.ops [q 29 (.mv (.t 0)), ⟨(some 30), none, .call (.c (.func (.func 9) #[] #[])) [(.t 29)]⟩, q 7 (.mv (.t 30))])
 (.seq (.ops [q 31 (.mv (.t 1)), ⟨(some 32), none, .call (.c (.func (.func 9) #[] #[])) [(.t 31)]⟩, q 8 (.mv (.t 32))])
 (.seq (.ops [q 33 (.mv (.t 7)), q 34 (.mv (.t 8)), ⟨(some 35), none, .call (.c (.func (.func 14) #[] #[])) [(.t 33), (.t 34)]⟩, ⟨(some 9), none, .alloc [(i64 0), (str []), nils, (i64 0)]⟩, ⟨none, none, .st 4 (.t 9) (.t 35)⟩])
 (.seq (.seq (.ops [q 36 (.ld true 4 (.t 9)), q 37 (.ld true 4 (.t 6)), ⟨(some 38), none, .call (.c (.func (.func 15) #[] #[])) [(.t 36), (.t 37)]⟩, q 39 (.un .not (.t 38))])
 (.cond (.t 39) (.seq (.ops [q 4 (.mv (.c (.bool false)))])
 .ret) .skip))
 (.seq (.seq (.ops [q 40 (.mv (.t 7)), q 41 (.mv (.t 0)), ⟨(some 42), none, .call (.c (.func (.func 9) #[] #[])) [(.t 41)]⟩, ⟨(some 43), none, .call (.c (.func (.func 12) #[] #[])) [(.t 40), (.t 42)]⟩, q 44 (.un .not (.t 43))])
 (.cond (.t 44) (.seq (.ops [q 4 (.mv (.c (.bool false)))])
 .ret) .skip))
 (.seq (.seq (.ops [q 45 (.mv (.t 8)), q 46 (.mv (.t 1)), ⟨(some 47), none, .call (.c (.func (.func 9) #[] #[])) [(.t 46)]⟩, ⟨(some 48), none, .call (.c (.func (.func 12) #[] #[])) [(.t 45), (.t 47)]⟩, q 49 (.un .not (.t 48))])
 (.cond (.t 49) (.seq (.ops [q 4 (.mv (.c (.bool false)))])
 .ret) .skip))
 (.seq (.ops [q 10 (.mv (.c (i64 1)))])
 (.seq (.ops [q 50 (.mv (.t 7)), q 51 (.mv (.t 10)), ⟨(some 52), none, .call (.c (.func (.func 16) #[] #[])) [(.t 50), (.t 51)]⟩, q 10 (.mv (.t 52))])
 (.seq (.ops [q 53 (.mv (.t 8)), q 54 (.mv (.t 10)), ⟨(some 55), none, .call (.c (.func (.func 16) #[] #[])) [(.t 53), (.t 54)]⟩, q 10 (.mv (.t 55))])
 (.seq (.seq (.ops [q 56 (.mv (.t 10)), q 57 (.bin .lss (.t 56) (.c (i64 0))), q 58 (.mv (.t 57)), qg 59 58 false (.ld true 4 (.t 9)), qg 60 58 false (.ld true 4 (.t 6)), ⟨(some 61), (some (58, false)), .call (.c (.func (.func 15) #[] #[])) [(.t 59), (.t 60)]⟩, qg 62 58 false (.un .not (.t 61)), q 63 (.pick (.t 58) (.c (.bool true)) (.t 62))])
 (.cond (.t 63) (.seq (.ops [q 4 (.mv (.c (.bool false)))])
 .ret) .skip))
 (.seq (.ops [q 11 (.mv (.c (i64 1)))])
 (.seq (.ops [q 64 (.ld true 4 (.t 9)), q 65 (.mv (.t 11)), ⟨(some 66), none, .call (.c (.func (.func 17) #[] #[])) [(.t 64), (.t 65)]⟩, q 11 (.mv (.t 66))])
 (.seq (.ops [q 12 (.mv (.c (i64 1)))])
 (.seq (.ops [q 67 (.ld true 4 (.t 9)), q 68 (.mv (.t 12)), ⟨(some 69), none, .call (.c (.func (.func 18) #[] #[])) [(.t 67), (.t 68)]⟩, q 12 (.mv (.t 69))])
 (.seq (.seq (.ops [q 70 (.mv (.t 12)), q 71 (.bin .lss (.t 70) (.c (i64 0)))])
 (.cond (.t 71) (.seq (.ops [q 4 (.mv (.c (.bool false)))])
 .ret) .skip))
 (.seq (.seq (.ops [q 72 (.mv (.t 12)), q 73 (.mv (.t 11)), q 74 (.bin .neq (.t 72) (.t 73))])
 (.cond (.t 74) (.seq (.ops [q 4 (.mv (.c (.bool false)))])
 .ret) .skip))
 (.seq (.ops [q 75 (.mv (.t 0)), ⟨(some 76), none, .call (.c (.func (.func 9) #[] #[])) [(.t 75)]⟩, q 77 (.mv (.t 1)), ⟨(some 78), none, .call (.c (.func (.func 9) #[] #[])) [(.t 77)]⟩, ⟨(some 79), none, .call (.c (.func (.func 14) #[] #[])) [(.t 76), (.t 78)]⟩, ⟨(some 13), none, .alloc [(i64 0), (str []), nils, (i64 0)]⟩, ⟨none, none, .st 4 (.t 13) (.t 79)⟩])
 (.seq (.seq (.ops [q 80 (.ld true 4 (.t 13)), q 81 (.ld true 4 (.t 6)), ⟨(some 82), none, .call (.c (.func (.func 15) #[] #[])) [(.t 80), (.t 81)]⟩, q 83 (.un .not (.t 82))])
 (.cond (.t 83) (.seq (.ops [q 4 (.mv (.c (.bool false)))])
 .ret) .skip))
 (.seq (.ops [q 12 (.mv (.c (i64 1)))])
 (.seq (.ops [q 84 (.ld true 4 (.t 9)), q 85 (.mv (.t 12)), ⟨(some 86), none, .call (.c (.func (.func 18) #[] #[])) [(.t 84), (.t 85)]⟩, q 12 (.mv (.t 86))])
 (.seq (.seq (.ops [q 87 (.mv (.t 12)), q 88 (.bin .lss (.t 87) (.c (i64 0)))])
 (.cond (.t 88) (.seq (.ops [q 4 (.mv (.c (.bool false)))])
 .ret) .skip))
 (.seq (.seq (.ops [q 89 (.mv (.t 12)), q 90 (.mv (.t 11)), q 91 (.bin .neq (.t 89) (.t 90))])
 (.cond (.t 91) (.seq (.ops [q 4 (.mv (.c (.bool false)))])
 .ret) .skip))
 (.seq (.ops [q 4 (.mv (.c (.bool true)))])
 .ret))))))))))))))))))))))))))))))
theorem w_laws_FnExactPackageOf {args : List Value} {h : H} {Q : Value → H → Prop} (hl : args.length ≤ 92) (hk : wpc Tryd.prog b_laws_FnExactPackageOf (retw [.tmp 4] Q) (argsFr args) h) : AC Tryd.prog 4 args h Q :=
  AC.of_wpc mixedOrders Tryd.func4 (by kernel_rfl) (by kernel_rfl : prepF Tryd.prog Tryd.f4 = some ⟨92, [.tmp 4], b_laws_FnExactPackageOf⟩) hl hk


set_option maxHeartbeats 1600000 in
theorem packageOf_walk {h : H} (tb : Tabs h) {va vb : Value} {l u : List (List UInt8)} (A0 : RepR h [.s 1 (strs l)] [va]) (n1 : l.length ≤ maxLen) (n2 : ∀ s ∈ l, s.length ≤ maxLen) (B0 : RepR h [.s 1 (strs u)] [vb]) (m1 : u.length ≤ maxLen) (m2 : ∀ s ∈ u, s.length ≤ maxLen) : AC Tryd.prog 4 [va, vb] h fun r _ => r = .bool true := by
  skip
  refine w_laws_FnExactPackageOf (by simp) ?_
  unfold b_laws_FnExactPackageOf
  simp -implicitDefEqProofs only [go_sem]
  refine (szStringS_pc (A0).1 n1 n2 (by omega)).use ?_
  simp -implicitDefEqProofs only [go_sem]
  refine Br.of (fun hc0 => ?_) (fun hc0 => ?_)
  · simp -implicitDefEqProofs only [go_sem, hc0]
  have sz0 := lessn_nn hc0
  simp -implicitDefEqProofs only [go_sem, hc0]
  refine (szStringS_pc (B0).1 m1 m2 (by omega)).use ?_
  simp -implicitDefEqProofs only [go_sem]
  refine Br.of (fun hc1 => ?_) (fun hc1 => ?_)
  · simp -implicitDefEqProofs only [go_sem, hc1]
  have hsm : l.length ≤ 1048576 := by omega
  have hsm2 : u.length ≤ 1048576 := by have := lessn_nn hc1; omega
  have h24 := packageOut_small l u
  have hio : (packageOut l u).1.steps.length ≤ 1048576 := by omega
  have hfin : (packageOut l u).1.fin := by unfold UPkg.fin; have := show maxLen = 9223372036854775807 from rfl; omega
  simp -implicitDefEqProofs only [go_sem, hc1]
  refine AC_of (toStringS_ac (A0).1 hsm) ?_
  rintro v_wa x1 - ⟨e1, f_wa⟩
  have T_wa := rep1 f_wa
  have D_a_wa := DjL.of (RepR.known A0) (RepF.new T_wa)
  have D_b_wa := DjL.of (RepR.known B0) (RepF.new T_wa)
  have D_tb_wa := DjL.of (RepR.known tb) (RepF.new T_wa)
  have R1_a := RepR.ext A0 e1
  have R1_b := RepR.ext B0 e1
  have R1_tb := RepR.ext tb e1
  simp -implicitDefEqProofs only [go_sem]
  refine AC_of (toStringS_ac (R1_b).1 hsm2) ?_
  rintro v_wb x2 - ⟨e2, f_wb⟩
  have T_wb := rep1 f_wb
  have D_a_wb := DjL.of (RepR.known R1_a) (RepF.new T_wb)
  have D_b_wb := DjL.of (RepR.known R1_b) (RepF.new T_wb)
  have D_tb_wb := DjL.of (RepR.known R1_tb) (RepF.new T_wb)
  have D_wa_wb := DjL.of (RepR.known T_wa.r) (RepF.new T_wb)
  have R2_a := RepR.ext R1_a e2
  have R2_b := RepR.ext R1_b e2
  have R2_tb := RepR.ext R1_tb e2
  have R2_wa := RepR.ext T_wa.r e2
  have F2_wa := RepF.ext T_wa e2
  simp -implicitDefEqProofs only [go_sem]
  refine AC_of (specPackageOf_ac (F2_wa.r).1 (T_wb.r).1 hsm hsm2) ?_
  rintro _ x3 - ⟨e3, w0, rfl, T_w0⟩
  have D_a_w0 := DjL.of (RepR.known R2_a) (RepF.new T_w0)
  have D_b_w0 := DjL.of (RepR.known R2_b) (RepF.new T_w0)
  have D_tb_w0 := DjL.of (RepR.known R2_tb) (RepF.new T_w0)
  have D_wa_w0 := DjL.of (RepR.known F2_wa.r) (RepF.new T_w0)
  have D_wb_w0 := DjL.of (RepR.known T_wb.r) (RepF.new T_w0)
  have R3_a := RepR.ext R2_a e3
  have R3_b := RepR.ext R2_b e3
  have R3_tb := RepR.ext R2_tb e3
  have R3_wa := RepR.ext F2_wa.r e3
  have R3_wb := RepR.ext T_wb.r e3
  have F3_wa := RepF.ext F2_wa e3
  have F3_wb := RepF.ext T_wb e3
  have l_w0 := T_w0.r.len
  simp only [List.length_cons, List.length_nil, Nat.reduceAdd] at l_w0
  have q_w0 := T_w0.r.one
  have t_w0 := take_len l_w0
  simp -implicitDefEqProofs only [go_sem, l_w0, q_w0, t_w0]
  intro b_w0 hb_b_w0 n_b_w0
  have nn_wa_b_w0 := F3_wa.r.known.ne n_b_w0
  have nn_wb_b_w0 := F3_wb.r.known.ne n_b_w0
  have nn_w0_b_w0 := T_w0.r.known.ne n_b_w0
  have E_b_w0 := (Ext.refl x3).set n_b_w0 ⟨w0, 4⟩
  simp -implicitDefEqProofs only [go_sem, hb_b_w0, l_w0, q_w0, t_w0]
  have R4_a := RepR.ext R3_a E_b_w0
  have R4_b := RepR.ext R3_b E_b_w0
  have R4_tb := RepR.ext R3_tb E_b_w0
  have R4_wa := RepR.ext F3_wa.r E_b_w0
  have R4_wb := RepR.ext F3_wb.r E_b_w0
  have R4_w0 := RepR.ext T_w0.r E_b_w0
  have F4_wa := RepF.ext F3_wa E_b_w0
  have F4_wb := RepF.ext F3_wb E_b_w0
  have F4_w0 := RepF.ext T_w0 E_b_w0
  have G4_b_w0 : (x3.set b_w0 ⟨w0, 4⟩).get b_w0 = some ⟨w0, 4⟩ := H.set_get_same _ _ _
  refine AC_of (toStringS_ac (R4_a).1 hsm) ?_
  rintro v_xa x4 - ⟨e4, f_xa⟩
  have T_xa := rep1 f_xa
  have nn_xa_b_w0 := RepF.new T_xa |>.ne G4_b_w0
  have D_a_xa := DjL.of (RepR.known R4_a) (RepF.new T_xa)
  have D_b_xa := DjL.of (RepR.known R4_b) (RepF.new T_xa)
  have D_tb_xa := DjL.of (RepR.known R4_tb) (RepF.new T_xa)
  have D_w0_xa := DjL.of (RepR.known F4_w0.r) (RepF.new T_xa)
  have G5_b_w0 := e4.2.g b_w0 _ G4_b_w0
  have R5_a := RepR.ext R4_a e4
  have R5_b := RepR.ext R4_b e4
  have R5_tb := RepR.ext R4_tb e4
  have R5_w0 := RepR.ext F4_w0.r e4
  have F5_w0 := RepF.ext F4_w0 e4
  simp -implicitDefEqProofs only [go_sem, ldc_get G5_b_w0, l_w0, q_w0, t_w0]
  refine AC_of (toStringS_ac (R5_b).1 hsm2) ?_
  rintro v_xb x5 - ⟨e5, f_xb⟩
  have T_xb := rep1 f_xb
  have nn_xb_b_w0 := RepF.new T_xb |>.ne G5_b_w0
  have D_a_xb := DjL.of (RepR.known R5_a) (RepF.new T_xb)
  have D_b_xb := DjL.of (RepR.known R5_b) (RepF.new T_xb)
  have D_tb_xb := DjL.of (RepR.known R5_tb) (RepF.new T_xb)
  have D_w0_xb := DjL.of (RepR.known F5_w0.r) (RepF.new T_xb)
  have D_xa_xb := DjL.of (RepR.known T_xa.r) (RepF.new T_xb)
  have G6_b_w0 := e5.2.g b_w0 _ G5_b_w0
  have R6_a := RepR.ext R5_a e5
  have R6_b := RepR.ext R5_b e5
  have R6_tb := RepR.ext R5_tb e5
  have R6_w0 := RepR.ext F5_w0.r e5
  have R6_xa := RepR.ext T_xa.r e5
  have F6_w0 := RepF.ext F5_w0 e5
  have F6_xa := RepF.ext T_xa e5
  simp -implicitDefEqProofs only [go_sem, ldc_get G6_b_w0, l_w0, q_w0, t_w0]
  refine AC_of (implPackageOf_ac R6_tb (F6_xa.r).1 (T_xb.r).1 hsm hsm2) ?_
  rintro _ x6 - ⟨e6, g0, rfl, T_g0⟩
  have nn_g0_b_w0 := RepF.new T_g0 |>.ne G6_b_w0
  have D_a_g0 := DjL.of (RepR.known R6_a) (RepF.new T_g0)
  have D_b_g0 := DjL.of (RepR.known R6_b) (RepF.new T_g0)
  have D_tb_g0 := DjL.of (RepR.known R6_tb) (RepF.new T_g0)
  have D_w0_g0 := DjL.of (RepR.known F6_w0.r) (RepF.new T_g0)
  have D_xa_g0 := DjL.of (RepR.known F6_xa.r) (RepF.new T_g0)
  have D_xb_g0 := DjL.of (RepR.known T_xb.r) (RepF.new T_g0)
  have G7_b_w0 := e6.2.g b_w0 _ G6_b_w0
  have R7_a := RepR.ext R6_a e6
  have R7_b := RepR.ext R6_b e6
  have R7_tb := RepR.ext R6_tb e6
  have R7_w0 := RepR.ext F6_w0.r e6
  have R7_xa := RepR.ext F6_xa.r e6
  have R7_xb := RepR.ext T_xb.r e6
  have F7_w0 := RepF.ext F6_w0 e6
  have F7_xa := RepF.ext F6_xa e6
  have F7_xb := RepF.ext T_xb e6
  have l_g0 := T_g0.r.len
  simp only [List.length_cons, List.length_nil, Nat.reduceAdd] at l_g0
  have q_g0 := T_g0.r.one
  have t_g0 := take_len l_g0
  simp -implicitDefEqProofs only [go_sem, ldc_get G7_b_w0, l_w0, q_w0, t_w0, l_g0, q_g0, t_g0]
  intro b_g0 hb_b_g0 n_b_g0
  have z_b_w0_b_g0 : (b_w0 = b_g0) = False := eq_false fun e => by subst e; rw [G7_b_w0] at n_b_g0; cases n_b_g0
  have nn_w0_b_g0 := F7_w0.r.known.ne n_b_g0
  have nn_xa_b_g0 := F7_xa.r.known.ne n_b_g0
  have nn_xb_b_g0 := F7_xb.r.known.ne n_b_g0
  have nn_g0_b_g0 := T_g0.r.known.ne n_b_g0
  have E_b_g0 := (Ext.refl x6).set n_b_g0 ⟨g0, 4⟩
  simp -implicitDefEqProofs only [go_sem, hb_b_g0, ldc_get G7_b_w0, z_b_w0_b_g0, l_w0, q_w0, t_w0, l_g0, q_g0, t_g0]
  have G8_b_w0 := E_b_g0.2.g b_w0 _ G7_b_w0
  have R8_a := RepR.ext R7_a E_b_g0
  have R8_b := RepR.ext R7_b E_b_g0
  have R8_tb := RepR.ext R7_tb E_b_g0
  have R8_w0 := RepR.ext F7_w0.r E_b_g0
  have R8_xa := RepR.ext F7_xa.r E_b_g0
  have R8_xb := RepR.ext F7_xb.r E_b_g0
  have R8_g0 := RepR.ext T_g0.r E_b_g0
  have F8_w0 := RepF.ext F7_w0 E_b_g0
  have F8_xa := RepF.ext F7_xa E_b_g0
  have F8_xb := RepF.ext F7_xb E_b_g0
  have F8_g0 := RepF.ext T_g0 E_b_g0
  have G8_b_g0 : (x6.set b_g0 ⟨g0, 4⟩).get b_g0 = some ⟨g0, 4⟩ := H.set_get_same _ _ _
  refine (eqPackageOut_pc F8_g0.r F8_w0.r hfin).use ?_
  simp -implicitDefEqProofs only [go_sem, ldc_get G8_b_w0, ldc_get G8_b_g0, z_b_w0_b_g0, l_w0, q_w0, t_w0, l_g0, q_g0, t_g0]
  refine AC_of (toStringS_ac (R8_a).1 hsm) ?_
  rintro v_ya x7 - ⟨e7, f_ya⟩
  have T_ya := rep1 f_ya
  have G9_b_w0 := e7.2.g b_w0 _ G8_b_w0
  have G9_b_g0 := e7.2.g b_g0 _ G8_b_g0
  have R9_a := RepR.ext R8_a e7
  have R9_b := RepR.ext R8_b e7
  have R9_tb := RepR.ext R8_tb e7
  have R9_w0 := RepR.ext F8_w0.r e7
  have R9_xa := RepR.ext F8_xa.r e7
  have R9_xb := RepR.ext F8_xb.r e7
  have R9_g0 := RepR.ext F8_g0.r e7
  have F9_w0 := RepF.ext F8_w0 e7
  have F9_xa := RepF.ext F8_xa e7
  have F9_xb := RepF.ext F8_xb e7
  have F9_g0 := RepF.ext F8_g0 e7
  simp -implicitDefEqProofs only [go_sem, e7.2, ldc_get G9_b_w0, ldc_get G9_b_g0, z_b_w0_b_g0, l_w0, q_w0, t_w0, l_g0, q_g0, t_g0]
  refine (eqStringS_pc (F9_xa.r).1 (T_ya.r).1 n1).use ?_
  simp -implicitDefEqProofs only [go_sem, e7.2, ldc_get G9_b_w0, ldc_get G9_b_g0, z_b_w0_b_g0, l_w0, q_w0, t_w0, l_g0, q_g0, t_g0]
  refine AC_of (toStringS_ac (R9_b).1 hsm2) ?_
  rintro v_yb x8 - ⟨e8, f_yb⟩
  have T_yb := rep1 f_yb
  have G10_b_w0 := e8.2.g b_w0 _ G9_b_w0
  have G10_b_g0 := e8.2.g b_g0 _ G9_b_g0
  have R10_a := RepR.ext R9_a e8
  have R10_b := RepR.ext R9_b e8
  have R10_tb := RepR.ext R9_tb e8
  have R10_w0 := RepR.ext F9_w0.r e8
  have R10_xa := RepR.ext F9_xa.r e8
  have R10_xb := RepR.ext F9_xb.r e8
  have R10_g0 := RepR.ext F9_g0.r e8
  have F10_w0 := RepF.ext F9_w0 e8
  have F10_xa := RepF.ext F9_xa e8
  have F10_xb := RepF.ext F9_xb e8
  have F10_g0 := RepF.ext F9_g0 e8
  simp -implicitDefEqProofs only [go_sem, e8.2, ldc_get G10_b_w0, ldc_get G10_b_g0, z_b_w0_b_g0, l_w0, q_w0, t_w0, l_g0, q_g0, t_g0]
  refine (eqStringS_pc (F10_xb.r).1 (T_yb.r).1 m1).use ?_
  simp -implicitDefEqProofs only [go_sem, e8.2, ldc_get G10_b_w0, ldc_get G10_b_g0, z_b_w0_b_g0, l_w0, q_w0, t_w0, l_g0, q_g0, t_g0]
  refine AC_of (markStringS_ac (F10_xa).1 (by omega) (by omega)) ?_
  rintro _ m0 - ⟨rfl, k0, M0⟩
  have k0 := keep1 k0
  have G11_b_w0 := k0.2.1 b_w0 _ nn_xa_b_w0 G10_b_w0
  have G11_b_g0 := k0.2.1 b_g0 _ nn_xa_b_g0 G10_b_g0
  have F11_w0 := RepF.keep F10_w0 k0 D_w0_xa
  have F11_xb := RepF.keep F10_xb k0 D_xa_xb.symm
  have F11_g0 := RepF.keep F10_g0 k0 D_xa_g0.symm
  have R11_a := RepR.keep R10_a k0 D_a_xa
  have R11_b := RepR.keep R10_b k0 D_b_xa
  have R11_tb := RepR.keep R10_tb k0 D_tb_xa
  simp -implicitDefEqProofs only [go_sem, show ¬ (1 + (l.length : Int) < 0) by omega, ldc_get G11_b_w0, ldc_get G11_b_g0, z_b_w0_b_g0, l_w0, q_w0, t_w0, l_g0, q_g0, t_g0]
  refine AC_of (markStringS_ac (F11_xb).1 (by omega) (by omega)) ?_
  rintro _ m1 - ⟨rfl, k1, M1⟩
  have k1 := keep1 k1
  have G12_b_w0 := k1.2.1 b_w0 _ nn_xb_b_w0 G11_b_w0
  have G12_b_g0 := k1.2.1 b_g0 _ nn_xb_b_g0 G11_b_g0
  have F12_w0 := RepF.keep F11_w0 k1 D_w0_xb
  have F12_g0 := RepF.keep F11_g0 k1 D_xb_g0.symm
  have R12_a := RepR.keep R11_a k1 D_a_xb
  have R12_b := RepR.keep R11_b k1 D_b_xb
  have R12_tb := RepR.keep R11_tb k1 D_tb_xb
  simp -implicitDefEqProofs only [go_sem, show ¬ (1 + (l.length : Int) + (u.length : Int) < 0) by omega, ldc_get G12_b_w0, ldc_get G12_b_g0, z_b_w0_b_g0, l_w0, q_w0, t_w0, l_g0, q_g0, t_g0]
  refine (eqPackageOut_pc F12_g0.r F12_w0.r hfin).use ?_
  simp -implicitDefEqProofs only [go_sem, ldc_get G12_b_w0, ldc_get G12_b_g0, z_b_w0_b_g0, l_w0, q_w0, t_w0, l_g0, q_g0, t_g0]
  refine AC_of (markPackageOut_ac F12_g0 hio (by omega)) ?_
  rintro _ mg - ⟨rfl, kg, Mg⟩
  have G13_b_w0 := kg.2.1 b_w0 _ nn_g0_b_w0 G12_b_w0
  have G13_b_g0 := kg.2.1 b_g0 _ nn_g0_b_g0 G12_b_g0
  have F13_w0 := RepF.keep F12_w0 kg D_w0_g0
  have R13_a := RepR.keep R12_a kg D_a_g0
  have R13_b := RepR.keep R12_b kg D_b_g0
  have R13_tb := RepR.keep R12_tb kg D_tb_g0
  simp -implicitDefEqProofs only [go_sem, ldc_get G13_b_w0, ldc_get G13_b_g0, z_b_w0_b_g0, l_w0, q_w0, t_w0, l_g0, q_g0, t_g0]
  refine (heldPackageOut_pc Mg hio (by omega)).use ?_
  simp -implicitDefEqProofs only [go_sem, show ¬ (1 + ((4 * (packageOut l u).1.steps.length : Nat) : Int) < 0) by omega, ldc_get G13_b_w0, ldc_get G13_b_g0, z_b_w0_b_g0, l_w0, q_w0, t_w0, l_g0, q_g0, t_g0]
  refine AC_of (toStringS_ac (R13_a).1 hsm) ?_
  rintro v_za x9 - ⟨e9, f_za⟩
  have T_za := rep1 f_za
  have nn_za_b_w0 := RepF.new T_za |>.ne G13_b_w0
  have nn_za_b_g0 := RepF.new T_za |>.ne G13_b_g0
  have D_a_za := DjL.of (RepR.known R13_a) (RepF.new T_za)
  have D_b_za := DjL.of (RepR.known R13_b) (RepF.new T_za)
  have D_tb_za := DjL.of (RepR.known R13_tb) (RepF.new T_za)
  have D_w0_za := DjL.of (RepR.known F13_w0.r) (RepF.new T_za)
  have G14_b_w0 := e9.2.g b_w0 _ G13_b_w0
  have G14_b_g0 := e9.2.g b_g0 _ G13_b_g0
  have R14_a := RepR.ext R13_a e9
  have R14_b := RepR.ext R13_b e9
  have R14_tb := RepR.ext R13_tb e9
  have R14_w0 := RepR.ext F13_w0.r e9
  have F14_w0 := RepF.ext F13_w0 e9
  have Mg := RepR.ext Mg e9
  simp -implicitDefEqProofs only [go_sem, ldc_get G14_b_w0, ldc_get G14_b_g0, z_b_w0_b_g0, l_w0, q_w0, t_w0, l_g0, q_g0, t_g0]
  refine AC_of (toStringS_ac (R14_b).1 hsm2) ?_
  rintro v_zb x10 - ⟨e10, f_zb⟩
  have T_zb := rep1 f_zb
  have nn_zb_b_w0 := RepF.new T_zb |>.ne G14_b_w0
  have nn_zb_b_g0 := RepF.new T_zb |>.ne G14_b_g0
  have D_a_zb := DjL.of (RepR.known R14_a) (RepF.new T_zb)
  have D_b_zb := DjL.of (RepR.known R14_b) (RepF.new T_zb)
  have D_tb_zb := DjL.of (RepR.known R14_tb) (RepF.new T_zb)
  have D_w0_zb := DjL.of (RepR.known F14_w0.r) (RepF.new T_zb)
  have D_za_zb := DjL.of (RepR.known T_za.r) (RepF.new T_zb)
  have G15_b_w0 := e10.2.g b_w0 _ G14_b_w0
  have G15_b_g0 := e10.2.g b_g0 _ G14_b_g0
  have R15_a := RepR.ext R14_a e10
  have R15_b := RepR.ext R14_b e10
  have R15_tb := RepR.ext R14_tb e10
  have R15_w0 := RepR.ext F14_w0.r e10
  have R15_za := RepR.ext T_za.r e10
  have F15_w0 := RepF.ext F14_w0 e10
  have F15_za := RepF.ext T_za e10
  have Mg := RepR.ext Mg e10
  simp -implicitDefEqProofs only [go_sem, ldc_get G15_b_w0, ldc_get G15_b_g0, z_b_w0_b_g0, l_w0, q_w0, t_w0, l_g0, q_g0, t_g0]
  refine AC_of (implPackageOf_ac R15_tb (F15_za.r).1 (T_zb.r).1 hsm hsm2) ?_
  rintro _ x11 - ⟨e11, j0, rfl, T_j0⟩
  have nn_j0_b_w0 := RepF.new T_j0 |>.ne G15_b_w0
  have nn_j0_b_g0 := RepF.new T_j0 |>.ne G15_b_g0
  have D_a_j0 := DjL.of (RepR.known R15_a) (RepF.new T_j0)
  have D_b_j0 := DjL.of (RepR.known R15_b) (RepF.new T_j0)
  have D_tb_j0 := DjL.of (RepR.known R15_tb) (RepF.new T_j0)
  have D_w0_j0 := DjL.of (RepR.known F15_w0.r) (RepF.new T_j0)
  have D_za_j0 := DjL.of (RepR.known F15_za.r) (RepF.new T_j0)
  have D_zb_j0 := DjL.of (RepR.known T_zb.r) (RepF.new T_j0)
  have G16_b_w0 := e11.2.g b_w0 _ G15_b_w0
  have G16_b_g0 := e11.2.g b_g0 _ G15_b_g0
  have R16_a := RepR.ext R15_a e11
  have R16_b := RepR.ext R15_b e11
  have R16_tb := RepR.ext R15_tb e11
  have R16_w0 := RepR.ext F15_w0.r e11
  have R16_za := RepR.ext F15_za.r e11
  have R16_zb := RepR.ext T_zb.r e11
  have F16_w0 := RepF.ext F15_w0 e11
  have F16_za := RepF.ext F15_za e11
  have F16_zb := RepF.ext T_zb e11
  have Mg := RepR.ext Mg e11
  have l_j0 := T_j0.r.len
  simp only [List.length_cons, List.length_nil, Nat.reduceAdd] at l_j0
  have q_j0 := T_j0.r.one
  have t_j0 := take_len l_j0
  simp -implicitDefEqProofs only [go_sem, ldc_get G16_b_w0, ldc_get G16_b_g0, z_b_w0_b_g0, l_w0, q_w0, t_w0, l_g0, q_g0, t_g0, l_j0, q_j0, t_j0]
  intro b_j0 hb_b_j0 n_b_j0
  have z_b_w0_b_j0 : (b_w0 = b_j0) = False := eq_false fun e => by subst e; rw [G16_b_w0] at n_b_j0; cases n_b_j0
  have z_b_g0_b_j0 : (b_g0 = b_j0) = False := eq_false fun e => by subst e; rw [G16_b_g0] at n_b_j0; cases n_b_j0
  have nn_w0_b_j0 := F16_w0.r.known.ne n_b_j0
  have nn_za_b_j0 := F16_za.r.known.ne n_b_j0
  have nn_zb_b_j0 := F16_zb.r.known.ne n_b_j0
  have nn_j0_b_j0 := T_j0.r.known.ne n_b_j0
  have E_b_j0 := (Ext.refl x11).set n_b_j0 ⟨j0, 4⟩
  simp -implicitDefEqProofs only [go_sem, hb_b_j0, ldc_get G16_b_w0, ldc_get G16_b_g0, z_b_w0_b_g0, z_b_w0_b_j0, z_b_g0_b_j0, l_w0, q_w0, t_w0, l_g0, q_g0, t_g0, l_j0, q_j0, t_j0]
  have G17_b_w0 := E_b_j0.2.g b_w0 _ G16_b_w0
  have G17_b_g0 := E_b_j0.2.g b_g0 _ G16_b_g0
  have R17_a := RepR.ext R16_a E_b_j0
  have R17_b := RepR.ext R16_b E_b_j0
  have R17_tb := RepR.ext R16_tb E_b_j0
  have R17_w0 := RepR.ext F16_w0.r E_b_j0
  have R17_za := RepR.ext F16_za.r E_b_j0
  have R17_zb := RepR.ext F16_zb.r E_b_j0
  have R17_j0 := RepR.ext T_j0.r E_b_j0
  have F17_w0 := RepF.ext F16_w0 E_b_j0
  have F17_za := RepF.ext F16_za E_b_j0
  have F17_zb := RepF.ext F16_zb E_b_j0
  have F17_j0 := RepF.ext T_j0 E_b_j0
  have G17_b_j0 : (x11.set b_j0 ⟨j0, 4⟩).get b_j0 = some ⟨j0, 4⟩ := H.set_get_same _ _ _
  have Mg := RepR.ext Mg E_b_j0
  refine (eqPackageOut_pc F17_j0.r F17_w0.r hfin).use ?_
  simp -implicitDefEqProofs only [go_sem, ldc_get G17_b_w0, ldc_get G17_b_g0, ldc_get G17_b_j0, z_b_w0_b_g0, z_b_w0_b_j0, z_b_g0_b_j0, l_w0, q_w0, t_w0, l_g0, q_g0, t_g0, l_j0, q_j0, t_j0]
  refine (heldPackageOut_pc Mg hio (by omega)).use ?_
  simp -implicitDefEqProofs only [go_sem, show ¬ (1 + ((4 * (packageOut l u).1.steps.length : Nat) : Int) < 0) by omega, ldc_get G17_b_w0, ldc_get G17_b_g0, ldc_get G17_b_j0, z_b_w0_b_g0, z_b_w0_b_j0, z_b_g0_b_j0, l_w0, q_w0, t_w0, l_g0, q_g0, t_g0, l_j0, q_j0, t_j0]
theorem packageOf_law (h : H) (tb : Tabs h) (args : List Value) (ha : okAs h [.one (.sl [.str]), .one (.sl [.str])] args) : AC Tryd.prog 4 args h fun r _ => r = .bool true := by
  obtain ⟨v, _, rfl, ⟨rows, hs, hf, hn⟩, a0⟩ := okAs_cons ha
  obtain ⟨v2, _, rfl, ⟨rows2, hs2, hf2, hn2⟩, a1⟩ := okAs_cons a0
  obtain rfl := okAs_nil a1
  obtain ⟨l, rfl, hok⟩ := strs_of rows hf
  obtain ⟨u, rfl, hok2⟩ := strs_of rows2 hf2
  exact packageOf_walk tb ⟨hs, trivial⟩ (by simpa using hn) hok ⟨hs2, trivial⟩ (by simpa using hn2) hok2
section
open Go.ChangeShapes Go.WideShapes Go.ChangeAt Go.RowKit
theorem fnExactPackageOf_lifted (os : Os) (started : os.Started) (H' : Type) (enc : TypeId × Value → H') : ReturnsInHanded {} Tryd.checked os 4 .any (fun w args => (Rows.fnExactPackageOfSpec.pre enc Tryd.prog Tryd.f4 [] false w args ∧ laidMetH Tryd.prog laidL w) ∧ sizedMet enc Tryd.prog Tryd.f4 (OpenSpec.ofChange Rows.fnExactPackageOfSpec) false w args) (Rows.fnExactPackageOfSpec.post enc Tryd.prog Tryd.f4 false true false false) :=
  law_row_laid (Ck := Tryd.checked) Tabs [.one (.sl [.str]), .one (.sl [.str])] (by kernel_rfl) started (by kernel_rfl) Tryd.func4
    (ChangeSpec.witness_shaped (enc := enc) (C := Tryd.checked) (os := os) (X := fun w _ => laidMetH Tryd.prog laidL w) false (World.doorLaid Tryd.prog 400 os) #[.slice none 0 0, .slice none 0 0] 8 rfl (World.shaped_of_RefB (by kernel_rfl) (by kernel_rfl)) (by kernel_rfl) (by kernel_rfl) (by kernel_rfl) (door_met os _))
    (by kernel_rfl) (by kernel_rfl) rfl (by kernel_rfl : Tryd.prog.underlying (Tryd.f4.resultTypes.getD 0 0) = some .bool) (by kernel_rfl)
    (fun ds gs hd hg => by
      rw [show Tryd.f4.params.toList.length = 2 by kernel_rfl] at hd
      match ds, hd, gs, hg with
      | [_, _], _, [_, _], _ => rfl)
    (by kernel_rfl) (fun W h => tabs_of h) packageOf_law
theorem fnExactPackageOf_said : Rows.FnExactPackageOfSaid :=
  OpenClaim.holds_of_wide 4 Tryd.f4 rfl rfl rfl rfl rfl rfl rfl ⟨rfl, rfl, rfl, rfl, rfl⟩ rfl rfl rfl rfl rfl (by kernel_rfl) Tryd.func4 (by kernel_rfl)
    (of_decide_eq_true (by kernel_rfl)) (by unfold Func.isWrapper; first | (rw [if_pos (by decide +kernel)]; kernel_rfl) | (rw [if_neg (by decide +kernel)]; exact ⟨rfl, rfl⟩))
    (fun os started H' enc _ => fnExactPackageOf_lifted os started H' enc)
theorem fnExactPackageOf_holds : Rows.FnExactPackageOfCardSaid :=
  Claim7.holds_tied_plain_at .later [] [.data, .data] true (true, "db163364eda8b6200613916752bf66abd661c5963afb8b120aa4017dd54e81d0") false
    fnExactPackageOf_said (fun _ h => by cases h) (by kernel_rfl) (fun _ h => by cases h) fnExactPackageOf_row_tie rfl ⟨rfl, rfl⟩ (by kernel_rfl) rfl
    (fun f fn hf hfn => by
      obtain rfl : f = 4 := Option.some.inj ((show Tryd.prog.funcNamed "loop.example/g00668/laws.FnExactPackageOf" = some 4 by kernel_rfl).symm.trans hf) |>.symm
      obtain rfl : fn = Tryd.f4 := (Option.some.inj (Tryd.func4.symm.trans hfn)).symm
      exact ⟨by kernel_rfl, fun j t ht => by
        have hm : t ∈ Tryd.f4.params.toList := by simpa using Array.mem_of_getElem? ht
        have hall : (Tryd.f4.params.toList.all fun u => !Tryd.prog.wantsStandIn u) = true := by kernel_rfl
        exact (show Tryd.prog.wantsStandIn t = false by simpa using List.all_eq_true.1 hall t hm)⟩)
    (by kernel_rfl)
end
end Go.Proofs.YtdofcojbjcpikaaDoor
