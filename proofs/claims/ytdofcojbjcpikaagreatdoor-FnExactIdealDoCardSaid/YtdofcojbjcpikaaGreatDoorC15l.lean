/- A helper of this seat's claims (contracts of the functions): what it shows is shown for every input that its statements name, on no other condition. -/
import Derived.Test.YtdofcojbjcpikaaGreatDoorC15k
set_option linter.unusedVariables false
set_option linter.unusedSimpArgs false
set_option maxRecDepth 100000
namespace Go.Proofs.YtdofcojbjcpikaaGreatDoor
open Go.KH

/-! ## The reference's commands on ideals -/
/-- spec.l15Do -/
def b_spec_l15Do : C := (.seq (.ops [⟨(some 2), none, .box (.t 0)⟩, ⟨(some 3), none, .box (.t 1)⟩, ⟨(some 4), none, .alloc [(i64 0), (i64 0), (i64 0), (i64 0), (i64 0), (i64 0), (str []), nils, nils, (str []), nils, (i64 0)]⟩])
 (.seq (.ops [q 6 (.ld true 9 (.t 2)), ⟨(some 7), none, .call (.c (.func (.func 119) #[] #[])) [(.t 6)]⟩, ⟨(some 5), none, .alloc [(i64 0), (i64 0), (i64 0), (i64 0), (i64 0), (i64 0), (str []), nils, nils]⟩, ⟨none, none, .st 9 (.t 5) (.t 7)⟩])
 (.seq (.seq (.ops [q 8 (.fld 0 (.t 3)), q 9 (.ld false 1 (.t 8))])
 (.block 0 (.seq (.seq (.ops [q 11 (.bin .eql (.t 9) (.c (i64 1))), q 10 (.mv (.t 11))])
 (.cond (.t 10) .skip (.seq (.ops [q 12 (.bin .eql (.t 9) (.c (i64 2))), q 10 (.mv (.t 12))])
 (.cond (.t 10) .skip (.ops [q 13 (.bin .eql (.t 9) (.c (i64 3))), q 10 (.mv (.t 13))])))))
 (.cond (.t 10) (.seq (.ops [q 14 (.ld true 9 (.t 2)), q 15 (.ld true 8 (.t 3)), ⟨(some 16), none, .call (.c (.func (.func 120) #[] #[])) [(.t 14), (.t 15)]⟩, ⟨none, none, .st 12 (.t 4) (.t 16)⟩])
 .ret) (.seq (.ops [q 18 (.bin .eql (.t 9) (.c (i64 4))), q 17 (.mv (.t 18))])
 (.cond (.t 17) (.seq (.seq (.ops [q 19 (.fld 0 (.t 2)), q 20 (.ld false 1 (.t 19)), q 21 (.bin .eql (.t 20) (.c (i64 1))), q 22 (.mv (.t 21)), qg 23 22 false (.fld 0 (.t 2)), qg 24 22 false (.ld false 1 (.t 23)), qg 25 22 false (.bin .eql (.t 24) (.c (i64 5))), q 26 (.pick (.t 22) (.c (.bool true)) (.t 25))])
 (.cond (.t 26) (.seq (.ops [q 27 (.ld true 9 (.t 2)), ⟨(some 28), none, .call (.c (.func (.func 121) #[] #[])) [(.t 27), (.c (i64 10))]⟩, ⟨none, none, .st 12 (.t 4) (.t 28)⟩])
 .ret) .skip))
 (.seq (.ops [q 29 (.ld true 9 (.t 2)), ⟨(some 30), none, .call (.c (.func (.func 122) #[] #[])) [(.t 29)]⟩, q 31 (.build [(i64 0), (i64 0), (i64 0), (i64 0), (i64 0), (i64 0), (str []), nils, nils, (str []), nils, (i64 0)] [(0, 9, (.t 30))]), ⟨none, none, .st 12 (.t 4) (.t 31)⟩])
 .ret)) (.seq (.ops [q 33 (.bin .eql (.t 9) (.c (i64 5))), q 32 (.mv (.t 33))])
 (.cond (.t 32) (.seq (.seq (.ops [q 34 (.fld 0 (.t 2)), q 35 (.ld false 1 (.t 34)), q 36 (.bin .neq (.t 35) (.c (i64 4)))])
 (.cond (.t 36) (.seq (.ops [q 37 (.ld true 9 (.t 2)), ⟨(some 38), none, .call (.c (.func (.func 121) #[] #[])) [(.t 37), (.c (i64 10))]⟩, ⟨none, none, .st 12 (.t 4) (.t 38)⟩])
 .ret) .skip))
 (.seq (.ops [q 40 (.ld true 9 (.t 2)), ⟨(some 41), none, .call (.c (.func (.func 117) #[] #[])) [(.t 40)]⟩, q 39 (.mv (.t 41)), q 42 (.ext 0 (.t 39)), q 43 (.ext 1 (.t 39)), q 44 (.ext 2 (.t 39)), q 45 (.fld 5 (.t 5)), ⟨none, none, .st 1 (.t 45) (.t 42)⟩])
 (.seq (.ops [q 46 (.fld 7 (.t 2)), q 47 (.ld false 1 (.t 46)), q 48 (.fld 8 (.t 2)), q 49 (.ld false 1 (.t 48)), ⟨(some 50), none, .call (.c (.func (.func 96) #[] #[])) [(.t 47), (.t 49)]⟩, q 51 (.fld 7 (.t 5)), ⟨none, none, .st 1 (.t 51) (.t 50)⟩])
 (.seq (.ops [q 52 (.fld 0 (.t 5)), ⟨none, none, .st 1 (.t 52) (.c (i64 5))⟩])
 (.ops [q 53 (.fld 1 (.t 5)), ⟨none, none, .st 1 (.t 53) (.c (i64 0))⟩]))))) (.seq (.ops [q 55 (.bin .eql (.t 9) (.c (i64 6))), q 54 (.mv (.t 55))])
 (.cond (.t 54) (.seq (.seq (.ops [q 56 (.fld 0 (.t 2)), q 57 (.ld false 1 (.t 56)), q 58 (.bin .neq (.t 57) (.c (i64 5)))])
 (.cond (.t 58) (.seq (.ops [q 59 (.ld true 9 (.t 2)), ⟨(some 60), none, .call (.c (.func (.func 121) #[] #[])) [(.t 59), (.c (i64 10))]⟩, ⟨none, none, .st 12 (.t 4) (.t 60)⟩])
 .ret) .skip))
 (.seq (.seq (.ops [q 61 (.fld 5 (.t 2)), q 62 (.ld false 1 (.t 61)), q 63 (.bin .eql (.t 62) (.c (i64 0)))])
 (.cond (.t 63) (.seq (.ops [q 64 (.ld true 9 (.t 2)), ⟨(some 65), none, .call (.c (.func (.func 122) #[] #[])) [(.t 64)]⟩, ⟨(some 66), none, .bsl 1 [(i64 0)] [(0, 1, (.c (i64 0)))]⟩, q 67 (.build [(i64 0), (i64 0), (i64 0), (i64 0), (i64 0), (i64 0), (str []), nils, nils, (str []), nils, (i64 0)] [(0, 9, (.t 65)), (10, 1, (.t 66))]), ⟨none, none, .st 12 (.t 4) (.t 67)⟩])
 .ret) .skip))
 (.seq (.ops [q 68 (.fld 5 (.t 2)), q 69 (.ld false 1 (.t 68)), q 70 (.bin .sub (.t 69) (.c (i64 1))), q 71 (.fld 5 (.t 5)), ⟨none, none, .st 1 (.t 71) (.t 70)⟩])
 (.seq (.ops [q 72 (.ld true 9 (.t 5)), q 73 (.fld 5 (.t 5)), q 74 (.ld false 1 (.t 73)), ⟨(some 75), none, .bsl 1 [(i64 0)] [(0, 1, (.t 74))]⟩, q 76 (.build [(i64 0), (i64 0), (i64 0), (i64 0), (i64 0), (i64 0), (str []), nils, nils, (str []), nils, (i64 0)] [(0, 9, (.t 72)), (10, 1, (.t 75))]), ⟨none, none, .st 12 (.t 4) (.t 76)⟩])
 .ret)))) (.seq (.ops [q 78 (.bin .eql (.t 9) (.c (i64 7))), q 77 (.mv (.t 78))])
 (.cond (.t 77) (.seq (.seq (.ops [q 79 (.fld 1 (.t 3)), q 80 (.ld false 1 (.t 79)), q 81 (.fld 7 (.t 2)), q 82 (.ld false 1 (.t 81)), q 83 (.len (.t 82)), q 84 (.bin .geq (.t 80) (.t 83))])
 (.cond (.t 84) (.seq (.ops [q 85 (.ld true 9 (.t 2)), ⟨(some 86), none, .call (.c (.func (.func 121) #[] #[])) [(.t 85), (.c (i64 8))]⟩, ⟨none, none, .st 12 (.t 4) (.t 86)⟩])
 .ret) .skip))
 (.seq (.dops true (.tk (q 87 (.ld true 9 (.t 5))) (.tk (q 88 (.ld true 9 (.t 2))) (.tk (q 90 (.fld 1 (.t 3))) (.tk (q 91 (.ld false 1 (.t 90))) (.sq (⟨(some 89), none, .call (.c (.func (.func 123) #[] #[])) [(.t 88)]⟩) (.tk (q 92 (.idx 1 (.t 89) (.t 91))) (.sq (q 93 (.ld false 1 (.t 92))) (.tk (q 94 (.build [(i64 0), (i64 0), (i64 0), (i64 0), (i64 0), (i64 0), (str []), nils, nils, (str []), nils, (i64 0)] [(0, 9, (.t 87)), (9, 1, (.t 93))])) (.lt (⟨none, none, .st 12 (.t 4) (.t 94)⟩) .nil))))))))))
 .ret)) (.seq (.ops [q 96 (.bin .eql (.t 9) (.c (i64 8))), q 95 (.mv (.t 96))])
 (.cond (.t 95) (.seq (.dops true (.tk (q 97 (.ld true 9 (.t 5))) (.tk (q 98 (.fld 0 (.t 2))) (.tk (q 99 (.ld false 1 (.t 98))) (.tk (q 100 (.fld 1 (.t 2))) (.tk (q 101 (.ld false 1 (.t 100))) (.tk (q 102 (.fld 8 (.t 2))) (.tk (q 103 (.ld false 1 (.t 102))) (.tk (q 104 (.len (.t 103))) (.tk (q 105 (.fld 8 (.t 2))) (.tk (q 106 (.ld false 1 (.t 105))) (.tk (q 108 (.fld 5 (.t 2))) (.tk (q 109 (.ld false 1 (.t 108))) (.tk (q 110 (.ld true 9 (.t 2))) (.sq (⟨(some 107), none, .call (.c (.func (.func 124) #[] #[])) [(.t 106)]⟩) (.sq (⟨(some 111), none, .call (.c (.func (.func 125) #[] #[])) [(.t 110)]⟩) (.sq (⟨(some 112), none, .bsl 6 [(i64 0), (i64 0), (i64 0), (i64 0), (i64 0), (i64 0)] [(0, 1, (.t 99)), (1, 1, (.t 101)), (2, 1, (.t 104)), (3, 1, (.t 107)), (4, 1, (.t 109)), (5, 1, (.t 111))]⟩) (.tk (q 113 (.build [(i64 0), (i64 0), (i64 0), (i64 0), (i64 0), (i64 0), (str []), nils, nils, (str []), nils, (i64 0)] [(0, 9, (.t 97)), (10, 1, (.t 112))])) (.lt (⟨none, none, .st 12 (.t 4) (.t 113)⟩) .nil)))))))))))))))))))
 .ret) (.seq (.ops [q 115 (.bin .eql (.t 9) (.c (i64 9))), q 114 (.mv (.t 115))])
 (.cond (.t 114) (.seq (.seq (.dops true (.tk (q 116 (.fld 1 (.t 3))) (.tk (q 117 (.ld false 1 (.t 116))) (.tk (q 118 (.ld true 9 (.t 2))) (.sq (⟨(some 119), none, .call (.c (.func (.func 125) #[] #[])) [(.t 118)]⟩) (.tk (q 120 (.bin .gtr (.t 117) (.t 119))) .nil))))))
 (.cond (.t 120) (.seq (.ops [q 121 (.ld true 9 (.t 2)), ⟨(some 122), none, .call (.c (.func (.func 121) #[] #[])) [(.t 121), (.c (i64 11))]⟩, ⟨none, none, .st 12 (.t 4) (.t 122)⟩])
 .ret) .skip))
 (.ops [q 123 (.fld 4 (.t 2)), q 124 (.ld false 1 (.t 123)), q 125 (.fld 1 (.t 3)), q 126 (.ld false 1 (.t 125)), q 127 (.bin .add (.t 124) (.t 126)), q 128 (.fld 4 (.t 5)), ⟨none, none, .st 1 (.t 128) (.t 127)⟩])) (.seq (.ops [q 130 (.bin .eql (.t 9) (.c (i64 10))), q 129 (.mv (.t 130))])
 (.cond (.t 129) (.ops [q 131 (.fld 4 (.t 5)), ⟨none, none, .st 1 (.t 131) (.c (i64 0))⟩]) (.seq (.ops [q 133 (.bin .eql (.t 9) (.c (i64 11))), q 132 (.mv (.t 133))])
 (.cond (.t 132) (.ops [q 134 (.ld true 9 (.t 2)), ⟨(some 135), none, .call (.c (.func (.func 126) #[] #[])) [(.t 134)]⟩, ⟨none, none, .st 9 (.t 5) (.t 135)⟩]) .skip))))))))))))))))))))
 (.seq (.ops [q 136 (.ld true 9 (.t 5)), q 137 (.build [(i64 0), (i64 0), (i64 0), (i64 0), (i64 0), (i64 0), (str []), nils, nils, (str []), nils, (i64 0)] [(0, 9, (.t 136))]), ⟨none, none, .st 12 (.t 4) (.t 137)⟩])
 .ret))))
theorem w_spec_l15Do {args : List Value} {h : H} {Q : Value → H → Prop} (hl : args.length ≤ 138) (hk : wpc Tryz.prog b_spec_l15Do (retw [.cell 4 true 12] Q) (argsFr args) h) : AC Tryz.prog 51 args h Q :=
  AC.of_wpc mixedOrders Tryz.func51 (by kernel_rfl) (by kernel_rfl : prepF Tryz.prog Tryz.f51 = some ⟨138, [.cell 4 true 12], b_spec_l15Do⟩) hl hk

set_option maxHeartbeats 1600000 in
theorem sdo4_ac {h : H} {cs : List Value} {i : UIdeal} {A B : Int} {dg : List UInt8} {st : UStep} (hv : RepR h (spIdeal i) cs) (hs : i.small) (hok : idealOk i) (hc : cmdOk ⟨4, A, B, dg, st⟩) : AC Tryz.prog 51 [.agg cs.toArray, .agg (UCmd.cells ⟨4, A, B, dg, st⟩).toArray] h fun r h' => SpecI h (doI i ⟨4, A, B, dg, st⟩) r h' := by
  have hv0 := hv
  obtain ⟨vb, vs, rfl, sb, ss⟩ := ideal_r.1 hv
  obtain ⟨p1, p2, p3, p4⟩ := phase_of hok
  have y1 := sb.one
  have y2 := ss.one
  skip
  unfold doI
  rw [if_neg (show ¬ ((4 : Int) = 1) by decide)]
  rw [if_neg (show ¬ ((4 : Int) = 2) by decide)]
  rw [if_neg (show ¬ ((4 : Int) = 3) by decide)]
  rw [if_pos rfl]
  refine w_spec_l15Do (by simp) ?_
  unfold b_spec_l15Do
  simp -implicitDefEqProofs only [go_sem, y1, y2]
  intro b2 hb_b2 n_b2
  simp -implicitDefEqProofs only [go_sem, y1, y2, hb_b2]
  intro b3 hb_b3 m0_b3
  obtain ⟨z_b3_b2, y_b3_b2, n_b3⟩ := fne m0_b3
  simp only [H.set_base] at hb_b3
  simp -implicitDefEqProofs only [go_sem, y1, y2, hb_b2, hb_b3, z_b3_b2, y_b3_b2]
  intro b4 hb_b4 m0_b4
  obtain ⟨z_b4_b3, y_b4_b3, m1_b4⟩ := fne m0_b4
  obtain ⟨z_b4_b2, y_b4_b2, n_b4⟩ := fne m1_b4
  simp only [H.set_base] at hb_b4
  simp -implicitDefEqProofs only [go_sem, y1, y2, hb_b2, hb_b3, z_b3_b2, y_b3_b2, hb_b4, z_b4_b3, y_b4_b3, z_b4_b2, y_b4_b2]
  have EA : Ext h (((h.set b2 ⟨i.cells vb vs, 9⟩).set b3 ⟨(UCmd.cells ⟨4, A, B, dg, st⟩), 8⟩).set b4 ⟨[i64 0, i64 0, i64 0, i64 0, i64 0, i64 0, str [], nils, nils, str [], nils, i64 0], 12⟩) := ((((Ext.refl _).set' n_b2 _).set' n_b3 _).set' n_b4 _)
  have n4h : h.get b4 = none := by assumption
  have gA4 : (((h.set b2 ⟨i.cells vb vs, 9⟩).set b3 ⟨(UCmd.cells ⟨4, A, B, dg, st⟩), 8⟩).set b4 ⟨[i64 0, i64 0, i64 0, i64 0, i64 0, i64 0, str [], nils, nils, str [], nils, i64 0], 12⟩).get b4 = some ⟨[i64 0, i64 0, i64 0, i64 0, i64 0, i64 0, str [], nils, nils, str [], nils, i64 0], 12⟩ := H.set_get_same _ _ _
  have gA3 : (((h.set b2 ⟨i.cells vb vs, 9⟩).set b3 ⟨(UCmd.cells ⟨4, A, B, dg, st⟩), 8⟩).set b4 ⟨[i64 0, i64 0, i64 0, i64 0, i64 0, i64 0, str [], nils, nils, str [], nils, i64 0], 12⟩).get b3 = some ⟨(UCmd.cells ⟨4, A, B, dg, st⟩), 8⟩ := by simp -implicitDefEqProofs only [go_sem, y1, y2, hb_b2, hb_b3, z_b3_b2, y_b3_b2, hb_b4, z_b4_b3, y_b4_b3, z_b4_b2, y_b4_b2]
  have gA2 : (((h.set b2 ⟨i.cells vb vs, 9⟩).set b3 ⟨(UCmd.cells ⟨4, A, B, dg, st⟩), 8⟩).set b4 ⟨[i64 0, i64 0, i64 0, i64 0, i64 0, i64 0, str [], nils, nils, str [], nils, i64 0], 12⟩).get b2 = some ⟨i.cells vb vs, 9⟩ := by simp -implicitDefEqProofs only [go_sem, y1, y2, hb_b2, hb_b3, z_b3_b2, y_b3_b2, hb_b4, z_b4_b3, y_b4_b3, z_b4_b2, y_b4_b2]
  have bA4 : (((h.set b2 ⟨i.cells vb vs, 9⟩).set b3 ⟨(UCmd.cells ⟨4, A, B, dg, st⟩), 8⟩).set b4 ⟨[i64 0, i64 0, i64 0, i64 0, i64 0, i64 0, str [], nils, nils, str [], nils, i64 0], 12⟩).base ≤ b4 := by rw [EA.1]; exact hb_b4
  generalize (((h.set b2 ⟨i.cells vb vs, 9⟩).set b3 ⟨(UCmd.cells ⟨4, A, B, dg, st⟩), 8⟩).set b4 ⟨[i64 0, i64 0, i64 0, i64 0, i64 0, i64 0, str [], nils, nils, str [], nils, i64 0], 12⟩) = hA at *
  skip
  refine AC_of (l15CopyO_ac (hv0.ext EA) hs) ?_
  rintro _ h1 - ⟨e1, ub, us, rfl, F1, F2, d⟩
  have v1 := F1.sl.one
  have v2 := F2.sl.one
  have v3 := F1.sl.vcl
  have v4 := F2.sl.vcl
  skip
  simp -implicitDefEqProofs only [go_sem, y1, y2, v1, v2, v3, v4]
  intro b5 hb5 n5
  have z52 : (b2 = b5) = False := eq_false fun e => by subst e; rw [e1.2.g _ _ gA2] at n5; cases n5
  have z53 : (b3 = b5) = False := eq_false fun e => by subst e; rw [e1.2.g _ _ gA3] at n5; cases n5
  have z54 : (b4 = b5) = False := eq_false fun e => by subst e; rw [e1.2.g _ _ gA4] at n5; cases n5
  have y52 : (b5 = b2) = False := eq_false fun e => (of_eq_false z52) e.symm
  have y53 : (b5 = b3) = False := eq_false fun e => (of_eq_false z53) e.symm
  have y54 : (b5 = b4) = False := eq_false fun e => (of_eq_false z54) e.symm
  have k5 : BoxI hA (h1.set b5 ⟨i.cells ub us, 9⟩) b5 i ub us := ⟨e1.set n5 _, e1.none n5, H.set_get_same _ _ _, by rw [H.set_base]; exact hb5, F1.ext ((Ext.refl _).set n5 _), F2.ext ((Ext.refl _).set n5 _), d, fun e => F1.known b5 e n5, fun e => by obtain ⟨_, _, z, hg⟩ := F2.ob_new e; rw [n5] at hg; cases hg⟩
  have e5 := e1.set n5 ⟨i.cells ub us, 9⟩
  have Q3 := fun o n => ldc_get (e1.2.g b3 _ gA3) o n
  have Q2 := fun o n => ldc_get (e1.2.g b2 _ gA2) o n
  simp -implicitDefEqProofs only [go_sem, hb5, z53, z52, y53, y52, Q3, Q2, y1, y2, v1, v2, v3, v4]
  clear Q3 Q2
  generalize h1.set b5 ⟨i.cells ub us, 9⟩ = hB at *
  have EB := EA.trans e5
  have g2 := e5.2.g b2 _ gA2
  have g3 := e5.2.g b3 _ gA3
  have g4 := e5.2.g b4 _ gA4
  have hb4B : hB.base ≤ b4 := by rw [e5.1]; exact bA4
  have G2 := fun o n => ldc_get g2 o n
  have G3 := fun o n => ldc_get g3 o n
  have G4 := fun o n => ldc_get g4 o n
  have S4 := fun o n cs => stc_get g4 o n cs
  have G5 := fun o n => ldc_get k5.g o n
  have S5 := fun o n cs => stc_get k5.g o n cs
  have H5 := k5.hb
  skip
  try simp -implicitDefEqProofs only [go_sem, y1, y2, v1, v2, v3, v4, z52, z53, z54, y52, y53, y54, hb4B, G2, G3, G4, S4, G5, S5, H5]
  by_cases q1 : i.phase = 1
  · rw [if_pos (.inl q1)]
    simp -implicitDefEqProofs only [go_sem, eq_true q1, y1, y2, v1, v2, v3, v4, z52, z53, z54, y52, y53, y54, hb4B, G2, G3, G4, S4, G5, S5, H5]
    refine AC_of (l15Fail_ac (n := 10) (hv0.ext EB) hs) ?_
    rintro _ h6 - ⟨e6, cs6, rfl, f6⟩
    have l6 := f6.r.len
    simp only [List.length_cons, List.length_nil, Nat.reduceAdd] at l6
    have t6 := take_len l6
    have o6 := f6.r.one
    have g6 := e6.2.g b4 _ g4
    have hb6 : h6.base ≤ b4 := by rw [e6.1]; exact hb4B
    simp -implicitDefEqProofs only [go_sem, ldc_get g6, stc_get g6, hb6, l6, t6, o6, y1, y2, v1, v2, v3, v4, z52, z53, z54, y52, y53, y54, hb4B, G2, G3, G4, S4, G5, S5, H5]
    exact spec_fin EA n4h gA4 e5 e6 f6 _
  by_cases q2 : i.phase = 5
  · rw [if_pos (.inr q2)]
    simp -implicitDefEqProofs only [go_sem, eq_false q1, eq_true q2, y1, y2, v1, v2, v3, v4, z52, z53, z54, y52, y53, y54, hb4B, G2, G3, G4, S4, G5, S5, H5]
    refine AC_of (l15Fail_ac (n := 10) (hv0.ext EB) hs) ?_
    rintro _ h6 - ⟨e6, cs6, rfl, f6⟩
    have l6 := f6.r.len
    simp only [List.length_cons, List.length_nil, Nat.reduceAdd] at l6
    have t6 := take_len l6
    have o6 := f6.r.one
    have g6 := e6.2.g b4 _ g4
    have hb6 : h6.base ≤ b4 := by rw [e6.1]; exact hb4B
    simp -implicitDefEqProofs only [go_sem, ldc_get g6, stc_get g6, hb6, l6, t6, o6, y1, y2, v1, v2, v3, v4, z52, z53, z54, y52, y53, y54, hb4B, G2, G3, G4, S4, G5, S5, H5]
    exact spec_fin EA n4h gA4 e5 e6 f6 _
  rw [if_neg (fun e => e.elim q1 q2)]
  simp -implicitDefEqProofs only [go_sem, q1, q2, y1, y2, v1, v2, v3, v4, z52, z53, z54, y52, y53, y54, hb4B, G2, G3, G4, S4, G5, S5, H5]
  refine AC_of (l15Idle_ac (hv0.ext EB) hs) ?_
  rintro _ h6 - ⟨e6, cs6, rfl, f6⟩
  obtain ⟨ua, ue, rfl, I1, I2, I3⟩ := ideal_f.1 f6
  have w1 := I1.sl.one
  have w2 := I2.sl.one
  have w3 := I1.sl.vcl
  have w4 := I2.sl.vcl
  have g6 := e6.2.g b4 _ g4
  have hb6 : h6.base ≤ b4 := by rw [e6.1]; exact hb4B
  simp -implicitDefEqProofs only [go_sem, ldc_get g6, stc_get g6, hb6, w1, w2, w3, w4, y1, y2, v1, v2, v3, v4, z52, z53, z54, y52, y53, y54, hb4B, G2, G3, G4, S4, G5, S5, H5]
  exact spec_fin EA n4h gA4 e5 e6 (out_nil (j := idleOf i) (t := []) (n := 0) I1 I2 I3) _
  skip
set_option maxHeartbeats 1600000 in
theorem sdo5_ac {h : H} {cs : List Value} {i : UIdeal} {A B : Int} {dg : List UInt8} {st : UStep} (hv : RepR h (spIdeal i) cs) (hs : i.small) (hok : idealOk i) (hc : cmdOk ⟨5, A, B, dg, st⟩) : AC Tryz.prog 51 [.agg cs.toArray, .agg (UCmd.cells ⟨5, A, B, dg, st⟩).toArray] h fun r h' => SpecI h (doI i ⟨5, A, B, dg, st⟩) r h' := by
  have hv0 := hv
  obtain ⟨vb, vs, rfl, sb, ss⟩ := ideal_r.1 hv
  obtain ⟨p1, p2, p3, p4⟩ := phase_of hok
  have y1 := sb.one
  have y2 := ss.one
  skip
  unfold doI
  rw [if_neg (show ¬ ((5 : Int) = 1) by decide)]
  rw [if_neg (show ¬ ((5 : Int) = 2) by decide)]
  rw [if_neg (show ¬ ((5 : Int) = 3) by decide)]
  rw [if_neg (show ¬ ((5 : Int) = 4) by decide)]
  rw [if_pos rfl]
  refine w_spec_l15Do (by simp) ?_
  unfold b_spec_l15Do
  simp -implicitDefEqProofs only [go_sem, y1, y2]
  intro b2 hb_b2 n_b2
  simp -implicitDefEqProofs only [go_sem, y1, y2, hb_b2]
  intro b3 hb_b3 m0_b3
  obtain ⟨z_b3_b2, y_b3_b2, n_b3⟩ := fne m0_b3
  simp only [H.set_base] at hb_b3
  simp -implicitDefEqProofs only [go_sem, y1, y2, hb_b2, hb_b3, z_b3_b2, y_b3_b2]
  intro b4 hb_b4 m0_b4
  obtain ⟨z_b4_b3, y_b4_b3, m1_b4⟩ := fne m0_b4
  obtain ⟨z_b4_b2, y_b4_b2, n_b4⟩ := fne m1_b4
  simp only [H.set_base] at hb_b4
  simp -implicitDefEqProofs only [go_sem, y1, y2, hb_b2, hb_b3, z_b3_b2, y_b3_b2, hb_b4, z_b4_b3, y_b4_b3, z_b4_b2, y_b4_b2]
  have EA : Ext h (((h.set b2 ⟨i.cells vb vs, 9⟩).set b3 ⟨(UCmd.cells ⟨5, A, B, dg, st⟩), 8⟩).set b4 ⟨[i64 0, i64 0, i64 0, i64 0, i64 0, i64 0, str [], nils, nils, str [], nils, i64 0], 12⟩) := ((((Ext.refl _).set' n_b2 _).set' n_b3 _).set' n_b4 _)
  have n4h : h.get b4 = none := by assumption
  have gA4 : (((h.set b2 ⟨i.cells vb vs, 9⟩).set b3 ⟨(UCmd.cells ⟨5, A, B, dg, st⟩), 8⟩).set b4 ⟨[i64 0, i64 0, i64 0, i64 0, i64 0, i64 0, str [], nils, nils, str [], nils, i64 0], 12⟩).get b4 = some ⟨[i64 0, i64 0, i64 0, i64 0, i64 0, i64 0, str [], nils, nils, str [], nils, i64 0], 12⟩ := H.set_get_same _ _ _
  have gA3 : (((h.set b2 ⟨i.cells vb vs, 9⟩).set b3 ⟨(UCmd.cells ⟨5, A, B, dg, st⟩), 8⟩).set b4 ⟨[i64 0, i64 0, i64 0, i64 0, i64 0, i64 0, str [], nils, nils, str [], nils, i64 0], 12⟩).get b3 = some ⟨(UCmd.cells ⟨5, A, B, dg, st⟩), 8⟩ := by simp -implicitDefEqProofs only [go_sem, y1, y2, hb_b2, hb_b3, z_b3_b2, y_b3_b2, hb_b4, z_b4_b3, y_b4_b3, z_b4_b2, y_b4_b2]
  have gA2 : (((h.set b2 ⟨i.cells vb vs, 9⟩).set b3 ⟨(UCmd.cells ⟨5, A, B, dg, st⟩), 8⟩).set b4 ⟨[i64 0, i64 0, i64 0, i64 0, i64 0, i64 0, str [], nils, nils, str [], nils, i64 0], 12⟩).get b2 = some ⟨i.cells vb vs, 9⟩ := by simp -implicitDefEqProofs only [go_sem, y1, y2, hb_b2, hb_b3, z_b3_b2, y_b3_b2, hb_b4, z_b4_b3, y_b4_b3, z_b4_b2, y_b4_b2]
  have bA4 : (((h.set b2 ⟨i.cells vb vs, 9⟩).set b3 ⟨(UCmd.cells ⟨5, A, B, dg, st⟩), 8⟩).set b4 ⟨[i64 0, i64 0, i64 0, i64 0, i64 0, i64 0, str [], nils, nils, str [], nils, i64 0], 12⟩).base ≤ b4 := by rw [EA.1]; exact hb_b4
  generalize (((h.set b2 ⟨i.cells vb vs, 9⟩).set b3 ⟨(UCmd.cells ⟨5, A, B, dg, st⟩), 8⟩).set b4 ⟨[i64 0, i64 0, i64 0, i64 0, i64 0, i64 0, str [], nils, nils, str [], nils, i64 0], 12⟩) = hA at *
  skip
  refine AC_of (l15CopyO_ac (hv0.ext EA) hs) ?_
  rintro _ h1 - ⟨e1, ub, us, rfl, F1, F2, d⟩
  have v1 := F1.sl.one
  have v2 := F2.sl.one
  have v3 := F1.sl.vcl
  have v4 := F2.sl.vcl
  skip
  simp -implicitDefEqProofs only [go_sem, y1, y2, v1, v2, v3, v4]
  intro b5 hb5 n5
  have z52 : (b2 = b5) = False := eq_false fun e => by subst e; rw [e1.2.g _ _ gA2] at n5; cases n5
  have z53 : (b3 = b5) = False := eq_false fun e => by subst e; rw [e1.2.g _ _ gA3] at n5; cases n5
  have z54 : (b4 = b5) = False := eq_false fun e => by subst e; rw [e1.2.g _ _ gA4] at n5; cases n5
  have y52 : (b5 = b2) = False := eq_false fun e => (of_eq_false z52) e.symm
  have y53 : (b5 = b3) = False := eq_false fun e => (of_eq_false z53) e.symm
  have y54 : (b5 = b4) = False := eq_false fun e => (of_eq_false z54) e.symm
  have k5 : BoxI hA (h1.set b5 ⟨i.cells ub us, 9⟩) b5 i ub us := ⟨e1.set n5 _, e1.none n5, H.set_get_same _ _ _, by rw [H.set_base]; exact hb5, F1.ext ((Ext.refl _).set n5 _), F2.ext ((Ext.refl _).set n5 _), d, fun e => F1.known b5 e n5, fun e => by obtain ⟨_, _, z, hg⟩ := F2.ob_new e; rw [n5] at hg; cases hg⟩
  have e5 := e1.set n5 ⟨i.cells ub us, 9⟩
  have Q3 := fun o n => ldc_get (e1.2.g b3 _ gA3) o n
  have Q2 := fun o n => ldc_get (e1.2.g b2 _ gA2) o n
  simp -implicitDefEqProofs only [go_sem, hb5, z53, z52, y53, y52, Q3, Q2, y1, y2, v1, v2, v3, v4]
  clear Q3 Q2
  generalize h1.set b5 ⟨i.cells ub us, 9⟩ = hB at *
  have EB := EA.trans e5
  have g2 := e5.2.g b2 _ gA2
  have g3 := e5.2.g b3 _ gA3
  have g4 := e5.2.g b4 _ gA4
  have hb4B : hB.base ≤ b4 := by rw [e5.1]; exact bA4
  have G2 := fun o n => ldc_get g2 o n
  have G3 := fun o n => ldc_get g3 o n
  have G4 := fun o n => ldc_get g4 o n
  have S4 := fun o n cs => stc_get g4 o n cs
  have G5 := fun o n => ldc_get k5.g o n
  have S5 := fun o n cs => stc_get k5.g o n cs
  have H5 := k5.hb
  skip
  try simp -implicitDefEqProofs only [go_sem, y1, y2, v1, v2, v3, v4, z52, z53, z54, y52, y53, y54, hb4B, G2, G3, G4, S4, G5, S5, H5]
  by_cases q1 : i.phase = 4
  rotate_left
  · rw [if_pos q1]
    simp -implicitDefEqProofs only [go_sem, q1, y1, y2, v1, v2, v3, v4, z52, z53, z54, y52, y53, y54, hb4B, G2, G3, G4, S4, G5, S5, H5]
    refine AC_of (l15Fail_ac (n := 10) (hv0.ext EB) hs) ?_
    rintro _ h6 - ⟨e6, cs6, rfl, f6⟩
    have l6 := f6.r.len
    simp only [List.length_cons, List.length_nil, Nat.reduceAdd] at l6
    have t6 := take_len l6
    have o6 := f6.r.one
    have g6 := e6.2.g b4 _ g4
    have hb6 : h6.base ≤ b4 := by rw [e6.1]; exact hb4B
    simp -implicitDefEqProofs only [go_sem, ldc_get g6, stc_get g6, hb6, l6, t6, o6, y1, y2, v1, v2, v3, v4, z52, z53, z54, y52, y53, y54, hb4B, G2, G3, G4, S4, G5, S5, H5]
    exact spec_fin EA n4h gA4 e5 e6 f6 _
  rw [if_neg (fun e => e q1)]
  simp -implicitDefEqProofs only [go_sem, eq_true q1, y1, y2, v1, v2, v3, v4, z52, z53, z54, y52, y53, y54, hb4B, G2, G3, G4, S4, G5, S5, H5]
  refine (l15Moves_pc (hv0.ext EB) hs).use ?_
  rw [planOf_ok (idealOk_code hok)]
  have k6 := k5.put { i with left := (idealMv i).length } rfl rfl
  have n5h : h.get b5 = none := EA.none k5.nb
  have E6 : Ext h (hB.set b5 ⟨({ i with left := (idealMv i).length } : UIdeal).cells ub us, 9⟩) := EB.set' n5h _
  have g46 : (hB.set b5 ⟨({ i with left := (idealMv i).length } : UIdeal).cells ub us, 9⟩).get b4 = _ := (H.set_get_ne _ _ _ _ (of_eq_false z54)).trans g4
  simp -implicitDefEqProofs only [go_sem, y1, y2, v1, v2, v3, v4, z52, z53, z54, y52, y53, y54, hb4B, G2, G3, G4, S4, G5, S5, H5]
  have hcz := code_zero (idealOk_code hok)
  have h20 := hcz.1.1
  refine AC_of (l07Apply_ac (sb.ext E6) (ss.ext E6) hok.2.1 (by omega) (fun s hs => hcz.1.2.2 s hs)) ?_
  rintro va h7 - ⟨e7, f7⟩
  have k7 := k6.ext e7
  have k8 := k7.setBase (f7.back k6.e) (Dj.of k6.f2.fre.known f7.new).symm (fun e => by have := f7.new b5 e; rw [k6.g] at this; cases this)
  have k9 := k8.put { i with base := applyB i.base i.steps, phase := 5, tries := 0, left := (idealMv i).length } rfl rfl
  rw [H.set_set] at k9
  have g47 := e7.2.g b4 _ g46
  have hb47 : h7.base ≤ b4 := by rw [e7.1]; simp only [H.set_base]; exact hb4B
  have w1 := f7.sl.one
  have w2 := f7.sl.vcl
  simp -implicitDefEqProofs only [go_sem, ldc_get k7.g, stc_get k7.g, k7.hb, ldc_get g47, stc_get g47, hb47, w1, w2, y1, y2, v1, v2, v3, v4, z52, z53, z54, y52, y53, y54, hb4B, G2, G3, G4, S4, G5, S5, H5]
  exact spec_box2 (of_eq_false z54) EA n4h gA4 k9.e (k9.out [] 0) _
  skip
set_option maxHeartbeats 1600000 in
theorem sdo6_ac {h : H} {cs : List Value} {i : UIdeal} {A B : Int} {dg : List UInt8} {st : UStep} (hv : RepR h (spIdeal i) cs) (hs : i.small) (hok : idealOk i) (hc : cmdOk ⟨6, A, B, dg, st⟩) : AC Tryz.prog 51 [.agg cs.toArray, .agg (UCmd.cells ⟨6, A, B, dg, st⟩).toArray] h fun r h' => SpecI h (doI i ⟨6, A, B, dg, st⟩) r h' := by
  have hv0 := hv
  obtain ⟨vb, vs, rfl, sb, ss⟩ := ideal_r.1 hv
  obtain ⟨p1, p2, p3, p4⟩ := phase_of hok
  have y1 := sb.one
  have y2 := ss.one
  skip
  unfold doI
  rw [if_neg (show ¬ ((6 : Int) = 1) by decide)]
  rw [if_neg (show ¬ ((6 : Int) = 2) by decide)]
  rw [if_neg (show ¬ ((6 : Int) = 3) by decide)]
  rw [if_neg (show ¬ ((6 : Int) = 4) by decide)]
  rw [if_neg (show ¬ ((6 : Int) = 5) by decide)]
  rw [if_pos rfl]
  refine w_spec_l15Do (by simp) ?_
  unfold b_spec_l15Do
  simp -implicitDefEqProofs only [go_sem, y1, y2]
  intro b2 hb_b2 n_b2
  simp -implicitDefEqProofs only [go_sem, y1, y2, hb_b2]
  intro b3 hb_b3 m0_b3
  obtain ⟨z_b3_b2, y_b3_b2, n_b3⟩ := fne m0_b3
  simp only [H.set_base] at hb_b3
  simp -implicitDefEqProofs only [go_sem, y1, y2, hb_b2, hb_b3, z_b3_b2, y_b3_b2]
  intro b4 hb_b4 m0_b4
  obtain ⟨z_b4_b3, y_b4_b3, m1_b4⟩ := fne m0_b4
  obtain ⟨z_b4_b2, y_b4_b2, n_b4⟩ := fne m1_b4
  simp only [H.set_base] at hb_b4
  simp -implicitDefEqProofs only [go_sem, y1, y2, hb_b2, hb_b3, z_b3_b2, y_b3_b2, hb_b4, z_b4_b3, y_b4_b3, z_b4_b2, y_b4_b2]
  have EA : Ext h (((h.set b2 ⟨i.cells vb vs, 9⟩).set b3 ⟨(UCmd.cells ⟨6, A, B, dg, st⟩), 8⟩).set b4 ⟨[i64 0, i64 0, i64 0, i64 0, i64 0, i64 0, str [], nils, nils, str [], nils, i64 0], 12⟩) := ((((Ext.refl _).set' n_b2 _).set' n_b3 _).set' n_b4 _)
  have n4h : h.get b4 = none := by assumption
  have gA4 : (((h.set b2 ⟨i.cells vb vs, 9⟩).set b3 ⟨(UCmd.cells ⟨6, A, B, dg, st⟩), 8⟩).set b4 ⟨[i64 0, i64 0, i64 0, i64 0, i64 0, i64 0, str [], nils, nils, str [], nils, i64 0], 12⟩).get b4 = some ⟨[i64 0, i64 0, i64 0, i64 0, i64 0, i64 0, str [], nils, nils, str [], nils, i64 0], 12⟩ := H.set_get_same _ _ _
  have gA3 : (((h.set b2 ⟨i.cells vb vs, 9⟩).set b3 ⟨(UCmd.cells ⟨6, A, B, dg, st⟩), 8⟩).set b4 ⟨[i64 0, i64 0, i64 0, i64 0, i64 0, i64 0, str [], nils, nils, str [], nils, i64 0], 12⟩).get b3 = some ⟨(UCmd.cells ⟨6, A, B, dg, st⟩), 8⟩ := by simp -implicitDefEqProofs only [go_sem, y1, y2, hb_b2, hb_b3, z_b3_b2, y_b3_b2, hb_b4, z_b4_b3, y_b4_b3, z_b4_b2, y_b4_b2]
  have gA2 : (((h.set b2 ⟨i.cells vb vs, 9⟩).set b3 ⟨(UCmd.cells ⟨6, A, B, dg, st⟩), 8⟩).set b4 ⟨[i64 0, i64 0, i64 0, i64 0, i64 0, i64 0, str [], nils, nils, str [], nils, i64 0], 12⟩).get b2 = some ⟨i.cells vb vs, 9⟩ := by simp -implicitDefEqProofs only [go_sem, y1, y2, hb_b2, hb_b3, z_b3_b2, y_b3_b2, hb_b4, z_b4_b3, y_b4_b3, z_b4_b2, y_b4_b2]
  have bA4 : (((h.set b2 ⟨i.cells vb vs, 9⟩).set b3 ⟨(UCmd.cells ⟨6, A, B, dg, st⟩), 8⟩).set b4 ⟨[i64 0, i64 0, i64 0, i64 0, i64 0, i64 0, str [], nils, nils, str [], nils, i64 0], 12⟩).base ≤ b4 := by rw [EA.1]; exact hb_b4
  generalize (((h.set b2 ⟨i.cells vb vs, 9⟩).set b3 ⟨(UCmd.cells ⟨6, A, B, dg, st⟩), 8⟩).set b4 ⟨[i64 0, i64 0, i64 0, i64 0, i64 0, i64 0, str [], nils, nils, str [], nils, i64 0], 12⟩) = hA at *
  skip
  refine AC_of (l15CopyO_ac (hv0.ext EA) hs) ?_
  rintro _ h1 - ⟨e1, ub, us, rfl, F1, F2, d⟩
  have v1 := F1.sl.one
  have v2 := F2.sl.one
  have v3 := F1.sl.vcl
  have v4 := F2.sl.vcl
  skip
  simp -implicitDefEqProofs only [go_sem, y1, y2, v1, v2, v3, v4]
  intro b5 hb5 n5
  have z52 : (b2 = b5) = False := eq_false fun e => by subst e; rw [e1.2.g _ _ gA2] at n5; cases n5
  have z53 : (b3 = b5) = False := eq_false fun e => by subst e; rw [e1.2.g _ _ gA3] at n5; cases n5
  have z54 : (b4 = b5) = False := eq_false fun e => by subst e; rw [e1.2.g _ _ gA4] at n5; cases n5
  have y52 : (b5 = b2) = False := eq_false fun e => (of_eq_false z52) e.symm
  have y53 : (b5 = b3) = False := eq_false fun e => (of_eq_false z53) e.symm
  have y54 : (b5 = b4) = False := eq_false fun e => (of_eq_false z54) e.symm
  have k5 : BoxI hA (h1.set b5 ⟨i.cells ub us, 9⟩) b5 i ub us := ⟨e1.set n5 _, e1.none n5, H.set_get_same _ _ _, by rw [H.set_base]; exact hb5, F1.ext ((Ext.refl _).set n5 _), F2.ext ((Ext.refl _).set n5 _), d, fun e => F1.known b5 e n5, fun e => by obtain ⟨_, _, z, hg⟩ := F2.ob_new e; rw [n5] at hg; cases hg⟩
  have e5 := e1.set n5 ⟨i.cells ub us, 9⟩
  have Q3 := fun o n => ldc_get (e1.2.g b3 _ gA3) o n
  have Q2 := fun o n => ldc_get (e1.2.g b2 _ gA2) o n
  simp -implicitDefEqProofs only [go_sem, hb5, z53, z52, y53, y52, Q3, Q2, y1, y2, v1, v2, v3, v4]
  clear Q3 Q2
  generalize h1.set b5 ⟨i.cells ub us, 9⟩ = hB at *
  have EB := EA.trans e5
  have g2 := e5.2.g b2 _ gA2
  have g3 := e5.2.g b3 _ gA3
  have g4 := e5.2.g b4 _ gA4
  have hb4B : hB.base ≤ b4 := by rw [e5.1]; exact bA4
  have G2 := fun o n => ldc_get g2 o n
  have G3 := fun o n => ldc_get g3 o n
  have G4 := fun o n => ldc_get g4 o n
  have S4 := fun o n cs => stc_get g4 o n cs
  have G5 := fun o n => ldc_get k5.g o n
  have S5 := fun o n cs => stc_get k5.g o n cs
  have H5 := k5.hb
  skip
  try simp -implicitDefEqProofs only [go_sem, y1, y2, v1, v2, v3, v4, z52, z53, z54, y52, y53, y54, hb4B, G2, G3, G4, S4, G5, S5, H5]
  by_cases q1 : i.phase = 5
  rotate_left
  · rw [if_pos q1]
    simp -implicitDefEqProofs only [go_sem, q1, y1, y2, v1, v2, v3, v4, z52, z53, z54, y52, y53, y54, hb4B, G2, G3, G4, S4, G5, S5, H5]
    refine AC_of (l15Fail_ac (n := 10) (hv0.ext EB) hs) ?_
    rintro _ h6 - ⟨e6, cs6, rfl, f6⟩
    have l6 := f6.r.len
    simp only [List.length_cons, List.length_nil, Nat.reduceAdd] at l6
    have t6 := take_len l6
    have o6 := f6.r.one
    have g6 := e6.2.g b4 _ g4
    have hb6 : h6.base ≤ b4 := by rw [e6.1]; exact hb4B
    simp -implicitDefEqProofs only [go_sem, ldc_get g6, stc_get g6, hb6, l6, t6, o6, y1, y2, v1, v2, v3, v4, z52, z53, z54, y52, y53, y54, hb4B, G2, G3, G4, S4, G5, S5, H5]
    exact spec_fin EA n4h gA4 e5 e6 f6 _
  rw [if_neg (fun e => e q1)]
  by_cases q2 : i.left = 0
  · rw [if_pos q2]
    simp -implicitDefEqProofs only [go_sem, eq_true q1, eq_true q2, y1, y2, v1, v2, v3, v4, z52, z53, z54, y52, y53, y54, hb4B, G2, G3, G4, S4, G5, S5, H5]
    refine AC_of (l15Idle_ac (hv0.ext EB) hs) ?_
    rintro _ h6 - ⟨e6, cs6, rfl, f6⟩
    obtain ⟨ua, ue, rfl, I1, I2, I3⟩ := ideal_f.1 f6
    have w1 := I1.sl.one
    have w2 := I2.sl.one
    have w3 := I1.sl.vcl
    have w4 := I2.sl.vcl
    have g6 := e6.2.g b4 _ g4
    have hb6 : h6.base ≤ b4 := by rw [e6.1]; exact hb4B
    simp -implicitDefEqProofs only [go_sem, ldc_get g6, stc_get g6, hb6, w1, w2, w3, w4, y1, y2, v1, v2, v3, v4, z52, z53, z54, y52, y53, y54, hb4B, G2, G3, G4, S4, G5, S5, H5]
    intro bx hbx nx
    have e7 := e6.set nx ⟨[i64 0], 1⟩
    have g47 := e7.2.g b4 _ g4
    have hb47 : (h6.set bx ⟨[i64 0], 1⟩).base ≤ b4 := by rw [H.set_base]; exact hb6
    have z4x : (b4 = bx) = False := eq_false fun e => by subst e; rw [g6] at nx; cases nx
    simp -implicitDefEqProofs only [go_sem, ldc_get g47, stc_get g47, hb47, z4x, ldc_get g6, stc_get g6, hb6, w1, w2, w3, w4, y1, y2, v1, v2, v3, v4, z52, z53, z54, y52, y53, y54, hb4B, G2, G3, G4, S4, G5, S5, H5]
    have X := (Ext.refl h6).set nx ⟨[i64 0], 1⟩
    exact spec_fin EA n4h gA4 e5 e7 (out_f (o := ⟨idleOf i, [], [0], 0⟩) (I1.ext X) (I2.ext X) I3 (fre_reply hbx (e6.none nx) [0]) (dj_new I1.known nx) (dj_new I2.known nx)) _
  rw [if_neg q2]
  have k6 := k5.put { i with left := i.left - 1 } rfl rfl
  have g46 : (hB.set b5 ⟨({ i with left := i.left - 1 } : UIdeal).cells ub us, 9⟩).get b4 = _ := (H.set_get_ne _ _ _ _ (of_eq_false z54)).trans g4
  simp -implicitDefEqProofs only [go_sem, eq_true q1, q2, wrap_i64 (show -(9223372036854775808 : Int) ≤ (i.left - 1) by omega) (show (i.left - 1) < 9223372036854775808 by omega), y1, y2, v1, v2, v3, v4, z52, z53, z54, y52, y53, y54, hb4B, G2, G3, G4, S4, G5, S5, H5]
  intro bx hbx nx
  have X := (Ext.refl _).set nx ⟨[i64 (i.left - 1)], 1⟩
  have k7 := k6.ext X
  have g47 := X.2.g b4 _ g46
  have z4x : (b4 = bx) = False := eq_false fun e => by subst e; rw [g46] at nx; cases nx
  simp -implicitDefEqProofs only [go_sem, z4x, y1, y2, v1, v2, v3, v4, z52, z53, z54, y52, y53, y54, hb4B, G2, G3, G4, S4, G5, S5, H5]
  exact spec_box3 (of_eq_false z54) (of_eq_false z4x) EA n4h gA4 k7.e (out_f (o := ⟨{ i with left := i.left - 1 }, [], [i.left - 1], 0⟩) k7.f1 k7.f2.fre k7.d (fre_reply hbx (k6.e.none nx) [i.left - 1]) (dj_new k6.f1.known nx) (dj_new k6.f2.fre.known nx)) _
  skip
set_option maxHeartbeats 1600000 in
theorem sdo7_ac {h : H} {cs : List Value} {i : UIdeal} {A B : Int} {dg : List UInt8} {st : UStep} (hv : RepR h (spIdeal i) cs) (hs : i.small) (hok : idealOk i) (hc : cmdOk ⟨7, A, B, dg, st⟩) : AC Tryz.prog 51 [.agg cs.toArray, .agg (UCmd.cells ⟨7, A, B, dg, st⟩).toArray] h fun r h' => SpecI h (doI i ⟨7, A, B, dg, st⟩) r h' := by
  have hv0 := hv
  obtain ⟨vb, vs, rfl, sb, ss⟩ := ideal_r.1 hv
  obtain ⟨p1, p2, p3, p4⟩ := phase_of hok
  have y1 := sb.one
  have y2 := ss.one
  skip
  unfold doI
  rw [if_neg (show ¬ ((7 : Int) = 1) by decide)]
  rw [if_neg (show ¬ ((7 : Int) = 2) by decide)]
  rw [if_neg (show ¬ ((7 : Int) = 3) by decide)]
  rw [if_neg (show ¬ ((7 : Int) = 4) by decide)]
  rw [if_neg (show ¬ ((7 : Int) = 5) by decide)]
  rw [if_neg (show ¬ ((7 : Int) = 6) by decide)]
  rw [if_pos rfl]
  refine w_spec_l15Do (by simp) ?_
  unfold b_spec_l15Do
  simp -implicitDefEqProofs only [go_sem, y1, y2]
  intro b2 hb_b2 n_b2
  simp -implicitDefEqProofs only [go_sem, y1, y2, hb_b2]
  intro b3 hb_b3 m0_b3
  obtain ⟨z_b3_b2, y_b3_b2, n_b3⟩ := fne m0_b3
  simp only [H.set_base] at hb_b3
  simp -implicitDefEqProofs only [go_sem, y1, y2, hb_b2, hb_b3, z_b3_b2, y_b3_b2]
  intro b4 hb_b4 m0_b4
  obtain ⟨z_b4_b3, y_b4_b3, m1_b4⟩ := fne m0_b4
  obtain ⟨z_b4_b2, y_b4_b2, n_b4⟩ := fne m1_b4
  simp only [H.set_base] at hb_b4
  simp -implicitDefEqProofs only [go_sem, y1, y2, hb_b2, hb_b3, z_b3_b2, y_b3_b2, hb_b4, z_b4_b3, y_b4_b3, z_b4_b2, y_b4_b2]
  have EA : Ext h (((h.set b2 ⟨i.cells vb vs, 9⟩).set b3 ⟨(UCmd.cells ⟨7, A, B, dg, st⟩), 8⟩).set b4 ⟨[i64 0, i64 0, i64 0, i64 0, i64 0, i64 0, str [], nils, nils, str [], nils, i64 0], 12⟩) := ((((Ext.refl _).set' n_b2 _).set' n_b3 _).set' n_b4 _)
  have n4h : h.get b4 = none := by assumption
  have gA4 : (((h.set b2 ⟨i.cells vb vs, 9⟩).set b3 ⟨(UCmd.cells ⟨7, A, B, dg, st⟩), 8⟩).set b4 ⟨[i64 0, i64 0, i64 0, i64 0, i64 0, i64 0, str [], nils, nils, str [], nils, i64 0], 12⟩).get b4 = some ⟨[i64 0, i64 0, i64 0, i64 0, i64 0, i64 0, str [], nils, nils, str [], nils, i64 0], 12⟩ := H.set_get_same _ _ _
  have gA3 : (((h.set b2 ⟨i.cells vb vs, 9⟩).set b3 ⟨(UCmd.cells ⟨7, A, B, dg, st⟩), 8⟩).set b4 ⟨[i64 0, i64 0, i64 0, i64 0, i64 0, i64 0, str [], nils, nils, str [], nils, i64 0], 12⟩).get b3 = some ⟨(UCmd.cells ⟨7, A, B, dg, st⟩), 8⟩ := by simp -implicitDefEqProofs only [go_sem, y1, y2, hb_b2, hb_b3, z_b3_b2, y_b3_b2, hb_b4, z_b4_b3, y_b4_b3, z_b4_b2, y_b4_b2]
  have gA2 : (((h.set b2 ⟨i.cells vb vs, 9⟩).set b3 ⟨(UCmd.cells ⟨7, A, B, dg, st⟩), 8⟩).set b4 ⟨[i64 0, i64 0, i64 0, i64 0, i64 0, i64 0, str [], nils, nils, str [], nils, i64 0], 12⟩).get b2 = some ⟨i.cells vb vs, 9⟩ := by simp -implicitDefEqProofs only [go_sem, y1, y2, hb_b2, hb_b3, z_b3_b2, y_b3_b2, hb_b4, z_b4_b3, y_b4_b3, z_b4_b2, y_b4_b2]
  have bA4 : (((h.set b2 ⟨i.cells vb vs, 9⟩).set b3 ⟨(UCmd.cells ⟨7, A, B, dg, st⟩), 8⟩).set b4 ⟨[i64 0, i64 0, i64 0, i64 0, i64 0, i64 0, str [], nils, nils, str [], nils, i64 0], 12⟩).base ≤ b4 := by rw [EA.1]; exact hb_b4
  generalize (((h.set b2 ⟨i.cells vb vs, 9⟩).set b3 ⟨(UCmd.cells ⟨7, A, B, dg, st⟩), 8⟩).set b4 ⟨[i64 0, i64 0, i64 0, i64 0, i64 0, i64 0, str [], nils, nils, str [], nils, i64 0], 12⟩) = hA at *
  skip
  refine AC_of (l15CopyO_ac (hv0.ext EA) hs) ?_
  rintro _ h1 - ⟨e1, ub, us, rfl, F1, F2, d⟩
  have v1 := F1.sl.one
  have v2 := F2.sl.one
  have v3 := F1.sl.vcl
  have v4 := F2.sl.vcl
  skip
  simp -implicitDefEqProofs only [go_sem, y1, y2, v1, v2, v3, v4]
  intro b5 hb5 n5
  have z52 : (b2 = b5) = False := eq_false fun e => by subst e; rw [e1.2.g _ _ gA2] at n5; cases n5
  have z53 : (b3 = b5) = False := eq_false fun e => by subst e; rw [e1.2.g _ _ gA3] at n5; cases n5
  have z54 : (b4 = b5) = False := eq_false fun e => by subst e; rw [e1.2.g _ _ gA4] at n5; cases n5
  have y52 : (b5 = b2) = False := eq_false fun e => (of_eq_false z52) e.symm
  have y53 : (b5 = b3) = False := eq_false fun e => (of_eq_false z53) e.symm
  have y54 : (b5 = b4) = False := eq_false fun e => (of_eq_false z54) e.symm
  have k5 : BoxI hA (h1.set b5 ⟨i.cells ub us, 9⟩) b5 i ub us := ⟨e1.set n5 _, e1.none n5, H.set_get_same _ _ _, by rw [H.set_base]; exact hb5, F1.ext ((Ext.refl _).set n5 _), F2.ext ((Ext.refl _).set n5 _), d, fun e => F1.known b5 e n5, fun e => by obtain ⟨_, _, z, hg⟩ := F2.ob_new e; rw [n5] at hg; cases hg⟩
  have e5 := e1.set n5 ⟨i.cells ub us, 9⟩
  have Q3 := fun o n => ldc_get (e1.2.g b3 _ gA3) o n
  have Q2 := fun o n => ldc_get (e1.2.g b2 _ gA2) o n
  simp -implicitDefEqProofs only [go_sem, hb5, z53, z52, y53, y52, Q3, Q2, y1, y2, v1, v2, v3, v4]
  clear Q3 Q2
  generalize h1.set b5 ⟨i.cells ub us, 9⟩ = hB at *
  have EB := EA.trans e5
  have g2 := e5.2.g b2 _ gA2
  have g3 := e5.2.g b3 _ gA3
  have g4 := e5.2.g b4 _ gA4
  have hb4B : hB.base ≤ b4 := by rw [e5.1]; exact bA4
  have G2 := fun o n => ldc_get g2 o n
  have G3 := fun o n => ldc_get g3 o n
  have G4 := fun o n => ldc_get g4 o n
  have S4 := fun o n cs => stc_get g4 o n cs
  have G5 := fun o n => ldc_get k5.g o n
  have S5 := fun o n cs => stc_get k5.g o n cs
  have H5 := k5.hb
  skip
  try simp -implicitDefEqProofs only [go_sem, y1, y2, v1, v2, v3, v4, z52, z53, z54, y52, y53, y54, hb4B, G2, G3, G4, S4, G5, S5, H5]
  have c1 : 0 ≤ A ∧ A ≤ 1000000 := by have := hc.2.1; rw [if_neg (show ¬ ((7 : Int) = 1) by decide), if_neg (show ¬ ((7 : Int) = 9) by decide), if_pos rfl] at this; exact this
  have hlb : (strs i.base).length = i.base.length := by simp
  obtain ⟨avb, cvb, bvb, ovb, evb, _⟩ := id sb
  subst evb
  rw [hlb] at hv0
  by_cases q1 : (i.base.length : Int) ≤ A
  · rw [if_pos q1]
    simp -implicitDefEqProofs only [go_sem, q1, hlb, y1, y2, v1, v2, v3, v4, z52, z53, z54, y52, y53, y54, hb4B, G2, G3, G4, S4, G5, S5, H5]
    refine AC_of (l15Fail_ac (n := 8) (hv0.ext EB) hs) ?_
    rintro _ h6 - ⟨e6, cs6, rfl, f6⟩
    have l6 := f6.r.len
    simp only [List.length_cons, List.length_nil, Nat.reduceAdd] at l6
    have t6 := take_len l6
    have o6 := f6.r.one
    have g6 := e6.2.g b4 _ g4
    have hb6 : h6.base ≤ b4 := by rw [e6.1]; exact hb4B
    simp -implicitDefEqProofs only [go_sem, ldc_get g6, stc_get g6, hb6, l6, t6, o6, y1, y2, v1, v2, v3, v4, z52, z53, z54, y52, y53, y54, hb4B, G2, G3, G4, S4, G5, S5, H5]
    exact spec_fin EA n4h gA4 e5 e6 f6 _
  rw [if_neg q1]
  simp -implicitDefEqProofs only [go_sem, q1, hlb, y1, y2, v1, v2, v3, v4, z52, z53, z54, y52, y53, y54, hb4B, G2, G3, G4, S4, G5, S5, H5]
  refine AC_of (l15View_ac (hv0.ext EB) hs hok) ?_
  rintro v h6 - ⟨e6, fv⟩
  refine ⟨e6.2, ?_⟩
  have hvl : (idealView i).length = i.base.length := by
    unfold idealView; split
    · rw [applyB_len]
    · rfl
  obtain ⟨av, cv, bv, ov, rfl, hcv, hrv, hlv⟩ := fv.sl
  have hl1 : (strs (idealView i)).length = i.base.length := by rw [← hvl]; simp
  rw [hl1] at hrv
  have hA : A.toNat < (idealView i).length := by omega
  have dk := hlv A.toNat [str (at8 (idealView i) A)] (by simp [at8, hA])
  rw [Nat.mul_one] at dk
  have g46 := e6.2.g b4 _ g4
  have hb46 : h6.base ≤ b4 := by rw [e6.1]; exact hb4B
  have sub6 := e6.2
  simp -implicitDefEqProofs only [go_sem, hl1, hrv, show A < (i.base.length : Int) by omega, c1.1, Nat.mul_one, dk, ldc_get g46, stc_get g46, hb46, sub6, y1, y2, v1, v2, v3, v4, z52, z53, z54, y52, y53, y54, hb4B, G2, G3, G4, S4, G5, S5, H5]
  exact spec_box EA n4h gA4 (k5.ext e6).e ((k5.ext e6).out (at8 (idealView i) A) 0) _
  skip
set_option maxHeartbeats 1600000 in
theorem sdo8_ac {h : H} {cs : List Value} {i : UIdeal} {A B : Int} {dg : List UInt8} {st : UStep} (hv : RepR h (spIdeal i) cs) (hs : i.small) (hok : idealOk i) (hc : cmdOk ⟨8, A, B, dg, st⟩) : AC Tryz.prog 51 [.agg cs.toArray, .agg (UCmd.cells ⟨8, A, B, dg, st⟩).toArray] h fun r h' => SpecI h (doI i ⟨8, A, B, dg, st⟩) r h' := by
  have hv0 := hv
  obtain ⟨vb, vs, rfl, sb, ss⟩ := ideal_r.1 hv
  obtain ⟨p1, p2, p3, p4⟩ := phase_of hok
  have y1 := sb.one
  have y2 := ss.one
  skip
  unfold doI
  rw [if_neg (show ¬ ((8 : Int) = 1) by decide)]
  rw [if_neg (show ¬ ((8 : Int) = 2) by decide)]
  rw [if_neg (show ¬ ((8 : Int) = 3) by decide)]
  rw [if_neg (show ¬ ((8 : Int) = 4) by decide)]
  rw [if_neg (show ¬ ((8 : Int) = 5) by decide)]
  rw [if_neg (show ¬ ((8 : Int) = 6) by decide)]
  rw [if_neg (show ¬ ((8 : Int) = 7) by decide)]
  rw [if_pos rfl]
  refine w_spec_l15Do (by simp) ?_
  unfold b_spec_l15Do
  simp -implicitDefEqProofs only [go_sem, y1, y2]
  intro b2 hb_b2 n_b2
  simp -implicitDefEqProofs only [go_sem, y1, y2, hb_b2]
  intro b3 hb_b3 m0_b3
  obtain ⟨z_b3_b2, y_b3_b2, n_b3⟩ := fne m0_b3
  simp only [H.set_base] at hb_b3
  simp -implicitDefEqProofs only [go_sem, y1, y2, hb_b2, hb_b3, z_b3_b2, y_b3_b2]
  intro b4 hb_b4 m0_b4
  obtain ⟨z_b4_b3, y_b4_b3, m1_b4⟩ := fne m0_b4
  obtain ⟨z_b4_b2, y_b4_b2, n_b4⟩ := fne m1_b4
  simp only [H.set_base] at hb_b4
  simp -implicitDefEqProofs only [go_sem, y1, y2, hb_b2, hb_b3, z_b3_b2, y_b3_b2, hb_b4, z_b4_b3, y_b4_b3, z_b4_b2, y_b4_b2]
  have EA : Ext h (((h.set b2 ⟨i.cells vb vs, 9⟩).set b3 ⟨(UCmd.cells ⟨8, A, B, dg, st⟩), 8⟩).set b4 ⟨[i64 0, i64 0, i64 0, i64 0, i64 0, i64 0, str [], nils, nils, str [], nils, i64 0], 12⟩) := ((((Ext.refl _).set' n_b2 _).set' n_b3 _).set' n_b4 _)
  have n4h : h.get b4 = none := by assumption
  have gA4 : (((h.set b2 ⟨i.cells vb vs, 9⟩).set b3 ⟨(UCmd.cells ⟨8, A, B, dg, st⟩), 8⟩).set b4 ⟨[i64 0, i64 0, i64 0, i64 0, i64 0, i64 0, str [], nils, nils, str [], nils, i64 0], 12⟩).get b4 = some ⟨[i64 0, i64 0, i64 0, i64 0, i64 0, i64 0, str [], nils, nils, str [], nils, i64 0], 12⟩ := H.set_get_same _ _ _
  have gA3 : (((h.set b2 ⟨i.cells vb vs, 9⟩).set b3 ⟨(UCmd.cells ⟨8, A, B, dg, st⟩), 8⟩).set b4 ⟨[i64 0, i64 0, i64 0, i64 0, i64 0, i64 0, str [], nils, nils, str [], nils, i64 0], 12⟩).get b3 = some ⟨(UCmd.cells ⟨8, A, B, dg, st⟩), 8⟩ := by simp -implicitDefEqProofs only [go_sem, y1, y2, hb_b2, hb_b3, z_b3_b2, y_b3_b2, hb_b4, z_b4_b3, y_b4_b3, z_b4_b2, y_b4_b2]
  have gA2 : (((h.set b2 ⟨i.cells vb vs, 9⟩).set b3 ⟨(UCmd.cells ⟨8, A, B, dg, st⟩), 8⟩).set b4 ⟨[i64 0, i64 0, i64 0, i64 0, i64 0, i64 0, str [], nils, nils, str [], nils, i64 0], 12⟩).get b2 = some ⟨i.cells vb vs, 9⟩ := by simp -implicitDefEqProofs only [go_sem, y1, y2, hb_b2, hb_b3, z_b3_b2, y_b3_b2, hb_b4, z_b4_b3, y_b4_b3, z_b4_b2, y_b4_b2]
  have bA4 : (((h.set b2 ⟨i.cells vb vs, 9⟩).set b3 ⟨(UCmd.cells ⟨8, A, B, dg, st⟩), 8⟩).set b4 ⟨[i64 0, i64 0, i64 0, i64 0, i64 0, i64 0, str [], nils, nils, str [], nils, i64 0], 12⟩).base ≤ b4 := by rw [EA.1]; exact hb_b4
  generalize (((h.set b2 ⟨i.cells vb vs, 9⟩).set b3 ⟨(UCmd.cells ⟨8, A, B, dg, st⟩), 8⟩).set b4 ⟨[i64 0, i64 0, i64 0, i64 0, i64 0, i64 0, str [], nils, nils, str [], nils, i64 0], 12⟩) = hA at *
  skip
  refine AC_of (l15CopyO_ac (hv0.ext EA) hs) ?_
  rintro _ h1 - ⟨e1, ub, us, rfl, F1, F2, d⟩
  have v1 := F1.sl.one
  have v2 := F2.sl.one
  have v3 := F1.sl.vcl
  have v4 := F2.sl.vcl
  skip
  simp -implicitDefEqProofs only [go_sem, y1, y2, v1, v2, v3, v4]
  intro b5 hb5 n5
  have z52 : (b2 = b5) = False := eq_false fun e => by subst e; rw [e1.2.g _ _ gA2] at n5; cases n5
  have z53 : (b3 = b5) = False := eq_false fun e => by subst e; rw [e1.2.g _ _ gA3] at n5; cases n5
  have z54 : (b4 = b5) = False := eq_false fun e => by subst e; rw [e1.2.g _ _ gA4] at n5; cases n5
  have y52 : (b5 = b2) = False := eq_false fun e => (of_eq_false z52) e.symm
  have y53 : (b5 = b3) = False := eq_false fun e => (of_eq_false z53) e.symm
  have y54 : (b5 = b4) = False := eq_false fun e => (of_eq_false z54) e.symm
  have k5 : BoxI hA (h1.set b5 ⟨i.cells ub us, 9⟩) b5 i ub us := ⟨e1.set n5 _, e1.none n5, H.set_get_same _ _ _, by rw [H.set_base]; exact hb5, F1.ext ((Ext.refl _).set n5 _), F2.ext ((Ext.refl _).set n5 _), d, fun e => F1.known b5 e n5, fun e => by obtain ⟨_, _, z, hg⟩ := F2.ob_new e; rw [n5] at hg; cases hg⟩
  have e5 := e1.set n5 ⟨i.cells ub us, 9⟩
  have Q3 := fun o n => ldc_get (e1.2.g b3 _ gA3) o n
  have Q2 := fun o n => ldc_get (e1.2.g b2 _ gA2) o n
  simp -implicitDefEqProofs only [go_sem, hb5, z53, z52, y53, y52, Q3, Q2, y1, y2, v1, v2, v3, v4]
  clear Q3 Q2
  generalize h1.set b5 ⟨i.cells ub us, 9⟩ = hB at *
  have EB := EA.trans e5
  have g2 := e5.2.g b2 _ gA2
  have g3 := e5.2.g b3 _ gA3
  have g4 := e5.2.g b4 _ gA4
  have hb4B : hB.base ≤ b4 := by rw [e5.1]; exact bA4
  have G2 := fun o n => ldc_get g2 o n
  have G3 := fun o n => ldc_get g3 o n
  have G4 := fun o n => ldc_get g4 o n
  have S4 := fun o n cs => stc_get g4 o n cs
  have G5 := fun o n => ldc_get k5.g o n
  have S5 := fun o n cs => stc_get k5.g o n cs
  have H5 := k5.hb
  skip
  try simp -implicitDefEqProofs only [go_sem, y1, y2, v1, v2, v3, v4, z52, z53, z54, y52, y53, y54, hb4B, G2, G3, G4, S4, G5, S5, H5]
  have hs2 := hs.2
  have h20 := idealOk_steps hok
  have hkp : keptOf i.steps = kept i.steps := by unfold keptOf; rw [if_pos h20]
  have hls : (i.steps.map UStep.cells).length = i.steps.length := by simp
  obtain ⟨avs, cvs, bvs, ovs, evs, _⟩ := id ss
  subst evs
  rw [hls] at hv0 ss
  simp -implicitDefEqProofs only [go_sem, hls, y1, y2, v1, v2, v3, v4, z52, z53, z54, y52, y53, y54, hb4B, G2, G3, G4, S4, G5, S5, H5]
  refine (specKeptOf_pc (ss.ext EB) hs.2).use ?_
  refine ⟨Sub.refl _, ?_⟩
  rw [hkp]
  simp -implicitDefEqProofs only [go_sem, y1, y2, v1, v2, v3, v4, z52, z53, z54, y52, y53, y54, hb4B, G2, G3, G4, S4, G5, S5, H5]
  refine (l15Free_pc (hv0.ext EB) ⟨p1, p2, p3⟩).use ?_
  refine ⟨Sub.refl _, ?_⟩
  simp -implicitDefEqProofs only [go_sem, y1, y2, v1, v2, v3, v4, z52, z53, z54, y52, y53, y54, hb4B, G2, G3, G4, S4, G5, S5, H5]
  intro bx hbx nx
  have X := (Ext.refl hB).set nx ⟨[i64 i.phase, i64 i.tries, i64 i.steps.length, i64 (kept i.steps), i64 i.left, i64 (freeI i)], 6⟩
  have k7 := k5.ext X
  have g47 := X.2.g b4 _ g4
  have z4x : (b4 = bx) = False := eq_false fun e => by subst e; rw [g4] at nx; cases nx
  refine ⟨X.2, ?_⟩
  simp -implicitDefEqProofs only [go_sem, z4x, y1, y2, v1, v2, v3, v4, z52, z53, z54, y52, y53, y54, hb4B, G2, G3, G4, S4, G5, S5, H5]
  exact spec_box2 (of_eq_false z4x) EA n4h gA4 k7.e (out_f (o := ⟨i, [], [i.phase, i.tries, i.steps.length, kept i.steps, i.left, freeI i], 0⟩) k7.f1 k7.f2.fre k7.d (fre_reply hbx (k5.e.none nx) [i.phase, i.tries, i.steps.length, kept i.steps, i.left, freeI i]) (dj_new k5.f1.known nx) (dj_new k5.f2.fre.known nx)) _
  skip
set_option maxHeartbeats 1600000 in
theorem sdo9_ac {h : H} {cs : List Value} {i : UIdeal} {A B : Int} {dg : List UInt8} {st : UStep} (hv : RepR h (spIdeal i) cs) (hs : i.small) (hok : idealOk i) (hc : cmdOk ⟨9, A, B, dg, st⟩) : AC Tryz.prog 51 [.agg cs.toArray, .agg (UCmd.cells ⟨9, A, B, dg, st⟩).toArray] h fun r h' => SpecI h (doI i ⟨9, A, B, dg, st⟩) r h' := by
  have hv0 := hv
  obtain ⟨vb, vs, rfl, sb, ss⟩ := ideal_r.1 hv
  obtain ⟨p1, p2, p3, p4⟩ := phase_of hok
  have y1 := sb.one
  have y2 := ss.one
  skip
  unfold doI
  rw [if_neg (show ¬ ((9 : Int) = 1) by decide)]
  rw [if_neg (show ¬ ((9 : Int) = 2) by decide)]
  rw [if_neg (show ¬ ((9 : Int) = 3) by decide)]
  rw [if_neg (show ¬ ((9 : Int) = 4) by decide)]
  rw [if_neg (show ¬ ((9 : Int) = 5) by decide)]
  rw [if_neg (show ¬ ((9 : Int) = 6) by decide)]
  rw [if_neg (show ¬ ((9 : Int) = 7) by decide)]
  rw [if_neg (show ¬ ((9 : Int) = 8) by decide)]
  rw [if_pos rfl]
  refine w_spec_l15Do (by simp) ?_
  unfold b_spec_l15Do
  simp -implicitDefEqProofs only [go_sem, y1, y2]
  intro b2 hb_b2 n_b2
  simp -implicitDefEqProofs only [go_sem, y1, y2, hb_b2]
  intro b3 hb_b3 m0_b3
  obtain ⟨z_b3_b2, y_b3_b2, n_b3⟩ := fne m0_b3
  simp only [H.set_base] at hb_b3
  simp -implicitDefEqProofs only [go_sem, y1, y2, hb_b2, hb_b3, z_b3_b2, y_b3_b2]
  intro b4 hb_b4 m0_b4
  obtain ⟨z_b4_b3, y_b4_b3, m1_b4⟩ := fne m0_b4
  obtain ⟨z_b4_b2, y_b4_b2, n_b4⟩ := fne m1_b4
  simp only [H.set_base] at hb_b4
  simp -implicitDefEqProofs only [go_sem, y1, y2, hb_b2, hb_b3, z_b3_b2, y_b3_b2, hb_b4, z_b4_b3, y_b4_b3, z_b4_b2, y_b4_b2]
  have EA : Ext h (((h.set b2 ⟨i.cells vb vs, 9⟩).set b3 ⟨(UCmd.cells ⟨9, A, B, dg, st⟩), 8⟩).set b4 ⟨[i64 0, i64 0, i64 0, i64 0, i64 0, i64 0, str [], nils, nils, str [], nils, i64 0], 12⟩) := ((((Ext.refl _).set' n_b2 _).set' n_b3 _).set' n_b4 _)
  have n4h : h.get b4 = none := by assumption
  have gA4 : (((h.set b2 ⟨i.cells vb vs, 9⟩).set b3 ⟨(UCmd.cells ⟨9, A, B, dg, st⟩), 8⟩).set b4 ⟨[i64 0, i64 0, i64 0, i64 0, i64 0, i64 0, str [], nils, nils, str [], nils, i64 0], 12⟩).get b4 = some ⟨[i64 0, i64 0, i64 0, i64 0, i64 0, i64 0, str [], nils, nils, str [], nils, i64 0], 12⟩ := H.set_get_same _ _ _
  have gA3 : (((h.set b2 ⟨i.cells vb vs, 9⟩).set b3 ⟨(UCmd.cells ⟨9, A, B, dg, st⟩), 8⟩).set b4 ⟨[i64 0, i64 0, i64 0, i64 0, i64 0, i64 0, str [], nils, nils, str [], nils, i64 0], 12⟩).get b3 = some ⟨(UCmd.cells ⟨9, A, B, dg, st⟩), 8⟩ := by simp -implicitDefEqProofs only [go_sem, y1, y2, hb_b2, hb_b3, z_b3_b2, y_b3_b2, hb_b4, z_b4_b3, y_b4_b3, z_b4_b2, y_b4_b2]
  have gA2 : (((h.set b2 ⟨i.cells vb vs, 9⟩).set b3 ⟨(UCmd.cells ⟨9, A, B, dg, st⟩), 8⟩).set b4 ⟨[i64 0, i64 0, i64 0, i64 0, i64 0, i64 0, str [], nils, nils, str [], nils, i64 0], 12⟩).get b2 = some ⟨i.cells vb vs, 9⟩ := by simp -implicitDefEqProofs only [go_sem, y1, y2, hb_b2, hb_b3, z_b3_b2, y_b3_b2, hb_b4, z_b4_b3, y_b4_b3, z_b4_b2, y_b4_b2]
  have bA4 : (((h.set b2 ⟨i.cells vb vs, 9⟩).set b3 ⟨(UCmd.cells ⟨9, A, B, dg, st⟩), 8⟩).set b4 ⟨[i64 0, i64 0, i64 0, i64 0, i64 0, i64 0, str [], nils, nils, str [], nils, i64 0], 12⟩).base ≤ b4 := by rw [EA.1]; exact hb_b4
  generalize (((h.set b2 ⟨i.cells vb vs, 9⟩).set b3 ⟨(UCmd.cells ⟨9, A, B, dg, st⟩), 8⟩).set b4 ⟨[i64 0, i64 0, i64 0, i64 0, i64 0, i64 0, str [], nils, nils, str [], nils, i64 0], 12⟩) = hA at *
  skip
  refine AC_of (l15CopyO_ac (hv0.ext EA) hs) ?_
  rintro _ h1 - ⟨e1, ub, us, rfl, F1, F2, d⟩
  have v1 := F1.sl.one
  have v2 := F2.sl.one
  have v3 := F1.sl.vcl
  have v4 := F2.sl.vcl
  skip
  simp -implicitDefEqProofs only [go_sem, y1, y2, v1, v2, v3, v4]
  intro b5 hb5 n5
  have z52 : (b2 = b5) = False := eq_false fun e => by subst e; rw [e1.2.g _ _ gA2] at n5; cases n5
  have z53 : (b3 = b5) = False := eq_false fun e => by subst e; rw [e1.2.g _ _ gA3] at n5; cases n5
  have z54 : (b4 = b5) = False := eq_false fun e => by subst e; rw [e1.2.g _ _ gA4] at n5; cases n5
  have y52 : (b5 = b2) = False := eq_false fun e => (of_eq_false z52) e.symm
  have y53 : (b5 = b3) = False := eq_false fun e => (of_eq_false z53) e.symm
  have y54 : (b5 = b4) = False := eq_false fun e => (of_eq_false z54) e.symm
  have k5 : BoxI hA (h1.set b5 ⟨i.cells ub us, 9⟩) b5 i ub us := ⟨e1.set n5 _, e1.none n5, H.set_get_same _ _ _, by rw [H.set_base]; exact hb5, F1.ext ((Ext.refl _).set n5 _), F2.ext ((Ext.refl _).set n5 _), d, fun e => F1.known b5 e n5, fun e => by obtain ⟨_, _, z, hg⟩ := F2.ob_new e; rw [n5] at hg; cases hg⟩
  have e5 := e1.set n5 ⟨i.cells ub us, 9⟩
  have Q3 := fun o n => ldc_get (e1.2.g b3 _ gA3) o n
  have Q2 := fun o n => ldc_get (e1.2.g b2 _ gA2) o n
  simp -implicitDefEqProofs only [go_sem, hb5, z53, z52, y53, y52, Q3, Q2, y1, y2, v1, v2, v3, v4]
  clear Q3 Q2
  generalize h1.set b5 ⟨i.cells ub us, 9⟩ = hB at *
  have EB := EA.trans e5
  have g2 := e5.2.g b2 _ gA2
  have g3 := e5.2.g b3 _ gA3
  have g4 := e5.2.g b4 _ gA4
  have hb4B : hB.base ≤ b4 := by rw [e5.1]; exact bA4
  have G2 := fun o n => ldc_get g2 o n
  have G3 := fun o n => ldc_get g3 o n
  have G4 := fun o n => ldc_get g4 o n
  have S4 := fun o n cs => stc_get g4 o n cs
  have G5 := fun o n => ldc_get k5.g o n
  have S5 := fun o n cs => stc_get k5.g o n cs
  have H5 := k5.hb
  skip
  try simp -implicitDefEqProofs only [go_sem, y1, y2, v1, v2, v3, v4, z52, z53, z54, y52, y53, y54, hb4B, G2, G3, G4, S4, G5, S5, H5]
  have c1 : 1 ≤ A ∧ A ≤ 24 := by have := hc.2.1; rw [if_neg (show ¬ ((9 : Int) = 1) by decide), if_pos rfl] at this; exact this
  refine (l15Free_pc (hv0.ext EB) ⟨p1, p2, p3⟩).use ?_
  refine ⟨Sub.refl _, ?_⟩
  by_cases q1 : freeI i < A
  · rw [if_pos q1]
    simp -implicitDefEqProofs only [go_sem, q1, y1, y2, v1, v2, v3, v4, z52, z53, z54, y52, y53, y54, hb4B, G2, G3, G4, S4, G5, S5, H5]
    refine AC_of (l15Fail_ac (n := 11) (hv0.ext EB) hs) ?_
    rintro _ h6 - ⟨e6, cs6, rfl, f6⟩
    have l6 := f6.r.len
    simp only [List.length_cons, List.length_nil, Nat.reduceAdd] at l6
    have t6 := take_len l6
    have o6 := f6.r.one
    have g6 := e6.2.g b4 _ g4
    have hb6 : h6.base ≤ b4 := by rw [e6.1]; exact hb4B
    simp -implicitDefEqProofs only [go_sem, ldc_get g6, stc_get g6, hb6, l6, t6, o6, y1, y2, v1, v2, v3, v4, z52, z53, z54, y52, y53, y54, hb4B, G2, G3, G4, S4, G5, S5, H5]
    exact spec_fin EA n4h gA4 e5 e6 f6 _
  rw [if_neg q1]
  have k6 := k5.put { i with held := i.held + A } rfl rfl
  simp -implicitDefEqProofs only [go_sem, q1, wrap_i64 (show -(9223372036854775808 : Int) ≤ (i.held + A) by omega) (show (i.held + A) < 9223372036854775808 by omega), y1, y2, v1, v2, v3, v4, z52, z53, z54, y52, y53, y54, hb4B, G2, G3, G4, S4, G5, S5, H5]
  exact spec_box2 (of_eq_false z54) EA n4h gA4 k6.e (k6.out [] 0) _
  skip
set_option maxHeartbeats 1600000 in
theorem sdo10_ac {h : H} {cs : List Value} {i : UIdeal} {A B : Int} {dg : List UInt8} {st : UStep} (hv : RepR h (spIdeal i) cs) (hs : i.small) (hok : idealOk i) (hc : cmdOk ⟨10, A, B, dg, st⟩) : AC Tryz.prog 51 [.agg cs.toArray, .agg (UCmd.cells ⟨10, A, B, dg, st⟩).toArray] h fun r h' => SpecI h (doI i ⟨10, A, B, dg, st⟩) r h' := by
  have hv0 := hv
  obtain ⟨vb, vs, rfl, sb, ss⟩ := ideal_r.1 hv
  obtain ⟨p1, p2, p3, p4⟩ := phase_of hok
  have y1 := sb.one
  have y2 := ss.one
  skip
  unfold doI
  rw [if_neg (show ¬ ((10 : Int) = 1) by decide)]
  rw [if_neg (show ¬ ((10 : Int) = 2) by decide)]
  rw [if_neg (show ¬ ((10 : Int) = 3) by decide)]
  rw [if_neg (show ¬ ((10 : Int) = 4) by decide)]
  rw [if_neg (show ¬ ((10 : Int) = 5) by decide)]
  rw [if_neg (show ¬ ((10 : Int) = 6) by decide)]
  rw [if_neg (show ¬ ((10 : Int) = 7) by decide)]
  rw [if_neg (show ¬ ((10 : Int) = 8) by decide)]
  rw [if_neg (show ¬ ((10 : Int) = 9) by decide)]
  rw [if_pos rfl]
  refine w_spec_l15Do (by simp) ?_
  unfold b_spec_l15Do
  simp -implicitDefEqProofs only [go_sem, y1, y2]
  intro b2 hb_b2 n_b2
  simp -implicitDefEqProofs only [go_sem, y1, y2, hb_b2]
  intro b3 hb_b3 m0_b3
  obtain ⟨z_b3_b2, y_b3_b2, n_b3⟩ := fne m0_b3
  simp only [H.set_base] at hb_b3
  simp -implicitDefEqProofs only [go_sem, y1, y2, hb_b2, hb_b3, z_b3_b2, y_b3_b2]
  intro b4 hb_b4 m0_b4
  obtain ⟨z_b4_b3, y_b4_b3, m1_b4⟩ := fne m0_b4
  obtain ⟨z_b4_b2, y_b4_b2, n_b4⟩ := fne m1_b4
  simp only [H.set_base] at hb_b4
  simp -implicitDefEqProofs only [go_sem, y1, y2, hb_b2, hb_b3, z_b3_b2, y_b3_b2, hb_b4, z_b4_b3, y_b4_b3, z_b4_b2, y_b4_b2]
  have EA : Ext h (((h.set b2 ⟨i.cells vb vs, 9⟩).set b3 ⟨(UCmd.cells ⟨10, A, B, dg, st⟩), 8⟩).set b4 ⟨[i64 0, i64 0, i64 0, i64 0, i64 0, i64 0, str [], nils, nils, str [], nils, i64 0], 12⟩) := ((((Ext.refl _).set' n_b2 _).set' n_b3 _).set' n_b4 _)
  have n4h : h.get b4 = none := by assumption
  have gA4 : (((h.set b2 ⟨i.cells vb vs, 9⟩).set b3 ⟨(UCmd.cells ⟨10, A, B, dg, st⟩), 8⟩).set b4 ⟨[i64 0, i64 0, i64 0, i64 0, i64 0, i64 0, str [], nils, nils, str [], nils, i64 0], 12⟩).get b4 = some ⟨[i64 0, i64 0, i64 0, i64 0, i64 0, i64 0, str [], nils, nils, str [], nils, i64 0], 12⟩ := H.set_get_same _ _ _
  have gA3 : (((h.set b2 ⟨i.cells vb vs, 9⟩).set b3 ⟨(UCmd.cells ⟨10, A, B, dg, st⟩), 8⟩).set b4 ⟨[i64 0, i64 0, i64 0, i64 0, i64 0, i64 0, str [], nils, nils, str [], nils, i64 0], 12⟩).get b3 = some ⟨(UCmd.cells ⟨10, A, B, dg, st⟩), 8⟩ := by simp -implicitDefEqProofs only [go_sem, y1, y2, hb_b2, hb_b3, z_b3_b2, y_b3_b2, hb_b4, z_b4_b3, y_b4_b3, z_b4_b2, y_b4_b2]
  have gA2 : (((h.set b2 ⟨i.cells vb vs, 9⟩).set b3 ⟨(UCmd.cells ⟨10, A, B, dg, st⟩), 8⟩).set b4 ⟨[i64 0, i64 0, i64 0, i64 0, i64 0, i64 0, str [], nils, nils, str [], nils, i64 0], 12⟩).get b2 = some ⟨i.cells vb vs, 9⟩ := by simp -implicitDefEqProofs only [go_sem, y1, y2, hb_b2, hb_b3, z_b3_b2, y_b3_b2, hb_b4, z_b4_b3, y_b4_b3, z_b4_b2, y_b4_b2]
  have bA4 : (((h.set b2 ⟨i.cells vb vs, 9⟩).set b3 ⟨(UCmd.cells ⟨10, A, B, dg, st⟩), 8⟩).set b4 ⟨[i64 0, i64 0, i64 0, i64 0, i64 0, i64 0, str [], nils, nils, str [], nils, i64 0], 12⟩).base ≤ b4 := by rw [EA.1]; exact hb_b4
  generalize (((h.set b2 ⟨i.cells vb vs, 9⟩).set b3 ⟨(UCmd.cells ⟨10, A, B, dg, st⟩), 8⟩).set b4 ⟨[i64 0, i64 0, i64 0, i64 0, i64 0, i64 0, str [], nils, nils, str [], nils, i64 0], 12⟩) = hA at *
  skip
  refine AC_of (l15CopyO_ac (hv0.ext EA) hs) ?_
  rintro _ h1 - ⟨e1, ub, us, rfl, F1, F2, d⟩
  have v1 := F1.sl.one
  have v2 := F2.sl.one
  have v3 := F1.sl.vcl
  have v4 := F2.sl.vcl
  skip
  simp -implicitDefEqProofs only [go_sem, y1, y2, v1, v2, v3, v4]
  intro b5 hb5 n5
  have z52 : (b2 = b5) = False := eq_false fun e => by subst e; rw [e1.2.g _ _ gA2] at n5; cases n5
  have z53 : (b3 = b5) = False := eq_false fun e => by subst e; rw [e1.2.g _ _ gA3] at n5; cases n5
  have hb5k := hb5
  have z54 : (b4 = b5) = False := eq_false fun e => by subst e; rw [e1.2.g _ _ gA4] at n5; cases n5
  have y52 : (b5 = b2) = False := eq_false fun e => (of_eq_false z52) e.symm
  have y53 : (b5 = b3) = False := eq_false fun e => (of_eq_false z53) e.symm
  have y54 : (b5 = b4) = False := eq_false fun e => (of_eq_false z54) e.symm
  have k5 : BoxI hA (h1.set b5 ⟨i.cells ub us, 9⟩) b5 i ub us := ⟨e1.set n5 _, e1.none n5, H.set_get_same _ _ _, by rw [H.set_base]; exact hb5, F1.ext ((Ext.refl _).set n5 _), F2.ext ((Ext.refl _).set n5 _), d, fun e => F1.known b5 e n5, fun e => by obtain ⟨_, _, z, hg⟩ := F2.ob_new e; rw [n5] at hg; cases hg⟩
  have e5 := e1.set n5 ⟨i.cells ub us, 9⟩
  have k6 := k5.put { i with held := 0 } rfl rfl
  rw [H.set_set] at k6
  have e6 := e1.set n5 ⟨({ i with held := 0 } : UIdeal).cells ub us, 9⟩
  have g4 := e1.2.g b4 _ gA4
  have g3 := e1.2.g b3 _ gA3
  have g2 := e1.2.g b2 _ gA2
  have hb4B : h1.base ≤ b4 := by rw [e1.1]; exact bA4
  have Q3 := fun o n => ldc_get g3 o n
  have Q2 := fun o n => ldc_get g2 o n
  have Q4 := fun o n => ldc_get g4 o n
  have R4 := fun o n cs => stc_get g4 o n cs
  simp -implicitDefEqProofs only [go_sem, hb5, z53, z52, z54, y53, y52, y54, Q3, Q2, Q4, R4, hb4B, y1, y2, v1, v2, v3, v4]
  exact spec_box2 (of_eq_false z54) EA n4h gA4 k6.e (k6.out [] 0) _
set_option maxHeartbeats 1600000 in
theorem sdo11_ac {h : H} {cs : List Value} {i : UIdeal} {A B : Int} {dg : List UInt8} {st : UStep} (hv : RepR h (spIdeal i) cs) (hs : i.small) (hok : idealOk i) (hc : cmdOk ⟨11, A, B, dg, st⟩) : AC Tryz.prog 51 [.agg cs.toArray, .agg (UCmd.cells ⟨11, A, B, dg, st⟩).toArray] h fun r h' => SpecI h (doI i ⟨11, A, B, dg, st⟩) r h' := by
  have hv0 := hv
  obtain ⟨vb, vs, rfl, sb, ss⟩ := ideal_r.1 hv
  obtain ⟨p1, p2, p3, p4⟩ := phase_of hok
  have y1 := sb.one
  have y2 := ss.one
  skip
  unfold doI
  rw [if_neg (show ¬ ((11 : Int) = 1) by decide)]
  rw [if_neg (show ¬ ((11 : Int) = 2) by decide)]
  rw [if_neg (show ¬ ((11 : Int) = 3) by decide)]
  rw [if_neg (show ¬ ((11 : Int) = 4) by decide)]
  rw [if_neg (show ¬ ((11 : Int) = 5) by decide)]
  rw [if_neg (show ¬ ((11 : Int) = 6) by decide)]
  rw [if_neg (show ¬ ((11 : Int) = 7) by decide)]
  rw [if_neg (show ¬ ((11 : Int) = 8) by decide)]
  rw [if_neg (show ¬ ((11 : Int) = 9) by decide)]
  rw [if_neg (show ¬ ((11 : Int) = 10) by decide)]
  refine w_spec_l15Do (by simp) ?_
  unfold b_spec_l15Do
  simp -implicitDefEqProofs only [go_sem, y1, y2]
  intro b2 hb_b2 n_b2
  simp -implicitDefEqProofs only [go_sem, y1, y2, hb_b2]
  intro b3 hb_b3 m0_b3
  obtain ⟨z_b3_b2, y_b3_b2, n_b3⟩ := fne m0_b3
  simp only [H.set_base] at hb_b3
  simp -implicitDefEqProofs only [go_sem, y1, y2, hb_b2, hb_b3, z_b3_b2, y_b3_b2]
  intro b4 hb_b4 m0_b4
  obtain ⟨z_b4_b3, y_b4_b3, m1_b4⟩ := fne m0_b4
  obtain ⟨z_b4_b2, y_b4_b2, n_b4⟩ := fne m1_b4
  simp only [H.set_base] at hb_b4
  simp -implicitDefEqProofs only [go_sem, y1, y2, hb_b2, hb_b3, z_b3_b2, y_b3_b2, hb_b4, z_b4_b3, y_b4_b3, z_b4_b2, y_b4_b2]
  have EA : Ext h (((h.set b2 ⟨i.cells vb vs, 9⟩).set b3 ⟨(UCmd.cells ⟨11, A, B, dg, st⟩), 8⟩).set b4 ⟨[i64 0, i64 0, i64 0, i64 0, i64 0, i64 0, str [], nils, nils, str [], nils, i64 0], 12⟩) := ((((Ext.refl _).set' n_b2 _).set' n_b3 _).set' n_b4 _)
  have n4h : h.get b4 = none := by assumption
  have gA4 : (((h.set b2 ⟨i.cells vb vs, 9⟩).set b3 ⟨(UCmd.cells ⟨11, A, B, dg, st⟩), 8⟩).set b4 ⟨[i64 0, i64 0, i64 0, i64 0, i64 0, i64 0, str [], nils, nils, str [], nils, i64 0], 12⟩).get b4 = some ⟨[i64 0, i64 0, i64 0, i64 0, i64 0, i64 0, str [], nils, nils, str [], nils, i64 0], 12⟩ := H.set_get_same _ _ _
  have gA3 : (((h.set b2 ⟨i.cells vb vs, 9⟩).set b3 ⟨(UCmd.cells ⟨11, A, B, dg, st⟩), 8⟩).set b4 ⟨[i64 0, i64 0, i64 0, i64 0, i64 0, i64 0, str [], nils, nils, str [], nils, i64 0], 12⟩).get b3 = some ⟨(UCmd.cells ⟨11, A, B, dg, st⟩), 8⟩ := by simp -implicitDefEqProofs only [go_sem, y1, y2, hb_b2, hb_b3, z_b3_b2, y_b3_b2, hb_b4, z_b4_b3, y_b4_b3, z_b4_b2, y_b4_b2]
  have gA2 : (((h.set b2 ⟨i.cells vb vs, 9⟩).set b3 ⟨(UCmd.cells ⟨11, A, B, dg, st⟩), 8⟩).set b4 ⟨[i64 0, i64 0, i64 0, i64 0, i64 0, i64 0, str [], nils, nils, str [], nils, i64 0], 12⟩).get b2 = some ⟨i.cells vb vs, 9⟩ := by simp -implicitDefEqProofs only [go_sem, y1, y2, hb_b2, hb_b3, z_b3_b2, y_b3_b2, hb_b4, z_b4_b3, y_b4_b3, z_b4_b2, y_b4_b2]
  have bA4 : (((h.set b2 ⟨i.cells vb vs, 9⟩).set b3 ⟨(UCmd.cells ⟨11, A, B, dg, st⟩), 8⟩).set b4 ⟨[i64 0, i64 0, i64 0, i64 0, i64 0, i64 0, str [], nils, nils, str [], nils, i64 0], 12⟩).base ≤ b4 := by rw [EA.1]; exact hb_b4
  generalize (((h.set b2 ⟨i.cells vb vs, 9⟩).set b3 ⟨(UCmd.cells ⟨11, A, B, dg, st⟩), 8⟩).set b4 ⟨[i64 0, i64 0, i64 0, i64 0, i64 0, i64 0, str [], nils, nils, str [], nils, i64 0], 12⟩) = hA at *
  skip
  refine AC_of (l15CopyO_ac (hv0.ext EA) hs) ?_
  rintro _ h1 - ⟨e1, ub, us, rfl, F1, F2, d⟩
  have v1 := F1.sl.one
  have v2 := F2.sl.one
  have v3 := F1.sl.vcl
  have v4 := F2.sl.vcl
  skip
  simp -implicitDefEqProofs only [go_sem, y1, y2, v1, v2, v3, v4]
  intro b5 hb5 n5
  have z52 : (b2 = b5) = False := eq_false fun e => by subst e; rw [e1.2.g _ _ gA2] at n5; cases n5
  have z53 : (b3 = b5) = False := eq_false fun e => by subst e; rw [e1.2.g _ _ gA3] at n5; cases n5
  have z54 : (b4 = b5) = False := eq_false fun e => by subst e; rw [e1.2.g _ _ gA4] at n5; cases n5
  have y52 : (b5 = b2) = False := eq_false fun e => (of_eq_false z52) e.symm
  have y53 : (b5 = b3) = False := eq_false fun e => (of_eq_false z53) e.symm
  have y54 : (b5 = b4) = False := eq_false fun e => (of_eq_false z54) e.symm
  have k5 : BoxI hA (h1.set b5 ⟨i.cells ub us, 9⟩) b5 i ub us := ⟨e1.set n5 _, e1.none n5, H.set_get_same _ _ _, by rw [H.set_base]; exact hb5, F1.ext ((Ext.refl _).set n5 _), F2.ext ((Ext.refl _).set n5 _), d, fun e => F1.known b5 e n5, fun e => by obtain ⟨_, _, z, hg⟩ := F2.ob_new e; rw [n5] at hg; cases hg⟩
  have e5 := e1.set n5 ⟨i.cells ub us, 9⟩
  have Q3 := fun o n => ldc_get (e1.2.g b3 _ gA3) o n
  have Q2 := fun o n => ldc_get (e1.2.g b2 _ gA2) o n
  simp -implicitDefEqProofs only [go_sem, hb5, z53, z52, y53, y52, Q3, Q2, y1, y2, v1, v2, v3, v4]
  clear Q3 Q2
  generalize h1.set b5 ⟨i.cells ub us, 9⟩ = hB at *
  have EB := EA.trans e5
  have g2 := e5.2.g b2 _ gA2
  have g3 := e5.2.g b3 _ gA3
  have g4 := e5.2.g b4 _ gA4
  have hb4B : hB.base ≤ b4 := by rw [e5.1]; exact bA4
  have G2 := fun o n => ldc_get g2 o n
  have G3 := fun o n => ldc_get g3 o n
  have G4 := fun o n => ldc_get g4 o n
  have S4 := fun o n cs => stc_get g4 o n cs
  have G5 := fun o n => ldc_get k5.g o n
  have S5 := fun o n cs => stc_get k5.g o n cs
  have H5 := k5.hb
  skip
  try simp -implicitDefEqProofs only [go_sem, y1, y2, v1, v2, v3, v4, z52, z53, z54, y52, y53, y54, hb4B, G2, G3, G4, S4, G5, S5, H5]
  refine AC_of (l15Boot_ac (hv0.ext EB) hs hok) ?_
  rintro _ h6 - ⟨e6, cs6, rfl, f6⟩
  obtain ⟨ua, ue, rfl, I1, I2, I3⟩ := ideal_f.1 f6
  have w1 := I1.sl.one
  have w2 := I2.sl.one
  have w3 := I1.sl.vcl
  have w4 := I2.sl.vcl
  have g46 := e6.2.g b4 _ g4
  have g56 := e6.2.g b5 _ k5.g
  have hb46 : h6.base ≤ b4 := by rw [e6.1]; exact hb4B
  have hb56 : h6.base ≤ b5 := by rw [e6.1]; exact k5.hb
  simp -implicitDefEqProofs only [go_sem, ldc_get g46, stc_get g46, ldc_get g56, stc_get g56, hb46, hb56, w1, w2, w3, w4, y1, y2, v1, v2, v3, v4, z52, z53, z54, y52, y53, y54, hb4B, G2, G3, G4, S4, G5, S5, H5]
  exact spec_box2 (of_eq_false z54) EA n4h gA4 ((k5.e.trans e6).set' k5.nb _) (out_nil (j := bootOf i) (t := []) (n := 0) ((I1.set k5.g _).back k5.e) ((I2.set k5.g _).back k5.e) I3) _
  skip
end Go.Proofs.YtdofcojbjcpikaaGreatDoor
