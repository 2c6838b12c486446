/- A helper of this seat's claims (contracts of the functions): what it shows is shown for every input that its statements name, on no other condition. -/
import Derived.Test.YtdofcojbjcpikaaGreatDoorC15k
set_option linter.unusedVariables false
set_option linter.unusedSimpArgs false
set_option maxRecDepth 100000
namespace Go.Proofs.YtdofcojbjcpikaaGreatDoor
open Go.KH

/-! ## The reference's commands on ideals -/
/-- spec.l15Load -/
def b_spec_l15Load : C := (.seq (.ops [⟨(some 2), none, .box (.t 0)⟩, ⟨(some 3), none, .box (.t 1)⟩, ⟨(some 4), none, .alloc [(i64 0), (i64 0), (i64 0), (i64 0), (i64 0), (i64 0), (str []), nils, nils, (str []), nils, (i64 0)]⟩])
 (.seq (.ops [q 11 (.ld true 9 (.t 2)), ⟨(some 12), none, .call (.c (.func (.func 119) #[] #[])) [(.t 11)]⟩, ⟨(some 5), none, .alloc [(i64 0), (i64 0), (i64 0), (i64 0), (i64 0), (i64 0), (str []), nils, nils]⟩, ⟨none, none, .st 9 (.t 5) (.t 12)⟩])
 (.seq (.seq (.ops [q 13 (.fld 0 (.t 3)), q 14 (.ld false 1 (.t 13)), q 15 (.bin .eql (.t 14) (.c (i64 1)))])
 (.cond (.t 15) (.seq (.seq (.ops [q 16 (.fld 0 (.t 2)), q 17 (.ld false 1 (.t 16)), q 18 (.bin .neq (.t 17) (.c (i64 1)))])
 (.cond (.t 18) (.seq (.ops [q 19 (.ld true 9 (.t 2)), ⟨(some 20), none, .call (.c (.func (.func 121) #[] #[])) [(.t 19), (.c (i64 10))]⟩, ⟨none, none, .st 12 (.t 4) (.t 20)⟩])
 .ret) .skip))
 (.seq (.seq (.dops true (.tk (q 21 (.fld 1 (.t 3))) (.tk (q 22 (.ld false 1 (.t 21))) (.tk (q 23 (.fld 2 (.t 3))) (.tk (q 24 (.ld false 1 (.t 23))) (.tk (q 25 (.bin .add (.t 22) (.t 24))) (.tk (q 26 (.ld true 9 (.t 2))) (.sq (⟨(some 27), none, .call (.c (.func (.func 125) #[] #[])) [(.t 26)]⟩) (.tk (q 28 (.bin .gtr (.t 25) (.t 27))) .nil)))))))))
 (.cond (.t 28) (.seq (.ops [q 29 (.ld true 9 (.t 2)), ⟨(some 30), none, .call (.c (.func (.func 121) #[] #[])) [(.t 29), (.c (i64 11))]⟩, ⟨none, none, .st 12 (.t 4) (.t 30)⟩])
 .ret) .skip))
 (.seq (.ops [q 31 (.fld 0 (.t 5)), ⟨none, none, .st 1 (.t 31) (.c (i64 2))⟩])
 (.seq (.ops [q 32 (.fld 1 (.t 3)), q 33 (.ld false 1 (.t 32)), q 34 (.fld 2 (.t 5)), ⟨none, none, .st 1 (.t 34) (.t 33)⟩])
 (.seq (.ops [q 35 (.fld 2 (.t 3)), q 36 (.ld false 1 (.t 35)), q 37 (.fld 3 (.t 5)), ⟨none, none, .st 1 (.t 37) (.t 36)⟩])
 (.seq (.ops [q 38 (.fld 3 (.t 3)), q 39 (.ld false 1 (.t 38)), q 40 (.fld 6 (.t 5)), ⟨none, none, .st 1 (.t 40) (.t 39)⟩])
 (.seq (.ops [q 41 (.ld true 9 (.t 5)), q 42 (.build [(i64 0), (i64 0), (i64 0), (i64 0), (i64 0), (i64 0), (str []), nils, nils, (str []), nils, (i64 0)] [(0, 9, (.t 41))]), ⟨none, none, .st 12 (.t 4) (.t 42)⟩])
 .ret))))))) .skip))
 (.seq (.seq (.ops [q 43 (.fld 0 (.t 2)), q 44 (.ld false 1 (.t 43)), q 45 (.bin .neq (.t 44) (.c (i64 2)))])
 (.cond (.t 45) (.seq (.ops [q 46 (.ld true 9 (.t 2)), ⟨(some 47), none, .call (.c (.func (.func 121) #[] #[])) [(.t 46), (.c (i64 10))]⟩, ⟨none, none, .st 12 (.t 4) (.t 47)⟩])
 .ret) .skip))
 (.seq (.seq (.ops [q 48 (.fld 0 (.t 3)), q 49 (.ld false 1 (.t 48)), q 50 (.bin .eql (.t 49) (.c (i64 2)))])
 (.cond (.t 50) (.seq (.seq (.ops [q 51 (.fld 8 (.t 2)), q 52 (.ld false 1 (.t 51)), q 53 (.len (.t 52)), q 54 (.fld 2 (.t 2)), q 55 (.ld false 1 (.t 54)), q 56 (.bin .geq (.t 53) (.t 55))])
 (.cond (.t 56) (.seq (.ops [q 57 (.ld true 9 (.t 2)), ⟨(some 58), none, .call (.c (.func (.func 121) #[] #[])) [(.t 57), (.c (i64 9))]⟩, ⟨none, none, .st 12 (.t 4) (.t 58)⟩])
 .ret) .skip))
 (.seq (.ops [q 59 (.fld 8 (.t 5)), q 60 (.ld false 1 (.t 59)), q 61 (.fld 4 (.t 3)), q 62 (.ld true 4 (.t 61)), ⟨(some 63), none, .bsl 1 [(i64 0), (i64 0), (i64 0), (str [])] [(0, 4, (.t 62))]⟩, ⟨(some 64), none, .app 4 40 (.t 60) (.t 63)⟩, q 65 (.fld 8 (.t 5)), ⟨none, none, .st 1 (.t 65) (.t 64)⟩])
 (.seq (.ops [q 66 (.fld 8 (.t 5)), q 67 (.ld false 1 (.t 66)), q 68 (.fld 7 (.t 2)), q 69 (.ld false 1 (.t 68)), q 70 (.len (.t 69)), ⟨(some 71), none, .call (.c (.func (.func 97) #[] #[])) [(.t 67), (.t 70)]⟩, q 6 (.mv (.t 71))])
 (.seq (.seq (.ops [q 72 (.mv (.t 6)), q 73 (.bin .neq (.t 72) (.c (i64 0)))])
 (.cond (.t 73) (.seq (.ops [q 74 (.ld true 9 (.t 2)), q 75 (.mv (.t 6)), ⟨(some 76), none, .call (.c (.func (.func 121) #[] #[])) [(.t 74), (.t 75)]⟩, ⟨none, none, .st 12 (.t 4) (.t 76)⟩])
 .ret) .skip))
 (.seq (.ops [q 77 (.ld true 9 (.t 5)), q 78 (.build [(i64 0), (i64 0), (i64 0), (i64 0), (i64 0), (i64 0), (str []), nils, nils, (str []), nils, (i64 0)] [(0, 9, (.t 77))]), ⟨none, none, .st 12 (.t 4) (.t 78)⟩])
 .ret))))) .skip))
 (.seq (.ops [q 80 (.ld true 9 (.t 2)), ⟨(some 81), none, .call (.c (.func (.func 117) #[] #[])) [(.t 80)]⟩, q 79 (.mv (.t 81)), q 82 (.ext 0 (.t 79)), q 83 (.ext 1 (.t 79)), q 84 (.ext 2 (.t 79)), q 7 (.mv (.t 82)), q 8 (.mv (.t 83)), q 9 (.mv (.t 84))])
 (.seq (.ops [q 10 (.mv (.c (i64 0)))])
 (.seq (.block 0 (.seq (.ops [q 86 (.fld 8 (.t 2)), q 87 (.ld false 1 (.t 86)), q 88 (.len (.t 87)), q 89 (.fld 2 (.t 2)), q 90 (.ld false 1 (.t 89)), q 91 (.bin .neq (.t 88) (.t 90)), q 85 (.mv (.t 91))])
 (.cond (.t 85) (.ops [q 10 (.mv (.c (i64 4)))]) (.seq (.dops true (.tk (q 93 (.fld 7 (.t 2))) (.tk (q 94 (.ld false 1 (.t 93))) (.tk (q 95 (.fld 8 (.t 2))) (.tk (q 96 (.ld false 1 (.t 95))) (.tk (q 99 (.fld 6 (.t 2))) (.tk (q 100 (.ld false 1 (.t 99))) (.sq (⟨(some 97), none, .call (.c (.func (.func 96) #[] #[])) [(.t 94), (.t 96)]⟩) (.sq (⟨(some 98), none, .call (.c (.func (.func 88) #[] #[])) [(.t 97)]⟩) (.tk (q 101 (.bin .neq (.t 98) (.t 100))) (.tk (q 92 (.mv (.t 101))) .nil)))))))))))
 (.cond (.t 92) (.ops [q 10 (.mv (.c (i64 5)))]) (.seq (.ops [q 103 (.mv (.t 8)), q 104 (.fld 3 (.t 2)), q 105 (.ld false 1 (.t 104)), q 106 (.bin .gtr (.t 103) (.t 105)), q 102 (.mv (.t 106))])
 (.cond (.t 102) (.ops [q 10 (.mv (.c (i64 11)))]) .skip)))))))
 (.seq (.seq (.ops [q 107 (.mv (.t 10)), q 108 (.bin .neq (.t 107) (.c (i64 0)))])
 (.cond (.t 108) (.seq (.ops [q 109 (.ld true 9 (.t 2)), ⟨(some 110), none, .call (.c (.func (.func 122) #[] #[])) [(.t 109)]⟩, q 111 (.mv (.t 10)), q 112 (.build [(i64 0), (i64 0), (i64 0), (i64 0), (i64 0), (i64 0), (str []), nils, nils, (str []), nils, (i64 0)] [(0, 9, (.t 110)), (11, 1, (.t 111))]), ⟨none, none, .st 12 (.t 4) (.t 112)⟩])
 .ret) .skip))
 (.seq (.ops [q 113 (.fld 0 (.t 5)), ⟨none, none, .st 1 (.t 113) (.c (i64 3))⟩])
 (.seq (.ops [q 114 (.ld true 9 (.t 5)), q 115 (.build [(i64 0), (i64 0), (i64 0), (i64 0), (i64 0), (i64 0), (str []), nils, nils, (str []), nils, (i64 0)] [(0, 9, (.t 114))]), ⟨none, none, .st 12 (.t 4) (.t 115)⟩])
 .ret)))))))))))
theorem w_spec_l15Load {args : List Value} {h : H} {Q : Value → H → Prop} (hl : args.length ≤ 116) (hk : wpc Tryz.prog b_spec_l15Load (retw [.cell 4 true 12] Q) (argsFr args) h) : AC Tryz.prog 120 args h Q :=
  AC.of_wpc mixedOrders Tryz.func120 (by kernel_rfl) (by kernel_rfl : prepF Tryz.prog Tryz.f120 = some ⟨116, [.cell 4 true 12], b_spec_l15Load⟩) hl hk

set_option maxHeartbeats 1600000 in
theorem ldo1_ac {h : H} {cs : List Value} {i : UIdeal} {A B : Int} {dg : List UInt8} {st : UStep} (hv : RepR h (spIdeal i) cs) (hs : i.small) (hok : idealOk i) (hc : cmdOk ⟨1, A, B, dg, st⟩) : AC Tryz.prog 120 [.agg cs.toArray, .agg (UCmd.cells ⟨1, A, B, dg, st⟩).toArray] h fun r h' => SpecI h (doI i ⟨1, A, B, dg, st⟩) r h' := by
  have hv0 := hv
  obtain ⟨vb, vs, rfl, sb, ss⟩ := ideal_r.1 hv
  obtain ⟨p1, p2, p3, p4⟩ := phase_of hok
  have y1 := sb.one
  have y2 := ss.one
  skip
  unfold doI
  rw [if_pos rfl]
  refine w_spec_l15Load (by simp) ?_
  unfold b_spec_l15Load
  simp -implicitDefEqProofs only [go_sem, y1, y2]
  intro b2 hb_b2 n_b2
  simp -implicitDefEqProofs only [go_sem, y1, y2, hb_b2]
  intro b3 hb_b3 m0_b3
  obtain ⟨z_b3_b2, y_b3_b2, n_b3⟩ := fne m0_b3
  simp only [H.set_base] at hb_b3
  simp -implicitDefEqProofs only [go_sem, y1, y2, hb_b2, hb_b3, z_b3_b2, y_b3_b2]
  intro b4 hb_b4 m0_b4
  obtain ⟨z_b4_b3, y_b4_b3, m1_b4⟩ := fne m0_b4
  obtain ⟨z_b4_b2, y_b4_b2, n_b4⟩ := fne m1_b4
  simp only [H.set_base] at hb_b4
  simp -implicitDefEqProofs only [go_sem, y1, y2, hb_b2, hb_b3, z_b3_b2, y_b3_b2, hb_b4, z_b4_b3, y_b4_b3, z_b4_b2, y_b4_b2]
  have EA : Ext h (((h.set b2 ⟨i.cells vb vs, 9⟩).set b3 ⟨(UCmd.cells ⟨1, A, B, dg, st⟩), 8⟩).set b4 ⟨[i64 0, i64 0, i64 0, i64 0, i64 0, i64 0, str [], nils, nils, str [], nils, i64 0], 12⟩) := ((((Ext.refl _).set' n_b2 _).set' n_b3 _).set' n_b4 _)
  have n4h : h.get b4 = none := by assumption
  have gA4 : (((h.set b2 ⟨i.cells vb vs, 9⟩).set b3 ⟨(UCmd.cells ⟨1, A, B, dg, st⟩), 8⟩).set b4 ⟨[i64 0, i64 0, i64 0, i64 0, i64 0, i64 0, str [], nils, nils, str [], nils, i64 0], 12⟩).get b4 = some ⟨[i64 0, i64 0, i64 0, i64 0, i64 0, i64 0, str [], nils, nils, str [], nils, i64 0], 12⟩ := H.set_get_same _ _ _
  have gA3 : (((h.set b2 ⟨i.cells vb vs, 9⟩).set b3 ⟨(UCmd.cells ⟨1, A, B, dg, st⟩), 8⟩).set b4 ⟨[i64 0, i64 0, i64 0, i64 0, i64 0, i64 0, str [], nils, nils, str [], nils, i64 0], 12⟩).get b3 = some ⟨(UCmd.cells ⟨1, A, B, dg, st⟩), 8⟩ := by simp -implicitDefEqProofs only [go_sem, y1, y2, hb_b2, hb_b3, z_b3_b2, y_b3_b2, hb_b4, z_b4_b3, y_b4_b3, z_b4_b2, y_b4_b2]
  have gA2 : (((h.set b2 ⟨i.cells vb vs, 9⟩).set b3 ⟨(UCmd.cells ⟨1, A, B, dg, st⟩), 8⟩).set b4 ⟨[i64 0, i64 0, i64 0, i64 0, i64 0, i64 0, str [], nils, nils, str [], nils, i64 0], 12⟩).get b2 = some ⟨i.cells vb vs, 9⟩ := by simp -implicitDefEqProofs only [go_sem, y1, y2, hb_b2, hb_b3, z_b3_b2, y_b3_b2, hb_b4, z_b4_b3, y_b4_b3, z_b4_b2, y_b4_b2]
  have bA4 : (((h.set b2 ⟨i.cells vb vs, 9⟩).set b3 ⟨(UCmd.cells ⟨1, A, B, dg, st⟩), 8⟩).set b4 ⟨[i64 0, i64 0, i64 0, i64 0, i64 0, i64 0, str [], nils, nils, str [], nils, i64 0], 12⟩).base ≤ b4 := by rw [EA.1]; exact hb_b4
  generalize (((h.set b2 ⟨i.cells vb vs, 9⟩).set b3 ⟨(UCmd.cells ⟨1, A, B, dg, st⟩), 8⟩).set b4 ⟨[i64 0, i64 0, i64 0, i64 0, i64 0, i64 0, str [], nils, nils, str [], nils, i64 0], 12⟩) = hA at *
  skip
  refine AC_of (l15CopyO_ac (hv0.ext EA) hs) ?_
  rintro _ h1 - ⟨e1, ub, us, rfl, F1, F2, d⟩
  have v1 := F1.sl.one
  have v2 := F2.sl.one
  have v3 := F1.sl.vcl
  have v4 := F2.sl.vcl
  skip
  simp -implicitDefEqProofs only [go_sem, y1, y2, v1, v2, v3, v4]
  intro b5 hb5 n5
  have z52 : (b2 = b5) = False := eq_false fun e => by subst e; rw [e1.2.g _ _ gA2] at n5; cases n5
  have z53 : (b3 = b5) = False := eq_false fun e => by subst e; rw [e1.2.g _ _ gA3] at n5; cases n5
  have z54 : (b4 = b5) = False := eq_false fun e => by subst e; rw [e1.2.g _ _ gA4] at n5; cases n5
  have y52 : (b5 = b2) = False := eq_false fun e => (of_eq_false z52) e.symm
  have y53 : (b5 = b3) = False := eq_false fun e => (of_eq_false z53) e.symm
  have y54 : (b5 = b4) = False := eq_false fun e => (of_eq_false z54) e.symm
  have k5 : BoxI hA (h1.set b5 ⟨i.cells ub us, 9⟩) b5 i ub us := ⟨e1.set n5 _, e1.none n5, H.set_get_same _ _ _, by rw [H.set_base]; exact hb5, F1.ext ((Ext.refl _).set n5 _), F2.ext ((Ext.refl _).set n5 _), d, fun e => F1.known b5 e n5, fun e => by obtain ⟨_, _, z, hg⟩ := F2.ob_new e; rw [n5] at hg; cases hg⟩
  have e5 := e1.set n5 ⟨i.cells ub us, 9⟩
  have Q3 := fun o n => ldc_get (e1.2.g b3 _ gA3) o n
  have Q2 := fun o n => ldc_get (e1.2.g b2 _ gA2) o n
  simp -implicitDefEqProofs only [go_sem, hb5, z53, z52, y53, y52, Q3, Q2, y1, y2, v1, v2, v3, v4]
  clear Q3 Q2
  generalize h1.set b5 ⟨i.cells ub us, 9⟩ = hB at *
  have EB := EA.trans e5
  have g2 := e5.2.g b2 _ gA2
  have g3 := e5.2.g b3 _ gA3
  have g4 := e5.2.g b4 _ gA4
  have hb4B : hB.base ≤ b4 := by rw [e5.1]; exact bA4
  have G2 := fun o n => ldc_get g2 o n
  have G3 := fun o n => ldc_get g3 o n
  have G4 := fun o n => ldc_get g4 o n
  have S4 := fun o n cs => stc_get g4 o n cs
  have G5 := fun o n => ldc_get k5.g o n
  have S5 := fun o n cs => stc_get k5.g o n cs
  have H5 := k5.hb
  skip
  try simp -implicitDefEqProofs only [go_sem, y1, y2, v1, v2, v3, v4, z52, z53, z54, y52, y53, y54, hb4B, G2, G3, G4, S4, G5, S5, H5]
  have c1 : 1 ≤ A ∧ A ≤ 20 := by have := hc.2.1; rw [if_pos rfl] at this; exact this
  have c2 : 0 ≤ B ∧ B ≤ 4 := by have := hc.2.2.1; rw [if_pos rfl] at this; exact this
  by_cases q1 : i.phase = 1
  rotate_left
  · rw [if_pos q1]
    simp -implicitDefEqProofs only [go_sem, q1, y1, y2, v1, v2, v3, v4, z52, z53, z54, y52, y53, y54, hb4B, G2, G3, G4, S4, G5, S5, H5]
    refine AC_of (l15Fail_ac (n := 10) (hv0.ext EB) hs) ?_
    rintro _ h6 - ⟨e6, cs6, rfl, f6⟩
    have l6 := f6.r.len
    simp only [List.length_cons, List.length_nil, Nat.reduceAdd] at l6
    have t6 := take_len l6
    have o6 := f6.r.one
    have g6 := e6.2.g b4 _ g4
    have hb6 : h6.base ≤ b4 := by rw [e6.1]; exact hb4B
    simp -implicitDefEqProofs only [go_sem, ldc_get g6, stc_get g6, hb6, l6, t6, o6, y1, y2, v1, v2, v3, v4, z52, z53, z54, y52, y53, y54, hb4B, G2, G3, G4, S4, G5, S5, H5]
    exact spec_fin EA n4h gA4 e5 e6 f6 _
  rw [if_neg (fun e => e q1)]
  have hz : i.need = 0 ∧ i.stash = 0 := by have h5 := hok.2.2.2; rw [if_pos q1] at h5; exact ⟨h5.2.1, h5.2.2.1⟩
  simp -implicitDefEqProofs only [go_sem, eq_true q1, wrap_i64 (show -(9223372036854775808 : Int) ≤ (A + B) by omega) (show (A + B) < 9223372036854775808 by omega), y1, y2, v1, v2, v3, v4, z52, z53, z54, y52, y53, y54, hb4B, G2, G3, G4, S4, G5, S5, H5]
  refine (l15Free_pc (hv0.ext EB) ⟨p1, p2, p3⟩).use ?_
  refine ⟨Sub.refl _, ?_⟩
  by_cases q2 : freeI i < A + B
  · have q2' : 24 < A + B + i.held := by unfold freeI at q2; omega
    rw [if_pos q2']
    simp -implicitDefEqProofs only [go_sem, q2, wrap_i64 (show -(9223372036854775808 : Int) ≤ (A + B) by omega) (show (A + B) < 9223372036854775808 by omega), y1, y2, v1, v2, v3, v4, z52, z53, z54, y52, y53, y54, hb4B, G2, G3, G4, S4, G5, S5, H5]
    refine AC_of (l15Fail_ac (n := 11) (hv0.ext EB) hs) ?_
    rintro _ h6 - ⟨e6, cs6, rfl, f6⟩
    have l6 := f6.r.len
    simp only [List.length_cons, List.length_nil, Nat.reduceAdd] at l6
    have t6 := take_len l6
    have o6 := f6.r.one
    have g6 := e6.2.g b4 _ g4
    have hb6 : h6.base ≤ b4 := by rw [e6.1]; exact hb4B
    simp -implicitDefEqProofs only [go_sem, ldc_get g6, stc_get g6, hb6, l6, t6, o6, y1, y2, v1, v2, v3, v4, z52, z53, z54, y52, y53, y54, hb4B, G2, G3, G4, S4, G5, S5, H5]
    exact spec_fin EA n4h gA4 e5 e6 f6 _
  have q2' : ¬ (24 < A + B + i.held) := by unfold freeI at q2; omega
  rw [if_neg q2']
  have k6 := k5.put { i with phase := 2, need := A, stash := B, digest := dg } rfl rfl
  simp -implicitDefEqProofs only [go_sem, q2, wrap_i64 (show -(9223372036854775808 : Int) ≤ (A + B) by omega) (show (A + B) < 9223372036854775808 by omega), y1, y2, v1, v2, v3, v4, z52, z53, z54, y52, y53, y54, hb4B, G2, G3, G4, S4, G5, S5, H5]
  exact spec_box2 (of_eq_false z54) EA n4h gA4 k6.e (k6.out [] 0) _
  skip
set_option maxHeartbeats 1600000 in
theorem ldo2_ac {h : H} {cs : List Value} {i : UIdeal} {A B : Int} {dg : List UInt8} {st : UStep} (hv : RepR h (spIdeal i) cs) (hs : i.small) (hok : idealOk i) (hc : cmdOk ⟨2, A, B, dg, st⟩) : AC Tryz.prog 120 [.agg cs.toArray, .agg (UCmd.cells ⟨2, A, B, dg, st⟩).toArray] h fun r h' => SpecI h (doI i ⟨2, A, B, dg, st⟩) r h' := by
  have hv0 := hv
  obtain ⟨vb, vs, rfl, sb, ss⟩ := ideal_r.1 hv
  obtain ⟨p1, p2, p3, p4⟩ := phase_of hok
  have y1 := sb.one
  have y2 := ss.one
  skip
  unfold doI
  rw [if_neg (show ¬ ((2 : Int) = 1) by decide)]
  rw [if_pos rfl]
  refine w_spec_l15Load (by simp) ?_
  unfold b_spec_l15Load
  simp -implicitDefEqProofs only [go_sem, y1, y2]
  intro b2 hb_b2 n_b2
  simp -implicitDefEqProofs only [go_sem, y1, y2, hb_b2]
  intro b3 hb_b3 m0_b3
  obtain ⟨z_b3_b2, y_b3_b2, n_b3⟩ := fne m0_b3
  simp only [H.set_base] at hb_b3
  simp -implicitDefEqProofs only [go_sem, y1, y2, hb_b2, hb_b3, z_b3_b2, y_b3_b2]
  intro b4 hb_b4 m0_b4
  obtain ⟨z_b4_b3, y_b4_b3, m1_b4⟩ := fne m0_b4
  obtain ⟨z_b4_b2, y_b4_b2, n_b4⟩ := fne m1_b4
  simp only [H.set_base] at hb_b4
  simp -implicitDefEqProofs only [go_sem, y1, y2, hb_b2, hb_b3, z_b3_b2, y_b3_b2, hb_b4, z_b4_b3, y_b4_b3, z_b4_b2, y_b4_b2]
  have EA : Ext h (((h.set b2 ⟨i.cells vb vs, 9⟩).set b3 ⟨(UCmd.cells ⟨2, A, B, dg, st⟩), 8⟩).set b4 ⟨[i64 0, i64 0, i64 0, i64 0, i64 0, i64 0, str [], nils, nils, str [], nils, i64 0], 12⟩) := ((((Ext.refl _).set' n_b2 _).set' n_b3 _).set' n_b4 _)
  have n4h : h.get b4 = none := by assumption
  have gA4 : (((h.set b2 ⟨i.cells vb vs, 9⟩).set b3 ⟨(UCmd.cells ⟨2, A, B, dg, st⟩), 8⟩).set b4 ⟨[i64 0, i64 0, i64 0, i64 0, i64 0, i64 0, str [], nils, nils, str [], nils, i64 0], 12⟩).get b4 = some ⟨[i64 0, i64 0, i64 0, i64 0, i64 0, i64 0, str [], nils, nils, str [], nils, i64 0], 12⟩ := H.set_get_same _ _ _
  have gA3 : (((h.set b2 ⟨i.cells vb vs, 9⟩).set b3 ⟨(UCmd.cells ⟨2, A, B, dg, st⟩), 8⟩).set b4 ⟨[i64 0, i64 0, i64 0, i64 0, i64 0, i64 0, str [], nils, nils, str [], nils, i64 0], 12⟩).get b3 = some ⟨(UCmd.cells ⟨2, A, B, dg, st⟩), 8⟩ := by simp -implicitDefEqProofs only [go_sem, y1, y2, hb_b2, hb_b3, z_b3_b2, y_b3_b2, hb_b4, z_b4_b3, y_b4_b3, z_b4_b2, y_b4_b2]
  have gA2 : (((h.set b2 ⟨i.cells vb vs, 9⟩).set b3 ⟨(UCmd.cells ⟨2, A, B, dg, st⟩), 8⟩).set b4 ⟨[i64 0, i64 0, i64 0, i64 0, i64 0, i64 0, str [], nils, nils, str [], nils, i64 0], 12⟩).get b2 = some ⟨i.cells vb vs, 9⟩ := by simp -implicitDefEqProofs only [go_sem, y1, y2, hb_b2, hb_b3, z_b3_b2, y_b3_b2, hb_b4, z_b4_b3, y_b4_b3, z_b4_b2, y_b4_b2]
  have bA4 : (((h.set b2 ⟨i.cells vb vs, 9⟩).set b3 ⟨(UCmd.cells ⟨2, A, B, dg, st⟩), 8⟩).set b4 ⟨[i64 0, i64 0, i64 0, i64 0, i64 0, i64 0, str [], nils, nils, str [], nils, i64 0], 12⟩).base ≤ b4 := by rw [EA.1]; exact hb_b4
  generalize (((h.set b2 ⟨i.cells vb vs, 9⟩).set b3 ⟨(UCmd.cells ⟨2, A, B, dg, st⟩), 8⟩).set b4 ⟨[i64 0, i64 0, i64 0, i64 0, i64 0, i64 0, str [], nils, nils, str [], nils, i64 0], 12⟩) = hA at *
  skip
  refine AC_of (l15CopyO_ac (hv0.ext EA) hs) ?_
  rintro _ h1 - ⟨e1, ub, us, rfl, F1, F2, d⟩
  have v1 := F1.sl.one
  have v2 := F2.sl.one
  have v3 := F1.sl.vcl
  have v4 := F2.sl.vcl
  skip
  simp -implicitDefEqProofs only [go_sem, y1, y2, v1, v2, v3, v4]
  intro b5 hb5 n5
  have z52 : (b2 = b5) = False := eq_false fun e => by subst e; rw [e1.2.g _ _ gA2] at n5; cases n5
  have z53 : (b3 = b5) = False := eq_false fun e => by subst e; rw [e1.2.g _ _ gA3] at n5; cases n5
  have z54 : (b4 = b5) = False := eq_false fun e => by subst e; rw [e1.2.g _ _ gA4] at n5; cases n5
  have y52 : (b5 = b2) = False := eq_false fun e => (of_eq_false z52) e.symm
  have y53 : (b5 = b3) = False := eq_false fun e => (of_eq_false z53) e.symm
  have y54 : (b5 = b4) = False := eq_false fun e => (of_eq_false z54) e.symm
  have k5 : BoxI hA (h1.set b5 ⟨i.cells ub us, 9⟩) b5 i ub us := ⟨e1.set n5 _, e1.none n5, H.set_get_same _ _ _, by rw [H.set_base]; exact hb5, F1.ext ((Ext.refl _).set n5 _), F2.ext ((Ext.refl _).set n5 _), d, fun e => F1.known b5 e n5, fun e => by obtain ⟨_, _, z, hg⟩ := F2.ob_new e; rw [n5] at hg; cases hg⟩
  have e5 := e1.set n5 ⟨i.cells ub us, 9⟩
  have Q3 := fun o n => ldc_get (e1.2.g b3 _ gA3) o n
  have Q2 := fun o n => ldc_get (e1.2.g b2 _ gA2) o n
  simp -implicitDefEqProofs only [go_sem, hb5, z53, z52, y53, y52, Q3, Q2, y1, y2, v1, v2, v3, v4]
  clear Q3 Q2
  generalize h1.set b5 ⟨i.cells ub us, 9⟩ = hB at *
  have EB := EA.trans e5
  have g2 := e5.2.g b2 _ gA2
  have g3 := e5.2.g b3 _ gA3
  have g4 := e5.2.g b4 _ gA4
  have hb4B : hB.base ≤ b4 := by rw [e5.1]; exact bA4
  have G2 := fun o n => ldc_get g2 o n
  have G3 := fun o n => ldc_get g3 o n
  have G4 := fun o n => ldc_get g4 o n
  have S4 := fun o n cs => stc_get g4 o n cs
  have G5 := fun o n => ldc_get k5.g o n
  have S5 := fun o n cs => stc_get k5.g o n cs
  have H5 := k5.hb
  skip
  try simp -implicitDefEqProofs only [go_sem, y1, y2, v1, v2, v3, v4, z52, z53, z54, y52, y53, y54, hb4B, G2, G3, G4, S4, G5, S5, H5]
  have hls : (i.steps.map UStep.cells).length = i.steps.length := by simp
  have h20 := idealOk_steps hok
  have hne : i.base ≠ [] := fun e => by have := hok.2.1.1; rw [e] at this; simp at this
  obtain ⟨avs, cvs, bvs, ovs, evs, _⟩ := id ss
  subst evs
  rw [hls] at hv0 ss
  obtain ⟨avb, cvb, bvb, ovb, evb, _⟩ := id sb
  have hlb : (strs i.base).length = i.base.length := by simp
  subst evb
  rw [hlb] at hv0 sb
  obtain ⟨aus, cus, rfl⟩ := k5.f2.shape
  rw [hls] at k5
  skip
  by_cases q1 : i.phase = 2
  rotate_left
  · rw [if_pos q1]
    simp -implicitDefEqProofs only [go_sem, q1, y1, y2, v1, v2, v3, v4, z52, z53, z54, y52, y53, y54, hb4B, G2, G3, G4, S4, G5, S5, H5, hls, hlb]
    refine AC_of (l15Fail_ac (n := 10) (hv0.ext EB) hs) ?_
    rintro _ h6 - ⟨e6, cs6, rfl, f6⟩
    have l6 := f6.r.len
    simp only [List.length_cons, List.length_nil, Nat.reduceAdd] at l6
    have t6 := take_len l6
    have o6 := f6.r.one
    have g6 := e6.2.g b4 _ g4
    have hb6 : h6.base ≤ b4 := by rw [e6.1]; exact hb4B
    simp -implicitDefEqProofs only [go_sem, ldc_get g6, stc_get g6, hb6, l6, t6, o6, y1, y2, v1, v2, v3, v4, z52, z53, z54, y52, y53, y54, hb4B, G2, G3, G4, S4, G5, S5, H5, hls, hlb]
    exact spec_fin EA n4h gA4 e5 e6 f6 _
  rw [if_neg (fun e => e q1)]
  have hle : (i.steps.length : Int) ≤ i.need := by have h5 := hok.2.2.2; rw [if_neg (by omega)] at h5; exact h5.1.2.2.2.2.2
  by_cases q2 : (i.steps.length : Int) = i.need
  · rw [if_pos q2]
    simp -implicitDefEqProofs only [go_sem, eq_true q1, show i.need ≤ (i.steps.length : Int) by omega, y1, y2, v1, v2, v3, v4, z52, z53, z54, y52, y53, y54, hb4B, G2, G3, G4, S4, G5, S5, H5, hls, hlb]
    refine AC_of (l15Fail_ac (n := 9) (hv0.ext EB) hs) ?_
    rintro _ h6 - ⟨e6, cs6, rfl, f6⟩
    have l6 := f6.r.len
    simp only [List.length_cons, List.length_nil, Nat.reduceAdd] at l6
    have t6 := take_len l6
    have o6 := f6.r.one
    have g6 := e6.2.g b4 _ g4
    have hb6 : h6.base ≤ b4 := by rw [e6.1]; exact hb4B
    simp -implicitDefEqProofs only [go_sem, ldc_get g6, stc_get g6, hb6, l6, t6, o6, y1, y2, v1, v2, v3, v4, z52, z53, z54, y52, y53, y54, hb4B, G2, G3, G4, S4, G5, S5, H5, hls, hlb]
    exact spec_fin EA n4h gA4 e5 e6 f6 _
  rw [if_neg q2]
  simp -implicitDefEqProofs only [go_sem, eq_true q1, show ¬ i.need ≤ (i.steps.length : Int) by omega, y1, y2, v1, v2, v3, v4, z52, z53, z54, y52, y53, y54, hb4B, G2, G3, G4, S4, G5, S5, H5, hls, hlb]
  intro bx hbx nx
  have X := (Ext.refl hB).set nx ⟨st.cells, 4⟩
  have k6 := k5.ext X
  have g46 := X.2.g b4 _ g4
  have g26 := X.2.g b2 _ g2
  have z4x : (b4 = bx) = False := eq_false fun e => by subst e; rw [g4] at nx; cases nx
  simp -implicitDefEqProofs only [go_sem, z4x, y1, y2, v1, v2, v3, v4, z52, z53, z54, y52, y53, y54, hb4B, G2, G3, G4, S4, G5, S5, H5, hls, hlb]
  refine appW_ownB (new := [st.cells]) (fun c hc => k6.e.none hc) k6.f2 rfl (by intro r hr; simp at hr; subst hr; rfl) rfl (by rw [hls]; simp; omega) ?_ (fun h => by cases h)
  intro v' b' x hb' hor hob o5
  have E6 := EB.trans X
  have hbb : b5 ≠ b' := by
    rintro rfl
    rcases hor with e | e
    · exact k6.n2 e
    · rw [k6.g] at e; cases e
  have hvb : blk ub ≠ some b' := fun e => by
    rcases hor with e2 | e2
    · exact ob_ne k6.f1 k6.f2 k6.d hne e e2
    · exact k6.f1.known b' e e2
  have E7 : Ext hA ((hB.set bx ⟨st.cells, 4⟩).set b' x) := k6.e.set' hb' _
  have g57 : ((hB.set bx ⟨st.cells, 4⟩).set b' x).get b5 = some ⟨i.cells ub (.slice aus i.steps.length cus), 9⟩ := by rw [H.set_get_ne _ _ _ _ hbb]; exact k6.g
  have B57 : ((hB.set bx ⟨st.cells, 4⟩).set b' x).base ≤ b5 := by rw [H.set_base]; exact k6.hb
  have F5 := Fre.setNe k6.f1 hvb x
  have hmap : i.steps.map UStep.cells ++ [st.cells] = (i.steps ++ [st]).map UStep.cells := by simp
  rw [hmap] at o5
  generalize (hB.set bx ⟨st.cells, 4⟩).set b' x = h5 at *
  have g27 := E7.2.g b2 _ gA2
  have k7 : BoxI hA (h5.set b5 ⟨({ i with steps := i.steps ++ [st] } : UIdeal).cells ub v', 9⟩) b5 { i with steps := i.steps ++ [st] } ub v' :=
    ⟨E7.set' k6.nb _, k6.nb, H.set_get_same _ _ _, by rw [H.set_base]; exact B57, Fre.setNe F5 k6.n1 _, o5.setOb (fun e => hbb (hob _ e)) _, fun y h1 h2 => hvb (by rw [h1, hob y (blk_ob h2)]), k6.n1, fun e => hbb (hob _ e)⟩
  have v5 := o5.sl.one
  have v6 := o5.sl.vcl
  have g47 := k7.e.2.g b4 _ gA4
  have hb47 : (h5.set b5 ⟨({ i with steps := i.steps ++ [st] } : UIdeal).cells ub v', 9⟩).base ≤ b4 := by rw [k7.e.1]; exact bA4
  have g28 := k7.e.2.g b2 _ gA2
  have G57 := fun o n => ldc_get g57 o n
  have S57 := fun o n cs => stc_get g57 o n cs
  have G27 := fun o n => ldc_get g27 o n
  skip
  simp -implicitDefEqProofs only [go_sem, y1, y2, v1, v2, v3, v4, z52, z53, z54, y52, y53, y54, hb4B, G2, G3, G4, S4, G5, S5, H5, hls, hlb, G57, S57, B57, G27, v5, v6]
  refine (specStepsCode_pc k7.f2.sl (by simp; omega)).use ?_
  have Eh := EA.trans k7.e
  by_cases q3 : codeOf (i.steps ++ [st]) i.base.length = 0
  rotate_left
  · rw [if_pos q3]
    simp -implicitDefEqProofs only [go_sem, q3, ldc_get g28, y1, y2, v1, v2, v3, v4, z52, z53, z54, y52, y53, y54, hb4B, G2, G3, G4, S4, G5, S5, H5, hls, hlb, G57, S57, B57, G27, v5, v6]
    refine AC_of (l15Fail_ac (n := codeOf (i.steps ++ [st]) i.base.length) (hv0.ext Eh) hs) ?_
    rintro _ h8 - ⟨e8, cs6, rfl, f6⟩
    have l6 := f6.r.len
    simp only [List.length_cons, List.length_nil, Nat.reduceAdd] at l6
    have t6 := take_len l6
    have o6 := f6.r.one
    have g48 := e8.2.g b4 _ g47
    have hb48 : h8.base ≤ b4 := by rw [e8.1]; exact hb47
    simp -implicitDefEqProofs only [go_sem, ldc_get g48, stc_get g48, hb48, l6, t6, o6, y1, y2, v1, v2, v3, v4, z52, z53, z54, y52, y53, y54, hb4B, G2, G3, G4, S4, G5, S5, H5, hls, hlb, G57, S57, B57, G27, v5, v6]
    exact spec_fin EA n4h gA4 k7.e e8 f6 _
  rw [if_neg (fun e => e q3)]
  have g45 := E7.2.g b4 _ gA4
  have hb45 : h5.base ≤ b4 := by rw [E7.1]; exact bA4
  simp -implicitDefEqProofs only [go_sem, q3, ldc_get k7.g, ldc_get g45, stc_get g45, hb45, y1, y2, v1, v2, v3, v4, z52, z53, z54, y52, y53, y54, hb4B, G2, G3, G4, S4, G5, S5, H5, hls, hlb, G57, S57, B57, G27, v5, v6]
  exact spec_box2 (of_eq_false z54) EA n4h gA4 k7.e (k7.out [] 0) _
  skip
set_option maxHeartbeats 1600000 in
theorem ldo3_ac {h : H} {cs : List Value} {i : UIdeal} {A B : Int} {dg : List UInt8} {st : UStep} (hv : RepR h (spIdeal i) cs) (hs : i.small) (hok : idealOk i) (hc : cmdOk ⟨3, A, B, dg, st⟩) : AC Tryz.prog 120 [.agg cs.toArray, .agg (UCmd.cells ⟨3, A, B, dg, st⟩).toArray] h fun r h' => SpecI h (doI i ⟨3, A, B, dg, st⟩) r h' := by
  have hv0 := hv
  obtain ⟨vb, vs, rfl, sb, ss⟩ := ideal_r.1 hv
  obtain ⟨p1, p2, p3, p4⟩ := phase_of hok
  have y1 := sb.one
  have y2 := ss.one
  skip
  unfold doI
  rw [if_neg (show ¬ ((3 : Int) = 1) by decide)]
  rw [if_neg (show ¬ ((3 : Int) = 2) by decide)]
  rw [if_pos rfl]
  refine w_spec_l15Load (by simp) ?_
  unfold b_spec_l15Load
  simp -implicitDefEqProofs only [go_sem, y1, y2]
  intro b2 hb_b2 n_b2
  simp -implicitDefEqProofs only [go_sem, y1, y2, hb_b2]
  intro b3 hb_b3 m0_b3
  obtain ⟨z_b3_b2, y_b3_b2, n_b3⟩ := fne m0_b3
  simp only [H.set_base] at hb_b3
  simp -implicitDefEqProofs only [go_sem, y1, y2, hb_b2, hb_b3, z_b3_b2, y_b3_b2]
  intro b4 hb_b4 m0_b4
  obtain ⟨z_b4_b3, y_b4_b3, m1_b4⟩ := fne m0_b4
  obtain ⟨z_b4_b2, y_b4_b2, n_b4⟩ := fne m1_b4
  simp only [H.set_base] at hb_b4
  simp -implicitDefEqProofs only [go_sem, y1, y2, hb_b2, hb_b3, z_b3_b2, y_b3_b2, hb_b4, z_b4_b3, y_b4_b3, z_b4_b2, y_b4_b2]
  have EA : Ext h (((h.set b2 ⟨i.cells vb vs, 9⟩).set b3 ⟨(UCmd.cells ⟨3, A, B, dg, st⟩), 8⟩).set b4 ⟨[i64 0, i64 0, i64 0, i64 0, i64 0, i64 0, str [], nils, nils, str [], nils, i64 0], 12⟩) := ((((Ext.refl _).set' n_b2 _).set' n_b3 _).set' n_b4 _)
  have n4h : h.get b4 = none := by assumption
  have gA4 : (((h.set b2 ⟨i.cells vb vs, 9⟩).set b3 ⟨(UCmd.cells ⟨3, A, B, dg, st⟩), 8⟩).set b4 ⟨[i64 0, i64 0, i64 0, i64 0, i64 0, i64 0, str [], nils, nils, str [], nils, i64 0], 12⟩).get b4 = some ⟨[i64 0, i64 0, i64 0, i64 0, i64 0, i64 0, str [], nils, nils, str [], nils, i64 0], 12⟩ := H.set_get_same _ _ _
  have gA3 : (((h.set b2 ⟨i.cells vb vs, 9⟩).set b3 ⟨(UCmd.cells ⟨3, A, B, dg, st⟩), 8⟩).set b4 ⟨[i64 0, i64 0, i64 0, i64 0, i64 0, i64 0, str [], nils, nils, str [], nils, i64 0], 12⟩).get b3 = some ⟨(UCmd.cells ⟨3, A, B, dg, st⟩), 8⟩ := by simp -implicitDefEqProofs only [go_sem, y1, y2, hb_b2, hb_b3, z_b3_b2, y_b3_b2, hb_b4, z_b4_b3, y_b4_b3, z_b4_b2, y_b4_b2]
  have gA2 : (((h.set b2 ⟨i.cells vb vs, 9⟩).set b3 ⟨(UCmd.cells ⟨3, A, B, dg, st⟩), 8⟩).set b4 ⟨[i64 0, i64 0, i64 0, i64 0, i64 0, i64 0, str [], nils, nils, str [], nils, i64 0], 12⟩).get b2 = some ⟨i.cells vb vs, 9⟩ := by simp -implicitDefEqProofs only [go_sem, y1, y2, hb_b2, hb_b3, z_b3_b2, y_b3_b2, hb_b4, z_b4_b3, y_b4_b3, z_b4_b2, y_b4_b2]
  have bA4 : (((h.set b2 ⟨i.cells vb vs, 9⟩).set b3 ⟨(UCmd.cells ⟨3, A, B, dg, st⟩), 8⟩).set b4 ⟨[i64 0, i64 0, i64 0, i64 0, i64 0, i64 0, str [], nils, nils, str [], nils, i64 0], 12⟩).base ≤ b4 := by rw [EA.1]; exact hb_b4
  generalize (((h.set b2 ⟨i.cells vb vs, 9⟩).set b3 ⟨(UCmd.cells ⟨3, A, B, dg, st⟩), 8⟩).set b4 ⟨[i64 0, i64 0, i64 0, i64 0, i64 0, i64 0, str [], nils, nils, str [], nils, i64 0], 12⟩) = hA at *
  skip
  refine AC_of (l15CopyO_ac (hv0.ext EA) hs) ?_
  rintro _ h1 - ⟨e1, ub, us, rfl, F1, F2, d⟩
  have v1 := F1.sl.one
  have v2 := F2.sl.one
  have v3 := F1.sl.vcl
  have v4 := F2.sl.vcl
  skip
  simp -implicitDefEqProofs only [go_sem, y1, y2, v1, v2, v3, v4]
  intro b5 hb5 n5
  have z52 : (b2 = b5) = False := eq_false fun e => by subst e; rw [e1.2.g _ _ gA2] at n5; cases n5
  have z53 : (b3 = b5) = False := eq_false fun e => by subst e; rw [e1.2.g _ _ gA3] at n5; cases n5
  have z54 : (b4 = b5) = False := eq_false fun e => by subst e; rw [e1.2.g _ _ gA4] at n5; cases n5
  have y52 : (b5 = b2) = False := eq_false fun e => (of_eq_false z52) e.symm
  have y53 : (b5 = b3) = False := eq_false fun e => (of_eq_false z53) e.symm
  have y54 : (b5 = b4) = False := eq_false fun e => (of_eq_false z54) e.symm
  have k5 : BoxI hA (h1.set b5 ⟨i.cells ub us, 9⟩) b5 i ub us := ⟨e1.set n5 _, e1.none n5, H.set_get_same _ _ _, by rw [H.set_base]; exact hb5, F1.ext ((Ext.refl _).set n5 _), F2.ext ((Ext.refl _).set n5 _), d, fun e => F1.known b5 e n5, fun e => by obtain ⟨_, _, z, hg⟩ := F2.ob_new e; rw [n5] at hg; cases hg⟩
  have e5 := e1.set n5 ⟨i.cells ub us, 9⟩
  have Q3 := fun o n => ldc_get (e1.2.g b3 _ gA3) o n
  have Q2 := fun o n => ldc_get (e1.2.g b2 _ gA2) o n
  simp -implicitDefEqProofs only [go_sem, hb5, z53, z52, y53, y52, Q3, Q2, y1, y2, v1, v2, v3, v4]
  clear Q3 Q2
  generalize h1.set b5 ⟨i.cells ub us, 9⟩ = hB at *
  have EB := EA.trans e5
  have g2 := e5.2.g b2 _ gA2
  have g3 := e5.2.g b3 _ gA3
  have g4 := e5.2.g b4 _ gA4
  have hb4B : hB.base ≤ b4 := by rw [e5.1]; exact bA4
  have G2 := fun o n => ldc_get g2 o n
  have G3 := fun o n => ldc_get g3 o n
  have G4 := fun o n => ldc_get g4 o n
  have S4 := fun o n cs => stc_get g4 o n cs
  have G5 := fun o n => ldc_get k5.g o n
  have S5 := fun o n cs => stc_get k5.g o n cs
  have H5 := k5.hb
  skip
  try simp -implicitDefEqProofs only [go_sem, y1, y2, v1, v2, v3, v4, z52, z53, z54, y52, y53, y54, hb4B, G2, G3, G4, S4, G5, S5, H5]
  have hls : (i.steps.map UStep.cells).length = i.steps.length := by simp
  have h20 := idealOk_steps hok
  have hcz := code_zero (idealOk_code hok)
  obtain ⟨avs, cvs, bvs, ovs, evs, _⟩ := id ss
  subst evs
  rw [hls] at hv0 ss
  skip
  by_cases q1 : i.phase = 2
  rotate_left
  · rw [if_pos q1]
    simp -implicitDefEqProofs only [go_sem, q1, y1, y2, v1, v2, v3, v4, z52, z53, z54, y52, y53, y54, hb4B, G2, G3, G4, S4, G5, S5, H5, hls]
    refine AC_of (l15Fail_ac (n := 10) (hv0.ext EB) hs) ?_
    rintro _ h6 - ⟨e6, cs6, rfl, f6⟩
    have l6 := f6.r.len
    simp only [List.length_cons, List.length_nil, Nat.reduceAdd] at l6
    have t6 := take_len l6
    have o6 := f6.r.one
    have g6 := e6.2.g b4 _ g4
    have hb6 : h6.base ≤ b4 := by rw [e6.1]; exact hb4B
    simp -implicitDefEqProofs only [go_sem, ldc_get g6, stc_get g6, hb6, l6, t6, o6, y1, y2, v1, v2, v3, v4, z52, z53, z54, y52, y53, y54, hb4B, G2, G3, G4, S4, G5, S5, H5, hls]
    exact spec_fin EA n4h gA4 e5 e6 f6 _
  rw [if_neg (fun e => e q1)]
  simp -implicitDefEqProofs only [go_sem, eq_true q1, y1, y2, v1, v2, v3, v4, z52, z53, z54, y52, y53, y54, hb4B, G2, G3, G4, S4, G5, S5, H5, hls]
  refine (l15Moves_pc (hv0.ext EB) hs).use ?_
  rw [planOf_ok (idealOk_code hok)]
  have h28 := mv_28 (idealOk_code hok)
  have hsl : slotsOf (idealMv i) = slots (idealMv i) := by unfold slotsOf; rw [if_pos (by omega)]
  rw [hsl]
  have fin : finI i = if (i.steps.length : Int) ≠ i.need then 4 else if shaL (applyB i.base i.steps).flatten ≠ i.digest then 5 else if i.stash < slots (idealMv i) then 11 else 0 := rfl
  by_cases q2 : (i.steps.length : Int) = i.need
  rotate_left
  · rw [if_pos q2] at fin
    rw [if_pos (by rw [fin]; decide), fin]
    simp -implicitDefEqProofs only [go_sem, q2, y1, y2, v1, v2, v3, v4, z52, z53, z54, y52, y53, y54, hb4B, G2, G3, G4, S4, G5, S5, H5, hls]
    refine AC_of (l15Idle_ac (hv0.ext EB) hs) ?_
    rintro _ h6 - ⟨e6, cs6, rfl, f6⟩
    obtain ⟨ua, ue, rfl, I1, I2, I3⟩ := ideal_f.1 f6
    have w1 := I1.sl.one
    have w2 := I2.sl.one
    have w3 := I1.sl.vcl
    have w4 := I2.sl.vcl
    have g6 := e6.2.g b4 _ g4
    have hb6 : h6.base ≤ b4 := by rw [e6.1]; exact hb4B
    simp -implicitDefEqProofs only [go_sem, ldc_get g6, stc_get g6, hb6, w1, w2, w3, w4, y1, y2, v1, v2, v3, v4, z52, z53, z54, y52, y53, y54, hb4B, G2, G3, G4, S4, G5, S5, H5, hls]
    exact spec_fin EA n4h gA4 e5 e6 (out_nil (j := idleOf i) (t := []) (n := 4) I1 I2 I3) _
  rw [if_neg (fun e => e q2)] at fin
  simp -implicitDefEqProofs only [go_sem, eq_true q2, y1, y2, v1, v2, v3, v4, z52, z53, z54, y52, y53, y54, hb4B, G2, G3, G4, S4, G5, S5, H5, hls]
  refine AC_of (l07Apply_ac (sb.ext EB) (ss.ext EB) hok.2.1 (by omega) (fun s hs => hcz.1.2.2 s hs)) ?_
  rintro va h7 - ⟨e7, f7⟩
  refine ⟨e7.2, ?_⟩
  simp -implicitDefEqProofs only [go_sem, y1, y2, v1, v2, v3, v4, z52, z53, z54, y52, y53, y54, hb4B, G2, G3, G4, S4, G5, S5, H5, hls]
  refine (specImageDigest_pc f7.sl (applyB_ok hok.2.1 (fun s hs => hcz.1.2.2 s hs))).use ?_
  refine ⟨e7.2, ?_⟩
  have E7 := EB.trans e7
  have k7 := k5.ext e7
  have g47 := e7.2.g b4 _ g4
  have g27 := e7.2.g b2 _ g2
  have hb47 : h7.base ≤ b4 := by rw [e7.1]; exact hb4B
  skip
  by_cases q3 : shaL (applyB i.base i.steps).flatten = i.digest
  rotate_left
  · rw [if_pos q3] at fin
    rw [if_pos (by rw [fin]; decide), fin]
    simp -implicitDefEqProofs only [go_sem, q3, y1, y2, v1, v2, v3, v4, z52, z53, z54, y52, y53, y54, hb4B, G2, G3, G4, S4, G5, S5, H5, hls, ldc_get g27]
    refine AC_of (l15Idle_ac (hv0.ext E7) hs) ?_
    rintro _ h6 - ⟨e6, cs6, rfl, f6⟩
    obtain ⟨ua, ue, rfl, I1, I2, I3⟩ := ideal_f.1 f6
    have w1 := I1.sl.one
    have w2 := I2.sl.one
    have w3 := I1.sl.vcl
    have w4 := I2.sl.vcl
    have g6 := e6.2.g b4 _ g47
    have hb6 : h6.base ≤ b4 := by rw [e6.1]; exact hb47
    simp -implicitDefEqProofs only [go_sem, ldc_get g6, stc_get g6, hb6, w1, w2, w3, w4, y1, y2, v1, v2, v3, v4, z52, z53, z54, y52, y53, y54, hb4B, G2, G3, G4, S4, G5, S5, H5, hls, ldc_get g27]
    exact spec_fin EA n4h gA4 k7.e e6 (out_nil (j := idleOf i) (t := []) (n := 5) I1 I2 I3) _
  rw [if_neg (fun e => e q3)] at fin
  simp -implicitDefEqProofs only [go_sem, q3, y1, y2, v1, v2, v3, v4, z52, z53, z54, y52, y53, y54, hb4B, G2, G3, G4, S4, G5, S5, H5, hls, ldc_get g27]
  by_cases q4 : i.stash < slots (idealMv i)
  · rw [if_pos q4] at fin
    rw [if_pos (by rw [fin]; decide), fin]
    simp -implicitDefEqProofs only [go_sem, q4, y1, y2, v1, v2, v3, v4, z52, z53, z54, y52, y53, y54, hb4B, G2, G3, G4, S4, G5, S5, H5, hls, ldc_get g27]
    refine AC_of (l15Idle_ac (hv0.ext E7) hs) ?_
    rintro _ h6 - ⟨e6, cs6, rfl, f6⟩
    obtain ⟨ua, ue, rfl, I1, I2, I3⟩ := ideal_f.1 f6
    have w1 := I1.sl.one
    have w2 := I2.sl.one
    have w3 := I1.sl.vcl
    have w4 := I2.sl.vcl
    have g6 := e6.2.g b4 _ g47
    have hb6 : h6.base ≤ b4 := by rw [e6.1]; exact hb47
    simp -implicitDefEqProofs only [go_sem, ldc_get g6, stc_get g6, hb6, w1, w2, w3, w4, y1, y2, v1, v2, v3, v4, z52, z53, z54, y52, y53, y54, hb4B, G2, G3, G4, S4, G5, S5, H5, hls, ldc_get g27]
    exact spec_fin EA n4h gA4 k7.e e6 (out_nil (j := idleOf i) (t := []) (n := 11) I1 I2 I3) _
  rw [if_neg q4] at fin
  rw [if_neg (fun e => e fin)]
  have k8 := k7.put { i with phase := 3 } rfl rfl
  simp -implicitDefEqProofs only [go_sem, q4, ldc_get k7.g, stc_get k7.g, k7.hb, ldc_get g47, stc_get g47, hb47, y1, y2, v1, v2, v3, v4, z52, z53, z54, y52, y53, y54, hb4B, G2, G3, G4, S4, G5, S5, H5, hls, ldc_get g27]
  exact spec_box2 (of_eq_false z54) EA n4h gA4 k8.e (k8.out [] 0) _
  skip
end Go.Proofs.YtdofcojbjcpikaaGreatDoor
