/- A helper of this seat's claims (contracts of the functions): what it shows is shown for every input that its statements name, on no other condition. -/
import Derived.Test.YtdofcojbjcpikaaGreatDoorC15l
import Derived.Test.YtdofcojbjcpikaaGreatDoorC15m
set_option linter.unusedVariables false
set_option linter.unusedSimpArgs false
set_option maxRecDepth 100000
namespace Go.Proofs.YtdofcojbjcpikaaGreatDoor
open Go.KH

set_option maxHeartbeats 1600000 in
theorem sdo1_ac {h : H} {cs : List Value} {i : UIdeal} {A B : Int} {dg : List UInt8} {st : UStep} (hv : RepR h (spIdeal i) cs) (hs : i.small) (hok : idealOk i) (hc : cmdOk ⟨1, A, B, dg, st⟩) : AC Tryz.prog 51 [.agg cs.toArray, .agg (UCmd.cells ⟨1, A, B, dg, st⟩).toArray] h fun r h' => SpecI h (doI i ⟨1, A, B, dg, st⟩) r h' := by
  have hv0 := hv
  obtain ⟨vb, vs, rfl, sb, ss⟩ := ideal_r.1 hv
  obtain ⟨p1, p2, p3, p4⟩ := phase_of hok
  have y1 := sb.one
  have y2 := ss.one
  skip
  unfold doI
  rw [if_pos rfl]
  refine w_spec_l15Do (by simp) ?_
  unfold b_spec_l15Do
  simp -implicitDefEqProofs only [go_sem, y1, y2]
  intro b2 hb_b2 n_b2
  simp -implicitDefEqProofs only [go_sem, y1, y2, hb_b2]
  intro b3 hb_b3 m0_b3
  obtain ⟨z_b3_b2, y_b3_b2, n_b3⟩ := fne m0_b3
  simp only [H.set_base] at hb_b3
  simp -implicitDefEqProofs only [go_sem, y1, y2, hb_b2, hb_b3, z_b3_b2, y_b3_b2]
  intro b4 hb_b4 m0_b4
  obtain ⟨z_b4_b3, y_b4_b3, m1_b4⟩ := fne m0_b4
  obtain ⟨z_b4_b2, y_b4_b2, n_b4⟩ := fne m1_b4
  simp only [H.set_base] at hb_b4
  simp -implicitDefEqProofs only [go_sem, y1, y2, hb_b2, hb_b3, z_b3_b2, y_b3_b2, hb_b4, z_b4_b3, y_b4_b3, z_b4_b2, y_b4_b2]
  have EA : Ext h (((h.set b2 ⟨i.cells vb vs, 9⟩).set b3 ⟨(UCmd.cells ⟨1, A, B, dg, st⟩), 8⟩).set b4 ⟨[i64 0, i64 0, i64 0, i64 0, i64 0, i64 0, str [], nils, nils, str [], nils, i64 0], 12⟩) := ((((Ext.refl _).set' n_b2 _).set' n_b3 _).set' n_b4 _)
  have n4h : h.get b4 = none := by assumption
  have gA4 : (((h.set b2 ⟨i.cells vb vs, 9⟩).set b3 ⟨(UCmd.cells ⟨1, A, B, dg, st⟩), 8⟩).set b4 ⟨[i64 0, i64 0, i64 0, i64 0, i64 0, i64 0, str [], nils, nils, str [], nils, i64 0], 12⟩).get b4 = some ⟨[i64 0, i64 0, i64 0, i64 0, i64 0, i64 0, str [], nils, nils, str [], nils, i64 0], 12⟩ := H.set_get_same _ _ _
  have gA3 : (((h.set b2 ⟨i.cells vb vs, 9⟩).set b3 ⟨(UCmd.cells ⟨1, A, B, dg, st⟩), 8⟩).set b4 ⟨[i64 0, i64 0, i64 0, i64 0, i64 0, i64 0, str [], nils, nils, str [], nils, i64 0], 12⟩).get b3 = some ⟨(UCmd.cells ⟨1, A, B, dg, st⟩), 8⟩ := by simp -implicitDefEqProofs only [go_sem, y1, y2, hb_b2, hb_b3, z_b3_b2, y_b3_b2, hb_b4, z_b4_b3, y_b4_b3, z_b4_b2, y_b4_b2]
  have gA2 : (((h.set b2 ⟨i.cells vb vs, 9⟩).set b3 ⟨(UCmd.cells ⟨1, A, B, dg, st⟩), 8⟩).set b4 ⟨[i64 0, i64 0, i64 0, i64 0, i64 0, i64 0, str [], nils, nils, str [], nils, i64 0], 12⟩).get b2 = some ⟨i.cells vb vs, 9⟩ := by simp -implicitDefEqProofs only [go_sem, y1, y2, hb_b2, hb_b3, z_b3_b2, y_b3_b2, hb_b4, z_b4_b3, y_b4_b3, z_b4_b2, y_b4_b2]
  have bA4 : (((h.set b2 ⟨i.cells vb vs, 9⟩).set b3 ⟨(UCmd.cells ⟨1, A, B, dg, st⟩), 8⟩).set b4 ⟨[i64 0, i64 0, i64 0, i64 0, i64 0, i64 0, str [], nils, nils, str [], nils, i64 0], 12⟩).base ≤ b4 := by rw [EA.1]; exact hb_b4
  generalize (((h.set b2 ⟨i.cells vb vs, 9⟩).set b3 ⟨(UCmd.cells ⟨1, A, B, dg, st⟩), 8⟩).set b4 ⟨[i64 0, i64 0, i64 0, i64 0, i64 0, i64 0, str [], nils, nils, str [], nils, i64 0], 12⟩) = hA at *
  skip
  refine AC_of (l15CopyO_ac (hv0.ext EA) hs) ?_
  rintro _ h1 - ⟨e1, ub, us, rfl, F1, F2, d⟩
  have v1 := F1.sl.one
  have v2 := F2.sl.one
  have v3 := F1.sl.vcl
  have v4 := F2.sl.vcl
  skip
  simp -implicitDefEqProofs only [go_sem, y1, y2, v1, v2, v3, v4]
  intro b5 hb5 n5
  have z52 : (b2 = b5) = False := eq_false fun e => by subst e; rw [e1.2.g _ _ gA2] at n5; cases n5
  have z53 : (b3 = b5) = False := eq_false fun e => by subst e; rw [e1.2.g _ _ gA3] at n5; cases n5
  have z54 : (b4 = b5) = False := eq_false fun e => by subst e; rw [e1.2.g _ _ gA4] at n5; cases n5
  have y52 : (b5 = b2) = False := eq_false fun e => (of_eq_false z52) e.symm
  have y53 : (b5 = b3) = False := eq_false fun e => (of_eq_false z53) e.symm
  have y54 : (b5 = b4) = False := eq_false fun e => (of_eq_false z54) e.symm
  have k5 : BoxI hA (h1.set b5 ⟨i.cells ub us, 9⟩) b5 i ub us := ⟨e1.set n5 _, e1.none n5, H.set_get_same _ _ _, by rw [H.set_base]; exact hb5, F1.ext ((Ext.refl _).set n5 _), F2.ext ((Ext.refl _).set n5 _), d, fun e => F1.known b5 e n5, fun e => by obtain ⟨_, _, z, hg⟩ := F2.ob_new e; rw [n5] at hg; cases hg⟩
  have e5 := e1.set n5 ⟨i.cells ub us, 9⟩
  have Q3 := fun o n => ldc_get (e1.2.g b3 _ gA3) o n
  have Q2 := fun o n => ldc_get (e1.2.g b2 _ gA2) o n
  simp -implicitDefEqProofs only [go_sem, hb5, z53, z52, y53, y52, Q3, Q2, y1, y2, v1, v2, v3, v4]
  clear Q3 Q2
  generalize h1.set b5 ⟨i.cells ub us, 9⟩ = hB at *
  have EB := EA.trans e5
  have g2 := e5.2.g b2 _ gA2
  have g3 := e5.2.g b3 _ gA3
  have g4 := e5.2.g b4 _ gA4
  have hb4B : hB.base ≤ b4 := by rw [e5.1]; exact bA4
  have G2 := fun o n => ldc_get g2 o n
  have G3 := fun o n => ldc_get g3 o n
  have G4 := fun o n => ldc_get g4 o n
  have S4 := fun o n cs => stc_get g4 o n cs
  have G5 := fun o n => ldc_get k5.g o n
  have S5 := fun o n cs => stc_get k5.g o n cs
  have H5 := k5.hb
  skip
  try simp -implicitDefEqProofs only [go_sem, y1, y2, v1, v2, v3, v4, z52, z53, z54, y52, y53, y54, hb4B, G2, G3, G4, S4, G5, S5, H5]
  refine AC_of (ldo1_ac (hv0.ext EB) hs hok hc) ?_
  rintro _ h6 - ⟨e6, cs6, rfl, f6⟩
  unfold doI at f6
  rw [if_pos rfl] at f6
  have l6 := f6.r.len
  simp only [List.length_cons, List.length_nil, Nat.reduceAdd] at l6
  have t6 := take_len l6
  have o6 := f6.r.one
  have g6 := e6.2.g b4 _ g4
  have hb6 : h6.base ≤ b4 := by rw [e6.1]; exact hb4B
  simp -implicitDefEqProofs only [go_sem, ldc_get g6, stc_get g6, hb6, l6, t6, o6, y1, y2, v1, v2, v3, v4, z52, z53, z54, y52, y53, y54, hb4B, G2, G3, G4, S4, G5, S5, H5]
  exact spec_fin EA n4h gA4 e5 e6 f6 _
  skip
set_option maxHeartbeats 1600000 in
theorem sdo2_ac {h : H} {cs : List Value} {i : UIdeal} {A B : Int} {dg : List UInt8} {st : UStep} (hv : RepR h (spIdeal i) cs) (hs : i.small) (hok : idealOk i) (hc : cmdOk ⟨2, A, B, dg, st⟩) : AC Tryz.prog 51 [.agg cs.toArray, .agg (UCmd.cells ⟨2, A, B, dg, st⟩).toArray] h fun r h' => SpecI h (doI i ⟨2, A, B, dg, st⟩) r h' := by
  have hv0 := hv
  obtain ⟨vb, vs, rfl, sb, ss⟩ := ideal_r.1 hv
  obtain ⟨p1, p2, p3, p4⟩ := phase_of hok
  have y1 := sb.one
  have y2 := ss.one
  skip
  unfold doI
  rw [if_neg (show ¬ ((2 : Int) = 1) by decide)]
  rw [if_pos rfl]
  refine w_spec_l15Do (by simp) ?_
  unfold b_spec_l15Do
  simp -implicitDefEqProofs only [go_sem, y1, y2]
  intro b2 hb_b2 n_b2
  simp -implicitDefEqProofs only [go_sem, y1, y2, hb_b2]
  intro b3 hb_b3 m0_b3
  obtain ⟨z_b3_b2, y_b3_b2, n_b3⟩ := fne m0_b3
  simp only [H.set_base] at hb_b3
  simp -implicitDefEqProofs only [go_sem, y1, y2, hb_b2, hb_b3, z_b3_b2, y_b3_b2]
  intro b4 hb_b4 m0_b4
  obtain ⟨z_b4_b3, y_b4_b3, m1_b4⟩ := fne m0_b4
  obtain ⟨z_b4_b2, y_b4_b2, n_b4⟩ := fne m1_b4
  simp only [H.set_base] at hb_b4
  simp -implicitDefEqProofs only [go_sem, y1, y2, hb_b2, hb_b3, z_b3_b2, y_b3_b2, hb_b4, z_b4_b3, y_b4_b3, z_b4_b2, y_b4_b2]
  have EA : Ext h (((h.set b2 ⟨i.cells vb vs, 9⟩).set b3 ⟨(UCmd.cells ⟨2, A, B, dg, st⟩), 8⟩).set b4 ⟨[i64 0, i64 0, i64 0, i64 0, i64 0, i64 0, str [], nils, nils, str [], nils, i64 0], 12⟩) := ((((Ext.refl _).set' n_b2 _).set' n_b3 _).set' n_b4 _)
  have n4h : h.get b4 = none := by assumption
  have gA4 : (((h.set b2 ⟨i.cells vb vs, 9⟩).set b3 ⟨(UCmd.cells ⟨2, A, B, dg, st⟩), 8⟩).set b4 ⟨[i64 0, i64 0, i64 0, i64 0, i64 0, i64 0, str [], nils, nils, str [], nils, i64 0], 12⟩).get b4 = some ⟨[i64 0, i64 0, i64 0, i64 0, i64 0, i64 0, str [], nils, nils, str [], nils, i64 0], 12⟩ := H.set_get_same _ _ _
  have gA3 : (((h.set b2 ⟨i.cells vb vs, 9⟩).set b3 ⟨(UCmd.cells ⟨2, A, B, dg, st⟩), 8⟩).set b4 ⟨[i64 0, i64 0, i64 0, i64 0, i64 0, i64 0, str [], nils, nils, str [], nils, i64 0], 12⟩).get b3 = some ⟨(UCmd.cells ⟨2, A, B, dg, st⟩), 8⟩ := by simp -implicitDefEqProofs only [go_sem, y1, y2, hb_b2, hb_b3, z_b3_b2, y_b3_b2, hb_b4, z_b4_b3, y_b4_b3, z_b4_b2, y_b4_b2]
  have gA2 : (((h.set b2 ⟨i.cells vb vs, 9⟩).set b3 ⟨(UCmd.cells ⟨2, A, B, dg, st⟩), 8⟩).set b4 ⟨[i64 0, i64 0, i64 0, i64 0, i64 0, i64 0, str [], nils, nils, str [], nils, i64 0], 12⟩).get b2 = some ⟨i.cells vb vs, 9⟩ := by simp -implicitDefEqProofs only [go_sem, y1, y2, hb_b2, hb_b3, z_b3_b2, y_b3_b2, hb_b4, z_b4_b3, y_b4_b3, z_b4_b2, y_b4_b2]
  have bA4 : (((h.set b2 ⟨i.cells vb vs, 9⟩).set b3 ⟨(UCmd.cells ⟨2, A, B, dg, st⟩), 8⟩).set b4 ⟨[i64 0, i64 0, i64 0, i64 0, i64 0, i64 0, str [], nils, nils, str [], nils, i64 0], 12⟩).base ≤ b4 := by rw [EA.1]; exact hb_b4
  generalize (((h.set b2 ⟨i.cells vb vs, 9⟩).set b3 ⟨(UCmd.cells ⟨2, A, B, dg, st⟩), 8⟩).set b4 ⟨[i64 0, i64 0, i64 0, i64 0, i64 0, i64 0, str [], nils, nils, str [], nils, i64 0], 12⟩) = hA at *
  skip
  refine AC_of (l15CopyO_ac (hv0.ext EA) hs) ?_
  rintro _ h1 - ⟨e1, ub, us, rfl, F1, F2, d⟩
  have v1 := F1.sl.one
  have v2 := F2.sl.one
  have v3 := F1.sl.vcl
  have v4 := F2.sl.vcl
  skip
  simp -implicitDefEqProofs only [go_sem, y1, y2, v1, v2, v3, v4]
  intro b5 hb5 n5
  have z52 : (b2 = b5) = False := eq_false fun e => by subst e; rw [e1.2.g _ _ gA2] at n5; cases n5
  have z53 : (b3 = b5) = False := eq_false fun e => by subst e; rw [e1.2.g _ _ gA3] at n5; cases n5
  have z54 : (b4 = b5) = False := eq_false fun e => by subst e; rw [e1.2.g _ _ gA4] at n5; cases n5
  have y52 : (b5 = b2) = False := eq_false fun e => (of_eq_false z52) e.symm
  have y53 : (b5 = b3) = False := eq_false fun e => (of_eq_false z53) e.symm
  have y54 : (b5 = b4) = False := eq_false fun e => (of_eq_false z54) e.symm
  have k5 : BoxI hA (h1.set b5 ⟨i.cells ub us, 9⟩) b5 i ub us := ⟨e1.set n5 _, e1.none n5, H.set_get_same _ _ _, by rw [H.set_base]; exact hb5, F1.ext ((Ext.refl _).set n5 _), F2.ext ((Ext.refl _).set n5 _), d, fun e => F1.known b5 e n5, fun e => by obtain ⟨_, _, z, hg⟩ := F2.ob_new e; rw [n5] at hg; cases hg⟩
  have e5 := e1.set n5 ⟨i.cells ub us, 9⟩
  have Q3 := fun o n => ldc_get (e1.2.g b3 _ gA3) o n
  have Q2 := fun o n => ldc_get (e1.2.g b2 _ gA2) o n
  simp -implicitDefEqProofs only [go_sem, hb5, z53, z52, y53, y52, Q3, Q2, y1, y2, v1, v2, v3, v4]
  clear Q3 Q2
  generalize h1.set b5 ⟨i.cells ub us, 9⟩ = hB at *
  have EB := EA.trans e5
  have g2 := e5.2.g b2 _ gA2
  have g3 := e5.2.g b3 _ gA3
  have g4 := e5.2.g b4 _ gA4
  have hb4B : hB.base ≤ b4 := by rw [e5.1]; exact bA4
  have G2 := fun o n => ldc_get g2 o n
  have G3 := fun o n => ldc_get g3 o n
  have G4 := fun o n => ldc_get g4 o n
  have S4 := fun o n cs => stc_get g4 o n cs
  have G5 := fun o n => ldc_get k5.g o n
  have S5 := fun o n cs => stc_get k5.g o n cs
  have H5 := k5.hb
  skip
  try simp -implicitDefEqProofs only [go_sem, y1, y2, v1, v2, v3, v4, z52, z53, z54, y52, y53, y54, hb4B, G2, G3, G4, S4, G5, S5, H5]
  refine AC_of (ldo2_ac (hv0.ext EB) hs hok hc) ?_
  rintro _ h6 - ⟨e6, cs6, rfl, f6⟩
  unfold doI at f6
  rw [if_neg (show ¬ ((2 : Int) = 1) by decide)] at f6
  rw [if_pos rfl] at f6
  have l6 := f6.r.len
  simp only [List.length_cons, List.length_nil, Nat.reduceAdd] at l6
  have t6 := take_len l6
  have o6 := f6.r.one
  have g6 := e6.2.g b4 _ g4
  have hb6 : h6.base ≤ b4 := by rw [e6.1]; exact hb4B
  simp -implicitDefEqProofs only [go_sem, ldc_get g6, stc_get g6, hb6, l6, t6, o6, y1, y2, v1, v2, v3, v4, z52, z53, z54, y52, y53, y54, hb4B, G2, G3, G4, S4, G5, S5, H5]
  exact spec_fin EA n4h gA4 e5 e6 f6 _
  skip
set_option maxHeartbeats 1600000 in
theorem sdo3_ac {h : H} {cs : List Value} {i : UIdeal} {A B : Int} {dg : List UInt8} {st : UStep} (hv : RepR h (spIdeal i) cs) (hs : i.small) (hok : idealOk i) (hc : cmdOk ⟨3, A, B, dg, st⟩) : AC Tryz.prog 51 [.agg cs.toArray, .agg (UCmd.cells ⟨3, A, B, dg, st⟩).toArray] h fun r h' => SpecI h (doI i ⟨3, A, B, dg, st⟩) r h' := by
  have hv0 := hv
  obtain ⟨vb, vs, rfl, sb, ss⟩ := ideal_r.1 hv
  obtain ⟨p1, p2, p3, p4⟩ := phase_of hok
  have y1 := sb.one
  have y2 := ss.one
  skip
  unfold doI
  rw [if_neg (show ¬ ((3 : Int) = 1) by decide)]
  rw [if_neg (show ¬ ((3 : Int) = 2) by decide)]
  rw [if_pos rfl]
  refine w_spec_l15Do (by simp) ?_
  unfold b_spec_l15Do
  simp -implicitDefEqProofs only [go_sem, y1, y2]
  intro b2 hb_b2 n_b2
  simp -implicitDefEqProofs only [go_sem, y1, y2, hb_b2]
  intro b3 hb_b3 m0_b3
  obtain ⟨z_b3_b2, y_b3_b2, n_b3⟩ := fne m0_b3
  simp only [H.set_base] at hb_b3
  simp -implicitDefEqProofs only [go_sem, y1, y2, hb_b2, hb_b3, z_b3_b2, y_b3_b2]
  intro b4 hb_b4 m0_b4
  obtain ⟨z_b4_b3, y_b4_b3, m1_b4⟩ := fne m0_b4
  obtain ⟨z_b4_b2, y_b4_b2, n_b4⟩ := fne m1_b4
  simp only [H.set_base] at hb_b4
  simp -implicitDefEqProofs only [go_sem, y1, y2, hb_b2, hb_b3, z_b3_b2, y_b3_b2, hb_b4, z_b4_b3, y_b4_b3, z_b4_b2, y_b4_b2]
  have EA : Ext h (((h.set b2 ⟨i.cells vb vs, 9⟩).set b3 ⟨(UCmd.cells ⟨3, A, B, dg, st⟩), 8⟩).set b4 ⟨[i64 0, i64 0, i64 0, i64 0, i64 0, i64 0, str [], nils, nils, str [], nils, i64 0], 12⟩) := ((((Ext.refl _).set' n_b2 _).set' n_b3 _).set' n_b4 _)
  have n4h : h.get b4 = none := by assumption
  have gA4 : (((h.set b2 ⟨i.cells vb vs, 9⟩).set b3 ⟨(UCmd.cells ⟨3, A, B, dg, st⟩), 8⟩).set b4 ⟨[i64 0, i64 0, i64 0, i64 0, i64 0, i64 0, str [], nils, nils, str [], nils, i64 0], 12⟩).get b4 = some ⟨[i64 0, i64 0, i64 0, i64 0, i64 0, i64 0, str [], nils, nils, str [], nils, i64 0], 12⟩ := H.set_get_same _ _ _
  have gA3 : (((h.set b2 ⟨i.cells vb vs, 9⟩).set b3 ⟨(UCmd.cells ⟨3, A, B, dg, st⟩), 8⟩).set b4 ⟨[i64 0, i64 0, i64 0, i64 0, i64 0, i64 0, str [], nils, nils, str [], nils, i64 0], 12⟩).get b3 = some ⟨(UCmd.cells ⟨3, A, B, dg, st⟩), 8⟩ := by simp -implicitDefEqProofs only [go_sem, y1, y2, hb_b2, hb_b3, z_b3_b2, y_b3_b2, hb_b4, z_b4_b3, y_b4_b3, z_b4_b2, y_b4_b2]
  have gA2 : (((h.set b2 ⟨i.cells vb vs, 9⟩).set b3 ⟨(UCmd.cells ⟨3, A, B, dg, st⟩), 8⟩).set b4 ⟨[i64 0, i64 0, i64 0, i64 0, i64 0, i64 0, str [], nils, nils, str [], nils, i64 0], 12⟩).get b2 = some ⟨i.cells vb vs, 9⟩ := by simp -implicitDefEqProofs only [go_sem, y1, y2, hb_b2, hb_b3, z_b3_b2, y_b3_b2, hb_b4, z_b4_b3, y_b4_b3, z_b4_b2, y_b4_b2]
  have bA4 : (((h.set b2 ⟨i.cells vb vs, 9⟩).set b3 ⟨(UCmd.cells ⟨3, A, B, dg, st⟩), 8⟩).set b4 ⟨[i64 0, i64 0, i64 0, i64 0, i64 0, i64 0, str [], nils, nils, str [], nils, i64 0], 12⟩).base ≤ b4 := by rw [EA.1]; exact hb_b4
  generalize (((h.set b2 ⟨i.cells vb vs, 9⟩).set b3 ⟨(UCmd.cells ⟨3, A, B, dg, st⟩), 8⟩).set b4 ⟨[i64 0, i64 0, i64 0, i64 0, i64 0, i64 0, str [], nils, nils, str [], nils, i64 0], 12⟩) = hA at *
  skip
  refine AC_of (l15CopyO_ac (hv0.ext EA) hs) ?_
  rintro _ h1 - ⟨e1, ub, us, rfl, F1, F2, d⟩
  have v1 := F1.sl.one
  have v2 := F2.sl.one
  have v3 := F1.sl.vcl
  have v4 := F2.sl.vcl
  skip
  simp -implicitDefEqProofs only [go_sem, y1, y2, v1, v2, v3, v4]
  intro b5 hb5 n5
  have z52 : (b2 = b5) = False := eq_false fun e => by subst e; rw [e1.2.g _ _ gA2] at n5; cases n5
  have z53 : (b3 = b5) = False := eq_false fun e => by subst e; rw [e1.2.g _ _ gA3] at n5; cases n5
  have z54 : (b4 = b5) = False := eq_false fun e => by subst e; rw [e1.2.g _ _ gA4] at n5; cases n5
  have y52 : (b5 = b2) = False := eq_false fun e => (of_eq_false z52) e.symm
  have y53 : (b5 = b3) = False := eq_false fun e => (of_eq_false z53) e.symm
  have y54 : (b5 = b4) = False := eq_false fun e => (of_eq_false z54) e.symm
  have k5 : BoxI hA (h1.set b5 ⟨i.cells ub us, 9⟩) b5 i ub us := ⟨e1.set n5 _, e1.none n5, H.set_get_same _ _ _, by rw [H.set_base]; exact hb5, F1.ext ((Ext.refl _).set n5 _), F2.ext ((Ext.refl _).set n5 _), d, fun e => F1.known b5 e n5, fun e => by obtain ⟨_, _, z, hg⟩ := F2.ob_new e; rw [n5] at hg; cases hg⟩
  have e5 := e1.set n5 ⟨i.cells ub us, 9⟩
  have Q3 := fun o n => ldc_get (e1.2.g b3 _ gA3) o n
  have Q2 := fun o n => ldc_get (e1.2.g b2 _ gA2) o n
  simp -implicitDefEqProofs only [go_sem, hb5, z53, z52, y53, y52, Q3, Q2, y1, y2, v1, v2, v3, v4]
  clear Q3 Q2
  generalize h1.set b5 ⟨i.cells ub us, 9⟩ = hB at *
  have EB := EA.trans e5
  have g2 := e5.2.g b2 _ gA2
  have g3 := e5.2.g b3 _ gA3
  have g4 := e5.2.g b4 _ gA4
  have hb4B : hB.base ≤ b4 := by rw [e5.1]; exact bA4
  have G2 := fun o n => ldc_get g2 o n
  have G3 := fun o n => ldc_get g3 o n
  have G4 := fun o n => ldc_get g4 o n
  have S4 := fun o n cs => stc_get g4 o n cs
  have G5 := fun o n => ldc_get k5.g o n
  have S5 := fun o n cs => stc_get k5.g o n cs
  have H5 := k5.hb
  skip
  try simp -implicitDefEqProofs only [go_sem, y1, y2, v1, v2, v3, v4, z52, z53, z54, y52, y53, y54, hb4B, G2, G3, G4, S4, G5, S5, H5]
  refine AC_of (ldo3_ac (hv0.ext EB) hs hok hc) ?_
  rintro _ h6 - ⟨e6, cs6, rfl, f6⟩
  unfold doI at f6
  rw [if_neg (show ¬ ((3 : Int) = 1) by decide)] at f6
  rw [if_neg (show ¬ ((3 : Int) = 2) by decide)] at f6
  rw [if_pos rfl] at f6
  have l6 := f6.r.len
  simp only [List.length_cons, List.length_nil, Nat.reduceAdd] at l6
  have t6 := take_len l6
  have o6 := f6.r.one
  have g6 := e6.2.g b4 _ g4
  have hb6 : h6.base ≤ b4 := by rw [e6.1]; exact hb4B
  simp -implicitDefEqProofs only [go_sem, ldc_get g6, stc_get g6, hb6, l6, t6, o6, y1, y2, v1, v2, v3, v4, z52, z53, z54, y52, y53, y54, hb4B, G2, G3, G4, S4, G5, S5, H5]
  exact spec_fin EA n4h gA4 e5 e6 f6 _
  skip
theorem l15Do_ac {h : H} {cs : List Value} {i : UIdeal} {c : UCmd} (hv : RepR h (spIdeal i) cs) (hs : i.small) (hok : idealOk i) (hc : cmdOk c) : AC Tryz.prog 51 [.agg cs.toArray, .agg c.cells.toArray] h fun r h' => SpecI h (doI i c) r h' := by
  obtain ⟨kind, A, B, dg, st⟩ := c
  have hk := hc.1
  simp only at hk
  have : kind = 1 ∨ kind = 2 ∨ kind = 3 ∨ kind = 4 ∨ kind = 5 ∨ kind = 6 ∨ kind = 7 ∨ kind = 8 ∨ kind = 9 ∨ kind = 10 ∨ kind = 11 := by omega
  rcases this with rfl | rfl | rfl | rfl | rfl | rfl | rfl | rfl | rfl | rfl | rfl
  · exact sdo1_ac hv hs hok hc
  · exact sdo2_ac hv hs hok hc
  · exact sdo3_ac hv hs hok hc
  · exact sdo4_ac hv hs hok hc
  · exact sdo5_ac hv hs hok hc
  · exact sdo6_ac hv hs hok hc
  · exact sdo7_ac hv hs hok hc
  · exact sdo8_ac hv hs hok hc
  · exact sdo9_ac hv hs hok hc
  · exact sdo10_ac hv hs hok hc
  · exact sdo11_ac hv hs hok hc
/-- spec.IdealDo -/
def b_spec_IdealDo : C := (.seq (.ops [⟨(some 2), none, .box (.t 0)⟩, ⟨(some 3), none, .box (.t 1)⟩, ⟨(some 4), none, .alloc [(i64 0), (i64 0), (i64 0), (i64 0), (i64 0), (i64 0), (str []), nils, nils, (str []), nils, (i64 0)]⟩])
 (.seq (.seq (.ops [q 5 (.ld true 9 (.t 2)), ⟨(some 6), none, .call (.c (.func (.func 48) #[] #[])) [(.t 5)]⟩, q 7 (.un .not (.t 6)), q 8 (.mv (.t 7)), qg 9 8 false (.ld true 8 (.t 3)), ⟨(some 10), (some (8, false)), .call (.c (.func (.func 49) #[] #[])) [(.t 9)]⟩, qg 11 8 false (.un .not (.t 10)), q 12 (.pick (.t 8) (.c (.bool true)) (.t 11))])
 (.cond (.t 12) (.seq (.ops [⟨(some 13), none, .call (.c (.func (.func 50) #[] #[])) [(.c (i64 1))]⟩, ⟨none, none, .st 12 (.t 4) (.t 13)⟩])
 .ret) .skip))
 (.seq (.ops [q 14 (.ld true 9 (.t 2)), q 15 (.ld true 8 (.t 3)), ⟨(some 16), none, .call (.c (.func (.func 51) #[] #[])) [(.t 14), (.t 15)]⟩, ⟨none, none, .st 12 (.t 4) (.t 16)⟩])
 .ret)))
theorem w_spec_IdealDo {args : List Value} {h : H} {Q : Value → H → Prop} (hl : args.length ≤ 17) (hk : wpc Tryz.prog b_spec_IdealDo (retw [.cell 4 true 12] Q) (argsFr args) h) : AC Tryz.prog 9 args h Q :=
  AC.of_wpc mixedOrders Tryz.func9 (by kernel_rfl) (by kernel_rfl : prepF Tryz.prog Tryz.f9 = some ⟨17, [.cell 4 true 12], b_spec_IdealDo⟩) hl hk

theorem specIdealDo_ac {h : H} {cs : List Value} {i : UIdeal} {c : UCmd} (hv : RepR h (spIdeal i) cs) (hs : i.small) : AC Tryz.prog 9 [.agg cs.toArray, .agg c.cells.toArray] h fun r h' => Ext h h' ∧ ∃ cs', r = .agg cs'.toArray ∧ RepF h h' (spIdealOut (idealDo i c)) cs' := by
  have l1 := hv.len
  simp only [List.length_cons, List.length_nil, Nat.reduceAdd] at l1
  have t1 := take_len l1
  have o1 := hv.one
  skip
  unfold idealDo
  refine w_spec_IdealDo (by simp) ?_
  unfold b_spec_IdealDo
  simp -implicitDefEqProofs only [go_sem, l1, t1, o1]
  intro b2 hb_b2 n_b2
  simp -implicitDefEqProofs only [go_sem, l1, t1, o1, hb_b2]
  intro b3 hb_b3 m0_b3
  obtain ⟨z_b3_b2, y_b3_b2, n_b3⟩ := fne m0_b3
  simp only [H.set_base] at hb_b3
  simp -implicitDefEqProofs only [go_sem, l1, t1, o1, hb_b2, hb_b3, z_b3_b2, y_b3_b2]
  intro b4 hb_b4 m0_b4
  obtain ⟨z_b4_b3, y_b4_b3, m1_b4⟩ := fne m0_b4
  obtain ⟨z_b4_b2, y_b4_b2, n_b4⟩ := fne m1_b4
  simp only [H.set_base] at hb_b4
  simp -implicitDefEqProofs only [go_sem, l1, t1, o1, hb_b2, hb_b3, z_b3_b2, y_b3_b2, hb_b4, z_b4_b3, y_b4_b3, z_b4_b2, y_b4_b2]
  refine (specIdealRight_pc (hv.ext ((((Ext.refl _).set' n_b2 _).set' n_b3 _).set' n_b4 _)) hs).use ?_
  by_cases q1 : idealOk i
  rotate_left
  · simp -implicitDefEqProofs only [go_sem, decide_eq_false q1, l1, t1, o1, hb_b2, hb_b3, z_b3_b2, y_b3_b2, hb_b4, z_b4_b3, y_b4_b3, z_b4_b2, y_b4_b2]
    rw [if_neg (fun e => q1 e.1)]
    refine (l15Ill_pc _ _).use ?_
    simp -implicitDefEqProofs only [go_sem, l1, t1, o1, hb_b2, hb_b3, z_b3_b2, y_b3_b2, hb_b4, z_b4_b3, y_b4_b3, z_b4_b2, y_b4_b2]
    exact ⟨((((Ext.refl _).set' n_b2 _).set' n_b3 _).set' n_b4 _), _, rfl, ill_f _ _ 1⟩
  simp -implicitDefEqProofs only [go_sem, decide_eq_true q1, l1, t1, o1, hb_b2, hb_b3, z_b3_b2, y_b3_b2, hb_b4, z_b4_b3, y_b4_b3, z_b4_b2, y_b4_b2]
  refine (specCmdRight_pc _ c).use ?_
  by_cases q2 : cmdOk c
  rotate_left
  · simp -implicitDefEqProofs only [go_sem, decide_eq_false q2, l1, t1, o1, hb_b2, hb_b3, z_b3_b2, y_b3_b2, hb_b4, z_b4_b3, y_b4_b3, z_b4_b2, y_b4_b2]
    rw [if_neg (fun e => q2 e.2)]
    refine (l15Ill_pc _ _).use ?_
    simp -implicitDefEqProofs only [go_sem, l1, t1, o1, hb_b2, hb_b3, z_b3_b2, y_b3_b2, hb_b4, z_b4_b3, y_b4_b3, z_b4_b2, y_b4_b2]
    exact ⟨((((Ext.refl _).set' n_b2 _).set' n_b3 _).set' n_b4 _), _, rfl, ill_f _ _ 1⟩
  rw [if_pos ⟨q1, q2⟩]
  simp -implicitDefEqProofs only [go_sem, decide_eq_true q2, l1, t1, o1, hb_b2, hb_b3, z_b3_b2, y_b3_b2, hb_b4, z_b4_b3, y_b4_b3, z_b4_b2, y_b4_b2]
  refine AC_of (l15Do_ac (hv.ext ((((Ext.refl _).set' n_b2 _).set' n_b3 _).set' n_b4 _)) hs q1 q2) ?_
  rintro _ h4 - ⟨e4, cs4, rfl, f4⟩
  have l4 := f4.r.len
  simp only [List.length_cons, List.length_nil, Nat.reduceAdd] at l4
  have t4 := take_len l4
  have o4 := f4.r.one
  have g4 := e4.2.g b4 _ (by simp -implicitDefEqProofs only [go_sem, l1, t1, o1, hb_b2, hb_b3, z_b3_b2, y_b3_b2, hb_b4, z_b4_b3, y_b4_b3, z_b4_b2, y_b4_b2]; rfl)
  have hbb4 := e4.1
  simp only [H.set_base] at hbb4
  simp -implicitDefEqProofs only [go_sem, ldc_get g4, stc_get g4, l4, t4, o4, hbb4, hb_b4, l1, t1, o1, hb_b2, hb_b3, z_b3_b2, y_b3_b2, hb_b4, z_b4_b3, y_b4_b3, z_b4_b2, y_b4_b2]
  exact ⟨((((((Ext.refl _).set' n_b2 _).set' n_b3 _).set' n_b4 _)).trans e4).set' n_b4 _, cs4, rfl, (f4.set (b := b4) (H.set_get_same _ _ _) _).back ((((Ext.refl _).set' n_b2 _).set' n_b3 _).set' n_b4 _)⟩
end Go.Proofs.YtdofcojbjcpikaaGreatDoor
