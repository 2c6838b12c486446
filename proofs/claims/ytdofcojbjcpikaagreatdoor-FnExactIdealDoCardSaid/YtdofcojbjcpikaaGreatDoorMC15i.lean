/- A helper of this seat's claims (contracts of the functions): what it shows is shown for every input that its statements name, on no other condition. -/
import Derived.Test.YtdofcojbjcpikaaGreatDoorC15g
set_option linter.unusedVariables false
set_option linter.unusedSimpArgs false
set_option maxRecDepth 100000
namespace Go.Proofs.YtdofcojbjcpikaaGreatDoor
open Go.KH

theorem StepI.done {h0 h' : H} {b : Nat} {o : UIdealOut} {r : Value} (s : StepI h0 b o r h') : DoneI h0 b o (.tuple #[str [], nils, r]) h' := by
  obtain ⟨rfl, ht, hr, e, cs, g, f⟩ := s
  have := DoneI.of (o := o) (vr := nils) e g f (by rw [hr]; exact .inl ⟨none, 0, rfl, rfl⟩) (fun _ _ h => by cases h)
  rw [ht] at this
  exact this
theorem cloneStepsO_ac {h : H} {v : Value} {l : List UStep} (hv : Sl h v 4 (l.map UStep.cells)) (hb : l.length ≤ 1048576) : AC Tryz.prog 135 [v] h fun v' h' => Ext h h' ∧ Own h h' v' 4 (l.map UStep.cells) := by
  obtain ⟨a, c, rfl⟩ := hv.shape
  have hl : (l.map UStep.cells).length = l.length := by simp
  refine w_slices_Clone_impl_Step_impl_Step (by simp) ?_
  unfold b_slices_Clone_impl_Step_impl_Step
  simp -implicitDefEqProofs only [go_sem]
  cases a with
  | none =>
    simp -implicitDefEqProofs only [go_sem, Option.isNone_none]
    exact ⟨Ext.refl _, .inl ⟨rfl, hv.none⟩⟩
  | some a =>
    simp -implicitDefEqProofs only [go_sem, Option.isNone_some]
    intro b1 hb1 hn1
    have hsrc := src0 hn1 hv (stepsW l) (by decide)
    simp -implicitDefEqProofs only [go_sem, hsrc]
    refine app0 hb1 hn1 rfl (stepsW l) (steps_one l) (by rw [hl]; omega) ?_
    intro v' h' e o
    simp -implicitDefEqProofs only [go_sem]
    exact ⟨e, o⟩
theorem cloneIdealO_ac {h : H} {cs : List Value} {i : UIdeal} (hv : RepR h (spIdeal i) cs) (hs : i.small) : AC Tryz.prog 57 [.agg cs.toArray] h fun r h' => Ext h h' ∧ ∃ vb vs, r = .agg (i.cells vb vs).toArray ∧ Fre h h' vb 1 (strs i.base) ∧ Own h h' vs 4 (i.steps.map UStep.cells) ∧ Dj vb vs := by
  obtain ⟨vb, vs, rfl, a1, a2⟩ := ideal_r.1 hv
  have o1 := a1.one
  have o2 := a2.one
  skip
  refine w_impl_cloneIdeal (by simp) ?_
  unfold b_impl_cloneIdeal
  simp -implicitDefEqProofs only [go_sem, o1, o2]
  intro b1 hb_b1 n_b1
  simp -implicitDefEqProofs only [go_sem, o1, o2, hb_b1]
  intro b2 hb_b2 m0_b2
  obtain ⟨z_b2_b1, y_b2_b1, n_b2⟩ := fne m0_b2
  simp only [H.set_base] at hb_b2
  simp -implicitDefEqProofs only [go_sem, o1, o2, hb_b1, hb_b2, z_b2_b1, y_b2_b1]
  refine AC_of (cloneStrs_ac (a1.ext (((Ext.refl _).set' n_b1 _).set' n_b2 _)) hs.1) ?_
  rintro v1 h1 - ⟨e1, f1⟩
  simp -implicitDefEqProofs only [go_sem, e1.2, o1, o2, hb_b1, hb_b2, z_b2_b1, y_b2_b1]
  have E1 := ((((Ext.refl _).set' n_b1 _).set' n_b2 _)).trans e1
  refine AC_of (cloneStepsO_ac (a2.ext E1) hs.2) ?_
  rintro v2 h2 - ⟨e2, f2⟩
  have g1 := (e1.trans e2).2.g b1 _ (by simp -implicitDefEqProofs only [go_sem, o1, o2, hb_b1, hb_b2, z_b2_b1, y_b2_b1]; rfl)
  have g2 := (e1.trans e2).2.g b2 _ (by simp -implicitDefEqProofs only [go_sem, o1, o2, hb_b1, hb_b2, z_b2_b1, y_b2_b1]; rfl)
  obtain ⟨av1, cv1, rfl⟩ := f1.shape
  obtain ⟨av2, cv2, rfl⟩ := f2.shape
  have hb4 := (e1.trans e2).1
  simp only [H.set_base] at hb4
  simp -implicitDefEqProofs only [go_sem, (e1.trans e2).2, ldc_get g1, ldc_get g2, stc_get g1, stc_get g2, hb4, o1, o2, hb_b1, hb_b2, z_b2_b1, y_b2_b1]
  have G1 : ∀ x y, ((h.set b1 x).set b2 y).get b1 = some x := fun x y => by simp -implicitDefEqProofs only [go_sem, o1, o2, hb_b1, hb_b2, z_b2_b1, y_b2_b1]
  have E2 := fun x y => ((E1.trans e2).set' n_b2 x).set' n_b1 y
  refine ⟨E2 _ _, _, _, rfl, ?_, ?_, ?_⟩
  · exact (((f1.ext e2).set (b := b2) (H.set_get_same _ _ _) _).set (b := b1) (G1 _ _) _).back (((Ext.refl _).set' n_b1 _).set' n_b2 _)
  · exact ((f2.set0 (b := b2) (by rw [e1.2.g b2 _ (H.set_get_same _ _ _)]; simp) _).set0 (b := b1) (by rw [e1.2.g b1 _ (G1 _ _)]; simp) _).back E1
  · exact Dj.of f1.known f2.fre.new
theorem do2_ac {h0 h : H} {b : Nat} {i : UIdeal} {vb vs : Value} {A B : Int} {dg : List UInt8} {st : UStep} (hs : i.small) (k : BoxI h0 h b i vb vs) (hok : idealOk i) : AC Tryz.prog 58 [ptr b 0, .agg (UCmd.cells ⟨2, A, B, dg, st⟩).toArray] h fun r h' => DoneI h0 b (doI i ⟨2, A, B, dg, st⟩) r h' := by
  refine w_impl_Ideal_do (by simp) ?_
  unfold b_impl_Ideal_do
  simp -implicitDefEqProofs only [go_sem]
  intro b3 hb3 n3
  have z3 : (b = b3) = False := eq_false fun e => by rw [← e, k.g] at n3; cases n3
  have k3e := (Ext.refl h).set n3 ⟨(UCmd.cells ⟨2, A, B, dg, st⟩), 8⟩
  have k3 := k.ext k3e
  have g3 : (h.set b3 ⟨(UCmd.cells ⟨2, A, B, dg, st⟩), 8⟩).get b3 = some ⟨(UCmd.cells ⟨2, A, B, dg, st⟩), 8⟩ := H.set_get_same _ _ _
  generalize h.set b3 ⟨(UCmd.cells ⟨2, A, B, dg, st⟩), 8⟩ = hh at *
  have G3 := fun o n => ldc_get g3 o n
  have Gb := fun o n => ldc_get k3.g o n
  have Sb := fun o n cs => stc_get k3.g o n cs
  have Hb := k3.hb
  skip
  simp -implicitDefEqProofs only [go_sem, G3, Gb, Sb, Hb]
  refine AC_of (stepI_ac (st := st) hs k3 hok) ?_
  rintro r h1 - sI
  simp -implicitDefEqProofs only [go_sem, G3, Gb, Sb, Hb]
  exact sI.done
  skip
theorem do3_ac {h0 h : H} (tb : Tabs h) {b : Nat} {i : UIdeal} {vb vs : Value} {A B : Int} {dg : List UInt8} {st : UStep} (hs : i.small) (k : BoxI h0 h b i vb vs) (hok : idealOk i) : AC Tryz.prog 58 [ptr b 0, .agg (UCmd.cells ⟨3, A, B, dg, st⟩).toArray] h fun r h' => DoneI h0 b (doI i ⟨3, A, B, dg, st⟩) r h' := by
  refine w_impl_Ideal_do (by simp) ?_
  unfold b_impl_Ideal_do
  simp -implicitDefEqProofs only [go_sem]
  intro b3 hb3 n3
  have z3 : (b = b3) = False := eq_false fun e => by rw [← e, k.g] at n3; cases n3
  have k3e := (Ext.refl h).set n3 ⟨(UCmd.cells ⟨3, A, B, dg, st⟩), 8⟩
  have k3 := k.ext k3e
  have g3 : (h.set b3 ⟨(UCmd.cells ⟨3, A, B, dg, st⟩), 8⟩).get b3 = some ⟨(UCmd.cells ⟨3, A, B, dg, st⟩), 8⟩ := H.set_get_same _ _ _
  generalize h.set b3 ⟨(UCmd.cells ⟨3, A, B, dg, st⟩), 8⟩ = hh at *
  have G3 := fun o n => ldc_get g3 o n
  have Gb := fun o n => ldc_get k3.g o n
  have Sb := fun o n cs => stc_get k3.g o n cs
  have Hb := k3.hb
  skip
  simp -implicitDefEqProofs only [go_sem, G3, Gb, Sb, Hb]
  refine AC_of (finish_ac (st := st) (tb.ext k3e) hs k3 hok) ?_
  rintro r h1 - sI
  simp -implicitDefEqProofs only [go_sem, G3, Gb, Sb, Hb]
  exact sI.done
  skip
theorem do_ac {h0 h : H} (tb : Tabs h) {b : Nat} {i : UIdeal} {vb vs : Value} {c : UCmd} (hs : i.small) (k : BoxI h0 h b i vb vs) (hok : idealOk i) (hc : cmdOk c) : AC Tryz.prog 58 [ptr b 0, .agg c.cells.toArray] h fun r h' => DoneI h0 b (doI i c) r h' := by
  obtain ⟨kind, A, B, dg, st⟩ := c
  have hk := hc.1
  simp only at hk
  have : kind = 1 ∨ kind = 2 ∨ kind = 3 ∨ kind = 4 ∨ kind = 5 ∨ kind = 6 ∨ kind = 7 ∨ kind = 8 ∨ kind = 9 ∨ kind = 10 ∨ kind = 11 := by omega
  rcases this with rfl | rfl | rfl | rfl | rfl | rfl | rfl | rfl | rfl | rfl | rfl
  · exact DoX.do1_ac k hok hc
  · exact do2_ac hs k hok
  · exact do3_ac tb hs k hok
  · exact do4_ac hs k hok hc
  · exact do5_ac hs k hok hc
  · exact do6_ac hs k hok hc
  · exact do7_ac hs k hok hc
  · exact do8_ac hs k hok hc
  · exact do9_ac hs k hok hc
  · exact do10_ac hs k hok hc
  · exact do11_ac hs k hok hc
end Go.Proofs.YtdofcojbjcpikaaGreatDoor

set_option linter.unusedVariables false
set_option linter.unusedSimpArgs false
set_option maxRecDepth 100000
namespace Go.Proofs.YtdofcojbjcpikaaGreatDoor
open Go.KH

noncomputable def idealDo (i : UIdeal) (c : UCmd) : UIdealOut := if idealOk i ∧ cmdOk c then doI i c else illOut 1
/-- impl.IdealDo -/
def b_impl_IdealDo : C := (.seq (.ops [⟨(some 2), none, .box (.t 0)⟩, ⟨(some 3), none, .box (.t 1)⟩, ⟨(some 4), none, .alloc [(i64 0), (i64 0), (i64 0), (i64 0), (i64 0), (i64 0), (str []), nils, nils, (str []), nils, (i64 0)]⟩])
 (.seq (.seq (.ops [q 9 (.ld true 9 (.t 2)), ⟨(some 10), none, .call (.c (.func (.func 55) #[] #[])) [(.t 9)]⟩, q 11 (.un .not (.t 10)), q 12 (.mv (.t 11)), qg 13 12 false (.ld true 8 (.t 3)), ⟨(some 14), (some (12, false)), .call (.c (.func (.func 56) #[] #[])) [(.t 13)]⟩, qg 15 12 false (.un .not (.t 14)), q 16 (.pick (.t 12) (.c (.bool true)) (.t 15))])
 (.cond (.t 16) (.seq (.ops [q 17 (.build [(i64 0), (i64 0), (i64 0), (i64 0), (i64 0), (i64 0), (str []), nils, nils, (str []), nils, (i64 0)] [(11, 1, (.c (i64 1)))]), ⟨none, none, .st 12 (.t 4) (.t 17)⟩])
 .ret) .skip))
 (.seq (.ops [q 18 (.ld true 9 (.t 2)), ⟨(some 19), none, .call (.c (.func (.func 57) #[] #[])) [(.t 18)]⟩, ⟨(some 5), none, .alloc [(i64 0), (i64 0), (i64 0), (i64 0), (i64 0), (i64 0), (str []), nils, nils]⟩, ⟨none, none, .st 9 (.t 5) (.t 19)⟩])
 (.seq (.ops [q 21 (.ld true 8 (.t 3)), ⟨(some 22), none, .call (.c (.func (.func 58) #[] #[])) [(.t 5), (.t 21)]⟩, q 20 (.mv (.t 22)), q 23 (.ext 0 (.t 20)), q 24 (.ext 1 (.t 20)), q 25 (.ext 2 (.t 20)), q 6 (.mv (.t 23)), q 7 (.mv (.t 24)), q 8 (.mv (.t 25))])
 (.seq (.ops [q 26 (.ld true 9 (.t 5)), q 27 (.mv (.t 6)), q 28 (.mv (.t 7)), q 29 (.mv (.t 8)), q 30 (.build [(i64 0), (i64 0), (i64 0), (i64 0), (i64 0), (i64 0), (str []), nils, nils, (str []), nils, (i64 0)] [(0, 9, (.t 26)), (9, 1, (.t 27)), (10, 1, (.t 28)), (11, 1, (.t 29))]), ⟨none, none, .st 12 (.t 4) (.t 30)⟩])
 .ret)))))
theorem w_impl_IdealDo {args : List Value} {h : H} {Q : Value → H → Prop} (hl : args.length ≤ 31) (hk : wpc Tryz.prog b_impl_IdealDo (retw [.cell 4 true 12] Q) (argsFr args) h) : AC Tryz.prog 12 args h Q :=
  AC.of_wpc mixedOrders Tryz.func12 (by kernel_rfl) (by kernel_rfl : prepF Tryz.prog Tryz.f12 = some ⟨31, [.cell 4 true 12], b_impl_IdealDo⟩) hl hk

set_option maxHeartbeats 1600000 in
theorem implIdealDo_ac {h : H} (tb : Tabs h) {cs : List Value} {i : UIdeal} {c : UCmd} (hv : RepR h (spIdeal i) cs) (hs : i.small) : AC Tryz.prog 12 [.agg cs.toArray, .agg c.cells.toArray] h fun r h' => Ext h h' ∧ ∃ cs', r = .agg cs'.toArray ∧ RepF h h' (spIdealOut (idealDo i c)) cs' := by
  have l1 := hv.len
  simp only [List.length_cons, List.length_nil, Nat.reduceAdd] at l1
  have t1 := take_len l1
  have o1 := hv.one
  skip
  unfold idealDo
  refine w_impl_IdealDo (by simp) ?_
  unfold b_impl_IdealDo
  simp -implicitDefEqProofs only [go_sem, l1, t1, o1]
  intro b2 hb_b2 n_b2
  simp -implicitDefEqProofs only [go_sem, l1, t1, o1, hb_b2]
  intro b3 hb_b3 m0_b3
  obtain ⟨z_b3_b2, y_b3_b2, n_b3⟩ := fne m0_b3
  simp only [H.set_base] at hb_b3
  simp -implicitDefEqProofs only [go_sem, l1, t1, o1, hb_b2, hb_b3, z_b3_b2, y_b3_b2]
  intro b4 hb_b4 m0_b4
  obtain ⟨z_b4_b3, y_b4_b3, m1_b4⟩ := fne m0_b4
  obtain ⟨z_b4_b2, y_b4_b2, n_b4⟩ := fne m1_b4
  simp only [H.set_base] at hb_b4
  simp -implicitDefEqProofs only [go_sem, l1, t1, o1, hb_b2, hb_b3, z_b3_b2, y_b3_b2, hb_b4, z_b4_b3, y_b4_b3, z_b4_b2, y_b4_b2]
  refine (isIdeal_pc (hv.ext ((((Ext.refl _).set' n_b2 _).set' n_b3 _).set' n_b4 _)) hs).use ?_
  by_cases q1 : idealOk i
  rotate_left
  · simp -implicitDefEqProofs only [go_sem, decide_eq_false q1, l1, t1, o1, hb_b2, hb_b3, z_b3_b2, y_b3_b2, hb_b4, z_b4_b3, y_b4_b3, z_b4_b2, y_b4_b2]
    rw [if_neg (fun e => q1 e.1)]
    exact ⟨((((Ext.refl _).set' n_b2 _).set' n_b3 _).set' n_b4 _), _, rfl, ill_f _ _ 1⟩
  simp -implicitDefEqProofs only [go_sem, decide_eq_true q1, l1, t1, o1, hb_b2, hb_b3, z_b3_b2, y_b3_b2, hb_b4, z_b4_b3, y_b4_b3, z_b4_b2, y_b4_b2]
  refine (isCmd_pc _ c).use ?_
  by_cases q2 : cmdOk c
  rotate_left
  · simp -implicitDefEqProofs only [go_sem, decide_eq_false q2, l1, t1, o1, hb_b2, hb_b3, z_b3_b2, y_b3_b2, hb_b4, z_b4_b3, y_b4_b3, z_b4_b2, y_b4_b2]
    rw [if_neg (fun e => q2 e.2)]
    exact ⟨((((Ext.refl _).set' n_b2 _).set' n_b3 _).set' n_b4 _), _, rfl, ill_f _ _ 1⟩
  rw [if_pos ⟨q1, q2⟩]
  simp -implicitDefEqProofs only [go_sem, decide_eq_true q2, l1, t1, o1, hb_b2, hb_b3, z_b3_b2, y_b3_b2, hb_b4, z_b4_b3, y_b4_b3, z_b4_b2, y_b4_b2]
  have EA : Ext h (((h.set b2 ⟨cs, 9⟩).set b3 ⟨c.cells, 8⟩).set b4 ⟨[i64 0, i64 0, i64 0, i64 0, i64 0, i64 0, str [], nils, nils, str [], nils, i64 0], 12⟩) := ((((Ext.refl _).set' n_b2 _).set' n_b3 _).set' n_b4 _)
  have n4h : h.get b4 = none := by assumption
  have gA4 : (((h.set b2 ⟨cs, 9⟩).set b3 ⟨c.cells, 8⟩).set b4 ⟨[i64 0, i64 0, i64 0, i64 0, i64 0, i64 0, str [], nils, nils, str [], nils, i64 0], 12⟩).get b4 = some ⟨[i64 0, i64 0, i64 0, i64 0, i64 0, i64 0, str [], nils, nils, str [], nils, i64 0], 12⟩ := H.set_get_same _ _ _
  have gA3 : (((h.set b2 ⟨cs, 9⟩).set b3 ⟨c.cells, 8⟩).set b4 ⟨[i64 0, i64 0, i64 0, i64 0, i64 0, i64 0, str [], nils, nils, str [], nils, i64 0], 12⟩).get b3 = some ⟨c.cells, 8⟩ := by simp -implicitDefEqProofs only [go_sem, l1, t1, o1, hb_b2, hb_b3, z_b3_b2, y_b3_b2, hb_b4, z_b4_b3, y_b4_b3, z_b4_b2, y_b4_b2]
  have bA4 : (((h.set b2 ⟨cs, 9⟩).set b3 ⟨c.cells, 8⟩).set b4 ⟨[i64 0, i64 0, i64 0, i64 0, i64 0, i64 0, str [], nils, nils, str [], nils, i64 0], 12⟩).base ≤ b4 := by rw [EA.1]; exact hb_b4
  generalize (((h.set b2 ⟨cs, 9⟩).set b3 ⟨c.cells, 8⟩).set b4 ⟨[i64 0, i64 0, i64 0, i64 0, i64 0, i64 0, str [], nils, nils, str [], nils, i64 0], 12⟩) = hA at *
  skip
  refine AC_of (cloneIdealO_ac (hv.ext EA) hs) ?_
  rintro _ h1 - ⟨e1, vb, vs, rfl, F1, F2, d⟩
  have v1 := F1.sl.one
  have v2 := F2.sl.one
  have v3 := F1.sl.vcl
  have v4 := F2.sl.vcl
  have G3 := fun o n => ldc_get (e1.2.g b3 _ gA3) o n
  simp -implicitDefEqProofs only [go_sem, v1, v2, v3, v4, G3, l1, t1, o1]
  intro b5 hb5 n5
  have z53 : (b5 = b3) = False := eq_false fun e => by subst e; rw [e1.2.g _ _ gA3] at n5; cases n5
  have k5 : BoxI hA (h1.set b5 ⟨i.cells vb vs, 9⟩) b5 i vb vs := ⟨e1.set n5 _, e1.none n5, H.set_get_same _ _ _, by rw [H.set_base]; exact hb5, F1.ext ((Ext.refl _).set n5 _), F2.ext ((Ext.refl _).set n5 _), d, fun e => F1.known b5 e n5, fun e => by obtain ⟨_, _, z, hg⟩ := F2.ob_new e; rw [n5] at hg; cases hg⟩
  have e5 := e1.set n5 ⟨i.cells vb vs, 9⟩
  have G35 := fun o n => ldc_get (e5.2.g b3 _ gA3) o n
  simp -implicitDefEqProofs only [go_sem, hb5, v1, v2, v3, v4, G35, l1, t1, o1]
  refine AC_of (do_ac (tb.ext (EA.trans e5)) hs k5 q1 q2) ?_
  rintro r h2 - ⟨e2, cs', vr, rfl, g5, FF⟩
  have hlen := FF.r.len
  simp only [List.length_append, List.length_cons, List.length_nil, Nat.reduceAdd] at hlen
  have l9 : cs'.length = 9 := by omega
  obtain ⟨ub, us, ur, hcs, H1, H2, H3, d1, d2, d3⟩ := idealOut_f.1 FF
  have hc9 : cs' = (doI i c).ideal.cells ub us := by
    have := congrArg (List.take 9) hcs
    rw [List.take_append_of_le_length (by omega), List.take_of_length_le (by omega)] at this
    exact this
  have hvr : ur = vr := by
    have := congrArg (List.drop 9) hcs
    rw [List.drop_append_of_le_length (by omega), List.drop_eq_nil_of_le (by omega)] at this
    simp at this
    exact this.symm
  subst hvr
  subst hc9
  have g4 := e2.2.g b4 _ gA4
  have hb2 : h2.base ≤ b4 := by rw [e2.1]; exact bA4
  have w1 := H1.sl.one
  have w2 := H2.sl.one
  have w3 := H3.sl.one
  have w4 := H1.sl.vcl
  have w5 := H2.sl.vcl
  have w6 := H3.sl.vcl
  simp -implicitDefEqProofs only [go_sem, ldc_get g5, ldc_get g4, stc_get g4, hb2, w1, w2, w3, w4, w5, w6, l1, t1, o1]
  exact ⟨(EA.trans e2).set' n4h _, _, rfl, (FF.set (b := b4) gA4 _).back EA⟩
end Go.Proofs.YtdofcojbjcpikaaGreatDoor
