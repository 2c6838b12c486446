/- A helper of this seat's claims (contracts of the functions): what it shows is shown for every input that its statements name, on no other condition. -/
import Derived.Test.YthjbhdmjfakfaaaGreatDoorCZk
import Derived.Test.YthjbhdmjfakfaaaGreatDoorCZl
import Derived.Test.YthjbhdmjfakfaaaGreatDoorCLs
import Derived.Test.YthjbhdmjfakfaaaGreatDoorMCDw
set_option linter.unusedVariables false
set_option linter.unusedSimpArgs false
set_option maxRecDepth 100000
namespace Go.Proofs.YthjbhdmjfakfaaaGreatDoor
open Go.KH

/-! ## The small functions of the law of packages -/
/-- laws.lwPackage -/
def b_laws_lwPackage : C := (.seq (.ops [⟨(some 2), none, .box (.t 0)⟩, ⟨(some 3), none, .box (.t 1)⟩, q 4 (.mv (.c (.bool false)))])
 (.seq (.ops [q 5 (.fld 3 (.t 2)), q 6 (.ld false 1 (.t 5)), q 7 (.fld 3 (.t 3)), q 8 (.ld false 1 (.t 7)), q 9 (.bin .eql (.t 6) (.t 8)), q 10 (.mv (.t 9)), qg 11 10 true (.fld 0 (.t 2)), qg 12 10 true (.fld 0 (.t 11)), qg 13 10 true (.ld false 1 (.t 12)), qg 14 10 true (.fld 0 (.t 3)), qg 15 10 true (.fld 0 (.t 14)), qg 16 10 true (.ld false 1 (.t 15)), qg 17 10 true (.bin .eql (.t 13) (.t 16)), q 18 (.pick (.t 10) (.t 17) (.c (.bool false))), q 19 (.mv (.t 18)), qg 20 19 true (.fld 0 (.t 2)), qg 21 19 true (.fld 1 (.t 20)), qg 22 19 true (.ld false 1 (.t 21)), qg 23 19 true (.fld 0 (.t 3)), qg 24 19 true (.fld 1 (.t 23)), qg 25 19 true (.ld false 1 (.t 24)), qg 26 19 true (.bin .eql (.t 22) (.t 25)), q 27 (.pick (.t 19) (.t 26) (.c (.bool false))), q 28 (.mv (.t 27)), qg 29 28 true (.fld 0 (.t 2)), qg 30 28 true (.fld 2 (.t 29)), qg 31 28 true (.ld false 1 (.t 30)), qg 32 28 true (.fld 0 (.t 3)), qg 33 28 true (.fld 2 (.t 32)), qg 34 28 true (.ld false 1 (.t 33)), ⟨(some 35), (some (28, true)), .call (.c (.func (.func 50) #[] #[])) [(.t 31), (.t 34)]⟩, q 36 (.pick (.t 28) (.t 35) (.c (.bool false))), q 4 (.mv (.t 36))])
 .ret))
theorem w_laws_lwPackage {args : List Value} {h : H} {Q : Value → H → Prop} (hl : args.length ≤ 37) (hk : wpc Tryz.prog b_laws_lwPackage (retw [.tmp 4] Q) (argsFr args) h) : AC Tryz.prog 13 args h Q :=
  AC.of_wpc mixedOrders Tryz.func13 (by kernel_rfl) (by kernel_rfl : prepF Tryz.prog Tryz.f13 = some ⟨37, [.tmp 4], b_laws_lwPackage⟩) hl hk

theorem lwPackage_pc {h : H} {c1 c2 : List Value} {a b : UPkg × Int} (ha : RepR h (spPo a) c1) (hb : RepR h (spPo b) c2) (hn : a.1.steps.length ≤ 1048576) : PC Tryz.prog 13 [.agg c1.toArray, .agg c2.toArray] h (.bool (decide (a = b))) := by
  obtain ⟨v1, rfl, p1⟩ := po_r.1 ha
  obtain ⟨u1, rfl, q1⟩ := po_r.1 hb
  obtain ⟨⟨x1, x2, x3⟩, x4⟩ := a
  obtain ⟨⟨w1, w2, w3⟩, w4⟩ := b
  refine PC_of ?_
  refine w_laws_lwPackage (by simp) ?_
  unfold b_laws_lwPackage
  simp -implicitDefEqProofs only [go_sem]
  intro b1 hb_b1 n_b1
  simp -implicitDefEqProofs only [go_sem, hb_b1]
  intro b2 hb_b2 m0_b2
  obtain ⟨z_b2_b1, y_b2_b1, n_b2⟩ := fne m0_b2
  simp only [H.set_base] at hb_b2
  simp -implicitDefEqProofs only [go_sem, hb_b1, hb_b2, z_b2_b1, y_b2_b1]
  repeat' first | (refine Br.of (fun hc => ?_) (fun hc => ?_) <;> simp -implicitDefEqProofs only [go_sem, hc, hb_b1, hb_b2, z_b2_b1, y_b2_b1]) | (refine PC.use (lwSteps_pc (p1.ext (((Ext.refl _).set' n_b1 _).set' n_b2 _)) (q1.ext (((Ext.refl _).set' n_b1 _).set' n_b2 _)) hn) ?_; simp -implicitDefEqProofs only [go_sem, hc, hb_b1, hb_b2, z_b2_b1, y_b2_b1])
  all_goals first | exact (((Ext.refl _).set' n_b1 _).set' n_b2 _) | exact ⟨(((Ext.refl _).set' n_b1 _).set' n_b2 _), by simp_all⟩
/-- impl.PackageRight -/
def b_impl_PackageRight : C := (.seq (.ops [⟨(some 1), none, .box (.t 0)⟩, q 2 (.mv (.c (.bool false)))])
 (.seq (.ops [q 3 (.ld true 3 (.t 1)), ⟨(some 4), none, .call (.c (.func (.func 39) #[] #[])) [(.t 3)]⟩, q 2 (.mv (.t 4))])
 .ret))
theorem w_impl_PackageRight {args : List Value} {h : H} {Q : Value → H → Prop} (hl : args.length ≤ 5) (hk : wpc Tryz.prog b_impl_PackageRight (retw [.tmp 2] Q) (argsFr args) h) : AC Tryz.prog 19 args h Q :=
  AC.of_wpc mixedOrders Tryz.func19 (by kernel_rfl) (by kernel_rfl : prepF Tryz.prog Tryz.f19 = some ⟨5, [.tmp 2], b_impl_PackageRight⟩) hl hk

theorem implPackageRight_pc {h : H} {cs : List Value} {p : UPkg} (hv : RepR h (spPkg p) cs) (hs : p.steps.length ≤ 1048576) : PC Tryz.prog 19 [.agg cs.toArray] h (.bool (decide (pkgOk p))) := by
  obtain ⟨v, rfl, a1⟩ := pkg_r.1 hv
  have hv0 := hv
  refine PC_of ?_
  refine w_impl_PackageRight (by simp) ?_
  unfold b_impl_PackageRight
  simp -implicitDefEqProofs only [go_sem]
  intro b1 hb_b1 n_b1
  simp -implicitDefEqProofs only [go_sem, hb_b1]
  refine (isPackage_pc (hv0.ext ((Ext.refl _).set' n_b1 _)) hs).use ?_
  simp -implicitDefEqProofs only [go_sem, hb_b1]
  exact ((Ext.refl _).set' n_b1 _)
/-- impl.ImageApply -/
def b_impl_ImageApply : C := (.seq (.ops [⟨(some 4), none, .alloc [nils, (i64 0)]⟩])
 (.seq (.block 0 (.seq (.ops [q 7 (.mv (.t 0)), q 8 (.len (.t 7)), q 9 (.bin .gtr (.t 8) (.c (i64 400))), q 10 (.mv (.t 9)), qg 11 10 false (.mv (.t 1)), qg 12 10 false (.len (.t 11)), qg 13 10 false (.bin .gtr (.t 12) (.c (i64 400))), q 14 (.pick (.t 10) (.c (.bool true)) (.t 13)), q 6 (.mv (.t 14))])
 (.cond (.t 6) (.seq (.ops [q 15 (.build [nils, (i64 0)] [(1, 1, (.c (i64 2)))]), ⟨none, none, .st 2 (.t 4) (.t 15)⟩])
 .ret) (.seq (.ops [q 17 (.mv (.t 0)), ⟨(some 18), none, .call (.c (.func (.func 34) #[] #[])) [(.t 17)]⟩, q 19 (.un .not (.t 18)), q 16 (.mv (.t 19))])
 (.cond (.t 16) (.seq (.ops [q 20 (.build [nils, (i64 0)] [(1, 1, (.c (i64 1)))]), ⟨none, none, .st 2 (.t 4) (.t 20)⟩])
 .ret) .skip)))))
 (.seq (.seq (.ops [q 21 (.mv (.t 1)), q 22 (.mv (.t 0)), ⟨(some 23), none, .call (.c (.func (.func 35) #[] #[])) [(.t 22)]⟩, ⟨(some 24), none, .call (.c (.func (.func 64) #[] #[])) [(.t 21), (.t 23)]⟩, q 5 (.mv (.t 24))])
 (.seq (.ops [q 25 (.mv (.t 5)), q 26 (.bin .neq (.t 25) (.c (i64 0)))])
 (.cond (.t 26) (.seq (.ops [q 27 (.mv (.t 5)), q 28 (.build [nils, (i64 0)] [(1, 1, (.t 27))]), ⟨none, none, .st 2 (.t 4) (.t 28)⟩])
 .ret) .skip)))
 (.seq (.ops [q 29 (.mv (.t 0)), q 30 (.mv (.t 1)), ⟨(some 31), none, .call (.c (.func (.func 65) #[] #[])) [(.t 29), (.t 30)]⟩, q 32 (.build [nils, (i64 0)] [(0, 1, (.t 31))]), ⟨none, none, .st 2 (.t 4) (.t 32)⟩])
 .ret))))
theorem w_impl_ImageApply {args : List Value} {h : H} {Q : Value → H → Prop} (hl : args.length ≤ 33) (hk : wpc Tryz.prog b_impl_ImageApply (retw [.cell 4 true 2] Q) (argsFr args) h) : AC Tryz.prog 23 args h Q :=
  AC.of_wpc mixedOrders Tryz.func23 (by kernel_rfl) (by kernel_rfl : prepF Tryz.prog Tryz.f23 = some ⟨33, [.cell 4 true 2], b_impl_ImageApply⟩) hl hk

theorem implImageApply_ac {h : H} {v u : Value} {im : List (List UInt8)} {l : List UStep} (hv : Sl h v 1 (strs im)) (hu : Sl h u 4 (l.map UStep.cells)) (hi : im.length ≤ 1048576) (hn : l.length ≤ 1048576) :
    AC Tryz.prog 23 [v, u] h fun r h' => Ext h h' ∧ ∃ cs, r = .agg cs.toArray ∧ RepF h h' (spImg (imgOut im l)) cs := by
  obtain ⟨av, cv, rfl⟩ := hv.shape
  obtain ⟨au, cu, rfl⟩ := hu.shape
  have hl : (strs im).length = im.length := by simp
  have hll : (l.map UStep.cells).length = l.length := by simp
  rw [hl] at hv
  rw [hll] at hu
  skip
  refine w_impl_ImageApply (by simp) ?_
  unfold b_impl_ImageApply
  simp -implicitDefEqProofs only [go_sem, hl, hll]
  intro b4 hb_b4 n_b4
  unfold imgOut
  by_cases h1 : 400 < im.length
  · rw [if_pos (.inl h1)]
    simp -implicitDefEqProofs only [go_sem, show (400 : Int) < (im.length : Int) by omega, hl, hll, hb_b4]
    exact ⟨((Ext.refl _).set' n_b4 _), _, rfl, img_none⟩
  by_cases h2 : 400 < l.length
  · rw [if_pos (.inr h2)]
    simp -implicitDefEqProofs only [go_sem, show ¬ (400 : Int) < (im.length : Int) by omega, show (400 : Int) < (l.length : Int) by omega, hl, hll, hb_b4]
    exact ⟨((Ext.refl _).set' n_b4 _), _, rfl, img_none⟩
  rw [if_neg (by omega)]
  simp -implicitDefEqProofs only [go_sem, show ¬ (400 : Int) < (im.length : Int) by omega, show ¬ (400 : Int) < (l.length : Int) by omega, hl, hll, hb_b4]
  refine (isImage_pc (hv.ext ((Ext.refl _).set' n_b4 _)) hi).use ?_
  by_cases h3 : imageOk im
  rotate_left
  · rw [if_neg h3]
    simp -implicitDefEqProofs only [go_sem, h3, hl, hll, hb_b4]
    exact ⟨((Ext.refl _).set' n_b4 _), _, rfl, img_none⟩
  rw [if_pos h3]
  simp -implicitDefEqProofs only [go_sem, h3, hl, hll, hb_b4]
  refine (sizeStr_pc (hv.ext ((Ext.refl _).set' n_b4 _))).use ?_
  simp -implicitDefEqProofs only [go_sem, hl, hll, hb_b4]
  refine (stepsCode_pc (hu.ext ((Ext.refl _).set' n_b4 _)) hn).use ?_
  simp -implicitDefEqProofs only [go_sem, hl, hll, hb_b4]
  by_cases h4 : codeOf l im.length = 0
  rotate_left
  · rw [if_neg h4]
    simp -implicitDefEqProofs only [go_sem, h4, hl, hll, hb_b4]
    exact ⟨((Ext.refl _).set' n_b4 _), _, rfl, img_none⟩
  rw [if_pos h4]
  simp -implicitDefEqProofs only [go_sem, h4, hl, hll, hb_b4]
  refine AC_of (imageApply_ac (hv.ext ((Ext.refl _).set' n_b4 _)) (hu.ext ((Ext.refl _).set' n_b4 _)) h3 hn (code_zero h4).1.2.2) ?_
  rintro w h5 - ⟨e1, f1⟩
  have g2 := e1.2.g b4 _ (H.set_get_same _ _ _)
  have hb4 := e1.1
  simp only [H.set_base] at hb4
  simp -implicitDefEqProofs only [go_sem, f1.sl.vcl, f1.sl.one, ldc_get g2, stc_get g2, hb4, hl, hll, hb_b4]
  exact ⟨((((Ext.refl _).set' n_b4 _)).trans e1).set' n_b4 _, _, rfl, img_f.2 ⟨w, rfl, (f1.set (b := b4) (H.set_get_same _ _ _) _).back ((Ext.refl _).set' n_b4 _)⟩⟩
end Go.Proofs.YthjbhdmjfakfaaaGreatDoor
