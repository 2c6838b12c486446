/- A helper of this seat's claims (contracts of the functions): what it shows is shown for every input that its statements name, on no other condition. -/
import Derived.Test.YthjbhdmjfakfaaaGreatDoorCZh
import Derived.Test.YthjbhdmjfakfaaaGreatDoorMC08o
set_option linter.unusedVariables false
set_option linter.unusedSimpArgs false
set_option maxRecDepth 100000
namespace Go.Proofs.YthjbhdmjfakfaaaGreatDoor
open Go.KH

/-! ## The package from one image to another -/
def labS : UStep := ⟨5, 0, 1, []⟩
def pkgSteps (old fresh : List (List UInt8)) : List UStep := stepsTo old fresh old.length ++ [labS]
def packageOut (old fresh : List (List UInt8)) : UPkg × Int :=
  if 400 < old.length ∨ 400 < fresh.length then (pkg0, 2) else if ¬ (imageOk old ∧ imageOk fresh ∧ old.length = fresh.length) then (pkg0, 1)
  else (⟨old.length, shaL fresh.flatten, pkgSteps old fresh⟩, 0)
theorem packageOut_small (old fresh : List (List UInt8)) : (packageOut old fresh).1.steps.length ≤ 400 := by
  unfold packageOut
  split
  · simp [pkg0]
  · split
    · simp [pkg0]
    · rename_i h1 h2
      have := stepsTo_len old fresh old.length
      have h3 : imageOk old := Classical.byContradiction fun h => h2 fun q => h q.1
      have := h3.1
      simp [pkgSteps]; omega
/-- impl.PackageOf -/
def b_impl_PackageOf : C := (.seq (.ops [⟨(some 4), none, .alloc [(i64 0), (str []), nils, (i64 0)]⟩])
 (.seq (.block 0 (.seq (.ops [q 6 (.mv (.t 0)), q 7 (.len (.t 6)), q 8 (.bin .gtr (.t 7) (.c (i64 400))), q 9 (.mv (.t 8)), qg 10 9 false (.mv (.t 1)), qg 11 9 false (.len (.t 10)), qg 12 9 false (.bin .gtr (.t 11) (.c (i64 400))), q 13 (.pick (.t 9) (.c (.bool true)) (.t 12)), q 5 (.mv (.t 13))])
 (.cond (.t 5) (.seq (.ops [q 14 (.build [(i64 0), (str []), nils, (i64 0)] [(3, 1, (.c (i64 2)))]), ⟨none, none, .st 4 (.t 4) (.t 14)⟩])
 .ret) (.seq (.ops [q 16 (.mv (.t 0)), ⟨(some 17), none, .call (.c (.func (.func 34) #[] #[])) [(.t 16)]⟩, q 18 (.un .not (.t 17)), q 19 (.mv (.t 18)), qg 20 19 false (.mv (.t 1)), ⟨(some 21), (some (19, false)), .call (.c (.func (.func 34) #[] #[])) [(.t 20)]⟩, qg 22 19 false (.un .not (.t 21)), q 23 (.pick (.t 19) (.c (.bool true)) (.t 22)), q 24 (.mv (.t 23)), qg 25 24 false (.mv (.t 0)), qg 26 24 false (.len (.t 25)), qg 27 24 false (.mv (.t 1)), qg 28 24 false (.len (.t 27)), qg 29 24 false (.bin .neq (.t 26) (.t 28)), q 30 (.pick (.t 24) (.c (.bool true)) (.t 29)), q 15 (.mv (.t 30))])
 (.cond (.t 15) (.seq (.ops [q 31 (.build [(i64 0), (str []), nils, (i64 0)] [(3, 1, (.c (i64 1)))]), ⟨none, none, .st 4 (.t 4) (.t 31)⟩])
 .ret) .skip)))))
 (.seq (.ops [q 32 (.mv (.t 0)), ⟨(some 33), none, .call (.c (.func (.func 35) #[] #[])) [(.t 32)]⟩, q 34 (.mv (.t 1)), ⟨(some 35), none, .call (.c (.func (.func 36) #[] #[])) [(.t 34)]⟩, q 36 (.mv (.t 0)), q 37 (.mv (.t 1)), ⟨(some 38), none, .call (.c (.func (.func 37) #[] #[])) [(.t 36), (.t 37)]⟩, q 39 (.build [(i64 0), (i64 0), (i64 0), (str [])] [(0, 1, (.c (i64 5))), (2, 1, (.c (i64 1)))]), ⟨(some 40), none, .bsl 1 [(i64 0), (i64 0), (i64 0), (str [])] [(0, 4, (.t 39))]⟩, ⟨(some 41), none, .app 4 40 (.t 38) (.t 40)⟩, q 42 (.build [(i64 0), (str []), nils] [(0, 1, (.t 33)), (1, 1, (.t 35)), (2, 1, (.t 41))]), q 43 (.build [(i64 0), (str []), nils, (i64 0)] [(0, 3, (.t 42))]), ⟨none, none, .st 4 (.t 4) (.t 43)⟩])
 .ret)))
theorem w_impl_PackageOf {args : List Value} {h : H} {Q : Value → H → Prop} (hl : args.length ≤ 44) (hk : wpc Tryz.prog b_impl_PackageOf (retw [.cell 4 true 4] Q) (argsFr args) h) : AC Tryz.prog 7 args h Q :=
  AC.of_wpc mixedOrders Tryz.func7 (by kernel_rfl) (by kernel_rfl : prepF Tryz.prog Tryz.f7 = some ⟨44, [.cell 4 true 4], b_impl_PackageOf⟩) hl hk

set_option maxHeartbeats 3200000 in
theorem implPackageOf_ac {h : H} (tb : Tabs h) {v u : Value} {old fresh : List (List UInt8)} (hv : Sl h v 1 (strs old)) (hu : Sl h u 1 (strs fresh)) (hn : old.length ≤ 1048576) (hm : fresh.length ≤ 1048576) : AC Tryz.prog 7 [v, u] h fun r h' => Ext h h' ∧ ∃ cs, r = .agg cs.toArray ∧ RepF h h' (spPo (packageOut old fresh)) cs := by
  obtain ⟨a, c, rfl⟩ := hv.shape
  obtain ⟨a2, c2, rfl⟩ := hu.shape
  have hl1 : (strs old).length = old.length := by simp
  have hl2 : (strs fresh).length = fresh.length := by simp
  rw [hl1] at hv
  rw [hl2] at hu
  unfold packageOut
  skip
  refine w_impl_PackageOf (by simp) ?_
  unfold b_impl_PackageOf
  simp -implicitDefEqProofs only [go_sem, hl1, hl2]
  intro b4 hb_b4 n_b4
  simp -implicitDefEqProofs only [go_sem, hl1, hl2, hb_b4]
  have E4 := (Ext.refl h).set n_b4 ⟨[i64 0, str [], nils, i64 0], 4⟩
  have G4 : (h.set b4 ⟨[i64 0, str [], nils, i64 0], 4⟩).get b4 = some ⟨[i64 0, str [], nils, i64 0], 4⟩ := H.set_get_same _ _ _
  have B4 : (h.set b4 ⟨[i64 0, str [], nils, i64 0], 4⟩).base ≤ b4 := by rw [H.set_base]; exact hb_b4
  by_cases h1 : 400 < old.length
  · simp -implicitDefEqProofs only [go_sem, show (400 : Int) < (old.length : Int) by omega, hl1, hl2, hb_b4]
    exact ⟨(Ext.refl _).set n_b4 _, _, rfl, by rw [if_pos (.inl h1)]; exact po_none⟩
  by_cases h2 : 400 < fresh.length
  · simp -implicitDefEqProofs only [go_sem, show ¬ ((400 : Int) < (old.length : Int)) by omega, show (400 : Int) < (fresh.length : Int) by omega, hl1, hl2, hb_b4]
    exact ⟨(Ext.refl _).set n_b4 _, _, rfl, by rw [if_pos (.inr h2)]; exact po_none⟩
  rw [if_neg (by omega)]
  simp -implicitDefEqProofs only [go_sem, show ¬ ((400 : Int) < (old.length : Int)) by omega, show ¬ ((400 : Int) < (fresh.length : Int)) by omega, hl1, hl2, hb_b4]
  refine (isImage_pc (hv.ext E4) (by omega)).use ?_
  by_cases h3 : imageOk old
  rotate_left
  · simp -implicitDefEqProofs only [go_sem, decide_eq_false h3, hl1, hl2, hb_b4]
    exact ⟨(Ext.refl _).set n_b4 _, _, rfl, by rw [if_pos (fun q => h3 q.1)]; exact po_none⟩
  simp -implicitDefEqProofs only [go_sem, decide_eq_true h3, hl1, hl2, hb_b4]
  refine (isImage_pc (hu.ext E4) (by omega)).use ?_
  by_cases h4 : imageOk fresh
  rotate_left
  · simp -implicitDefEqProofs only [go_sem, decide_eq_false h4, hl1, hl2, hb_b4]
    exact ⟨(Ext.refl _).set n_b4 _, _, rfl, by rw [if_pos (fun q => h4 q.2.1)]; exact po_none⟩
  simp -implicitDefEqProofs only [go_sem, decide_eq_true h4, hl1, hl2, hb_b4]
  by_cases h5 : old.length = fresh.length
  rotate_left
  · simp -implicitDefEqProofs only [go_sem, show ¬ ((old.length : Int) = (fresh.length : Int)) by omega, hl1, hl2, hb_b4]
    exact ⟨(Ext.refl _).set n_b4 _, _, rfl, by rw [if_pos (fun q => h5 q.2.2)]; exact po_none⟩
  rw [if_neg (fun q => q ⟨h3, h4, h5⟩)]
  generalize hH : h.set b4 ⟨[i64 0, str [], nils, i64 0], 4⟩ = hh at *
  have i1 := h3.1
  simp -implicitDefEqProofs only [go_sem, show ((old.length : Int) = (fresh.length : Int)) by omega, hl1, hl2, hb_b4]
  refine (sizeStr_pc (hv.ext E4)).use ?_
  simp -implicitDefEqProofs only [go_sem, hl1, hl2, hb_b4]
  refine (imageDigest_pc (tb.ext E4) (hu.ext E4) h4).use ?_
  simp -implicitDefEqProofs only [go_sem, hl1, hl2, hb_b4]
  refine AC_of (stepsFor_ac (hv.ext E4) (hu.ext E4) h3 h4 h5) ?_
  rintro vr y1 - ⟨o1, e1⟩
  obtain ⟨aw, cw, rfl⟩ := o1.shape
  have hsl := stepsTo_len old fresh old.length
  have hsw : ((stepsTo old fresh old.length).map UStep.cells).length = (stepsTo old fresh old.length).length := by simp
  rw [hsw] at o1
  simp -implicitDefEqProofs only [go_sem, hsw, hl1, hl2, hb_b4]
  intro bx hbx nx
  simp -implicitDefEqProofs only [go_sem, hsw, hl1, hl2, hb_b4]
  refine appW_own (new := [labS.cells]) (e1.set nx _) (o1.ext ((Ext.refl _).set nx _)) rfl (by intro r hr; simp at hr; subst hr; rfl) rfl (by rw [hsw]; simp; omega) ?_
  intro v9 h9 e9 o9 k9
  have hps : (stepsTo old fresh old.length).map UStep.cells ++ [labS.cells] = (pkgSteps old fresh).map UStep.cells := by rw [pkgSteps, List.map_append]; rfl
  rw [hps] at o9
  have G9 : h9.get b4 = some ⟨[i64 0, str [], nils, i64 0], 4⟩ := by
    refine k9 b4 _ ?_ fun b k' m' e => ?_
    · rw [H.set_get_ne _ _ _ _ (fun e => by subst e; rw [e1.2.g _ _ G4] at nx; cases nx)]; exact e1.2.g _ _ G4
    · rintro rfl
      have := (o1.ob_new (b := b4) (by rw [e]; rfl)).1
      rw [G4] at this; cases this
  have B9 : h9.base ≤ b4 := by rw [e9.1]; exact B4
  obtain ⟨a9, c9, rfl⟩ := o9.shape
  simp -implicitDefEqProofs only [go_sem, stc_get G9, B9, hl1, hl2, hb_b4]
  exact ⟨(E4.trans e9).set' n_b4 _, _, rfl, po_f.2 ⟨_, rfl, (o9.fre.set G4 _).back E4⟩⟩
/-- spec.PackageOf -/
def b_spec_PackageOf : C := (.seq (.ops [⟨(some 4), none, .alloc [(i64 0), (str []), nils, (i64 0)]⟩])
 (.seq (.seq (.ops [q 6 (.mv (.t 0)), q 7 (.len (.t 6)), q 8 (.bin .gtr (.t 7) (.c (i64 400))), q 9 (.mv (.t 8)), qg 10 9 false (.mv (.t 1)), qg 11 9 false (.len (.t 10)), qg 12 9 false (.bin .gtr (.t 11) (.c (i64 400))), q 13 (.pick (.t 9) (.c (.bool true)) (.t 12))])
 (.cond (.t 13) (.seq (.ops [⟨(some 14), none, .call (.c (.func (.func 51) #[] #[])) [(.c (i64 2))]⟩, ⟨none, none, .st 4 (.t 4) (.t 14)⟩])
 .ret) .skip))
 (.seq (.seq (.ops [q 15 (.mv (.t 0)), ⟨(some 16), none, .call (.c (.func (.func 52) #[] #[])) [(.t 15)]⟩, q 17 (.un .not (.t 16)), q 18 (.mv (.t 17)), qg 19 18 false (.mv (.t 1)), ⟨(some 20), (some (18, false)), .call (.c (.func (.func 52) #[] #[])) [(.t 19)]⟩, qg 21 18 false (.un .not (.t 20)), q 22 (.pick (.t 18) (.c (.bool true)) (.t 21)), q 23 (.mv (.t 22)), qg 24 23 false (.mv (.t 0)), qg 25 23 false (.len (.t 24)), qg 26 23 false (.mv (.t 1)), qg 27 23 false (.len (.t 26)), qg 28 23 false (.bin .neq (.t 25) (.t 27)), q 29 (.pick (.t 23) (.c (.bool true)) (.t 28))])
 (.cond (.t 29) (.seq (.ops [⟨(some 30), none, .call (.c (.func (.func 51) #[] #[])) [(.c (i64 1))]⟩, ⟨none, none, .st 4 (.t 4) (.t 30)⟩])
 .ret) .skip))
 (.seq (.ops [q 31 (.mv (.t 0)), q 32 (.mv (.t 1)), ⟨(some 33), none, .call (.c (.func (.func 53) #[] #[])) [(.t 31), (.t 32)]⟩, q 34 (.build [(i64 0), (i64 0), (i64 0), (str [])] [(0, 1, (.c (i64 5))), (2, 1, (.c (i64 1)))]), ⟨(some 35), none, .bsl 1 [(i64 0), (i64 0), (i64 0), (str [])] [(0, 4, (.t 34))]⟩, ⟨(some 36), none, .app 4 40 (.t 33) (.t 35)⟩, q 5 (.mv (.t 36))])
 (.seq (.ops [q 37 (.mv (.t 0)), q 38 (.len (.t 37)), q 39 (.mv (.t 1)), ⟨(some 40), none, .call (.c (.func (.func 54) #[] #[])) [(.t 39)]⟩, q 41 (.mv (.t 5)), q 42 (.build [(i64 0), (str []), nils] [(0, 1, (.t 38)), (1, 1, (.t 40)), (2, 1, (.t 41))]), q 43 (.build [(i64 0), (str []), nils, (i64 0)] [(0, 3, (.t 42))]), ⟨none, none, .st 4 (.t 4) (.t 43)⟩])
 .ret)))))
theorem w_spec_PackageOf {args : List Value} {h : H} {Q : Value → H → Prop} (hl : args.length ≤ 44) (hk : wpc Tryz.prog b_spec_PackageOf (retw [.cell 4 true 4] Q) (argsFr args) h) : AC Tryz.prog 14 args h Q :=
  AC.of_wpc mixedOrders Tryz.func14 (by kernel_rfl) (by kernel_rfl : prepF Tryz.prog Tryz.f14 = some ⟨44, [.cell 4 true 4], b_spec_PackageOf⟩) hl hk

set_option maxHeartbeats 3200000 in
theorem specPackageOf_ac {h : H} {v u : Value} {old fresh : List (List UInt8)} (hv : Sl h v 1 (strs old)) (hu : Sl h u 1 (strs fresh)) (hn : old.length ≤ 1048576) (hm : fresh.length ≤ 1048576) : AC Tryz.prog 14 [v, u] h fun r h' => Ext h h' ∧ ∃ cs, r = .agg cs.toArray ∧ RepF h h' (spPo (packageOut old fresh)) cs := by
  obtain ⟨a, c, rfl⟩ := hv.shape
  obtain ⟨a2, c2, rfl⟩ := hu.shape
  have hl1 : (strs old).length = old.length := by simp
  have hl2 : (strs fresh).length = fresh.length := by simp
  rw [hl1] at hv
  rw [hl2] at hu
  unfold packageOut
  skip
  refine w_spec_PackageOf (by simp) ?_
  unfold b_spec_PackageOf
  simp -implicitDefEqProofs only [go_sem, hl1, hl2]
  intro b4 hb_b4 n_b4
  simp -implicitDefEqProofs only [go_sem, hl1, hl2, hb_b4]
  have E4 := (Ext.refl h).set n_b4 ⟨[i64 0, str [], nils, i64 0], 4⟩
  have G4 : (h.set b4 ⟨[i64 0, str [], nils, i64 0], 4⟩).get b4 = some ⟨[i64 0, str [], nils, i64 0], 4⟩ := H.set_get_same _ _ _
  have B4 : (h.set b4 ⟨[i64 0, str [], nils, i64 0], 4⟩).base ≤ b4 := by rw [H.set_base]; exact hb_b4
  by_cases h1 : 400 < old.length
  · simp -implicitDefEqProofs only [go_sem, show (400 : Int) < (old.length : Int) by omega, hl1, hl2, hb_b4]
    refine (l08Ill_pc _ _).use ?_
    simp -implicitDefEqProofs only [go_sem, hl1, hl2, hb_b4]
    exact ⟨(Ext.refl _).set n_b4 _, _, rfl, by rw [if_pos (.inl h1)]; exact po_none⟩
  by_cases h2 : 400 < fresh.length
  · simp -implicitDefEqProofs only [go_sem, show ¬ ((400 : Int) < (old.length : Int)) by omega, show (400 : Int) < (fresh.length : Int) by omega, hl1, hl2, hb_b4]
    refine (l08Ill_pc _ _).use ?_
    simp -implicitDefEqProofs only [go_sem, hl1, hl2, hb_b4]
    exact ⟨(Ext.refl _).set n_b4 _, _, rfl, by rw [if_pos (.inr h2)]; exact po_none⟩
  rw [if_neg (by omega)]
  simp -implicitDefEqProofs only [go_sem, show ¬ ((400 : Int) < (old.length : Int)) by omega, show ¬ ((400 : Int) < (fresh.length : Int)) by omega, hl1, hl2, hb_b4]
  refine (specImageRight_pc (hv.ext E4) (by omega)).use ?_
  by_cases h3 : imageOk old
  rotate_left
  · simp -implicitDefEqProofs only [go_sem, decide_eq_false h3, hl1, hl2, hb_b4]
    refine (l08Ill_pc _ _).use ?_
    simp -implicitDefEqProofs only [go_sem, hl1, hl2, hb_b4]
    exact ⟨(Ext.refl _).set n_b4 _, _, rfl, by rw [if_pos (fun q => h3 q.1)]; exact po_none⟩
  simp -implicitDefEqProofs only [go_sem, decide_eq_true h3, hl1, hl2, hb_b4]
  refine (specImageRight_pc (hu.ext E4) (by omega)).use ?_
  by_cases h4 : imageOk fresh
  rotate_left
  · simp -implicitDefEqProofs only [go_sem, decide_eq_false h4, hl1, hl2, hb_b4]
    refine (l08Ill_pc _ _).use ?_
    simp -implicitDefEqProofs only [go_sem, hl1, hl2, hb_b4]
    exact ⟨(Ext.refl _).set n_b4 _, _, rfl, by rw [if_pos (fun q => h4 q.2.1)]; exact po_none⟩
  simp -implicitDefEqProofs only [go_sem, decide_eq_true h4, hl1, hl2, hb_b4]
  by_cases h5 : old.length = fresh.length
  rotate_left
  · simp -implicitDefEqProofs only [go_sem, show ¬ ((old.length : Int) = (fresh.length : Int)) by omega, hl1, hl2, hb_b4]
    refine (l08Ill_pc _ _).use ?_
    simp -implicitDefEqProofs only [go_sem, hl1, hl2, hb_b4]
    exact ⟨(Ext.refl _).set n_b4 _, _, rfl, by rw [if_pos (fun q => h5 q.2.2)]; exact po_none⟩
  rw [if_neg (fun q => q ⟨h3, h4, h5⟩)]
  generalize hH : h.set b4 ⟨[i64 0, str [], nils, i64 0], 4⟩ = hh at *
  have i1 := h3.1
  simp -implicitDefEqProofs only [go_sem, show ((old.length : Int) = (fresh.length : Int)) by omega, hl1, hl2, hb_b4]
  refine AC_of (specStepsFor_ac (hv.ext E4) (hu.ext E4) h3 h4 h5) ?_
  rintro vr y1 - ⟨o1, e1⟩
  obtain ⟨aw, cw, rfl⟩ := o1.shape
  have hsl := stepsTo_len old fresh old.length
  have hsw : ((stepsTo old fresh old.length).map UStep.cells).length = (stepsTo old fresh old.length).length := by simp
  rw [hsw] at o1
  simp -implicitDefEqProofs only [go_sem, hsw, hl1, hl2, hb_b4]
  intro bx hbx nx
  simp -implicitDefEqProofs only [go_sem, hsw, hl1, hl2, hb_b4]
  refine appW_own (new := [labS.cells]) (e1.set nx _) (o1.ext ((Ext.refl _).set nx _)) rfl (by intro r hr; simp at hr; subst hr; rfl) rfl (by rw [hsw]; simp; omega) ?_
  intro v9 h9 e9 o9 k9
  have hps : (stepsTo old fresh old.length).map UStep.cells ++ [labS.cells] = (pkgSteps old fresh).map UStep.cells := by rw [pkgSteps, List.map_append]; rfl
  rw [hps] at o9
  have G9 : h9.get b4 = some ⟨[i64 0, str [], nils, i64 0], 4⟩ := by
    refine k9 b4 _ ?_ fun b k' m' e => ?_
    · rw [H.set_get_ne _ _ _ _ (fun e => by subst e; rw [e1.2.g _ _ G4] at nx; cases nx)]; exact e1.2.g _ _ G4
    · rintro rfl
      have := (o1.ob_new (b := b4) (by rw [e]; rfl)).1
      rw [G4] at this; cases this
  have B9 : h9.base ≤ b4 := by rw [e9.1]; exact B4
  obtain ⟨a9, c9, rfl⟩ := o9.shape
  simp -implicitDefEqProofs only [go_sem, hl1, hl2, hb_b4]
  refine (specImageDigest_pc ((hu.ext E4).ext e9) h4).use ?_
  simp -implicitDefEqProofs only [go_sem, stc_get G9, B9, hl1, hl2, hb_b4]
  exact ⟨(E4.trans e9).set' n_b4 _, _, rfl, po_f.2 ⟨_, rfl, (o9.fre.set G4 _).back E4⟩⟩
set_option maxHeartbeats 3200000 in
theorem specPackageOfO_ac {h : H} {v u : Value} {old fresh : List (List UInt8)} (hv : Sl h v 1 (strs old)) (hu : Sl h u 1 (strs fresh)) (hn : old.length ≤ 1048576) (hm : fresh.length ≤ 1048576) : AC Tryz.prog 14 [v, u] h fun r h' => Ext h h' ∧ ∃ v, r = .agg #[i64 (packageOut old fresh).1.blocks, str (packageOut old fresh).1.digest, v, i64 (packageOut old fresh).2] ∧ Own h h' v 4 ((packageOut old fresh).1.steps.map UStep.cells) := by
  obtain ⟨a, c, rfl⟩ := hv.shape
  obtain ⟨a2, c2, rfl⟩ := hu.shape
  have hl1 : (strs old).length = old.length := by simp
  have hl2 : (strs fresh).length = fresh.length := by simp
  rw [hl1] at hv
  rw [hl2] at hu
  unfold packageOut
  skip
  refine w_spec_PackageOf (by simp) ?_
  unfold b_spec_PackageOf
  simp -implicitDefEqProofs only [go_sem, hl1, hl2]
  intro b4 hb_b4 n_b4
  simp -implicitDefEqProofs only [go_sem, hl1, hl2, hb_b4]
  have E4 := (Ext.refl h).set n_b4 ⟨[i64 0, str [], nils, i64 0], 4⟩
  have G4 : (h.set b4 ⟨[i64 0, str [], nils, i64 0], 4⟩).get b4 = some ⟨[i64 0, str [], nils, i64 0], 4⟩ := H.set_get_same _ _ _
  have B4 : (h.set b4 ⟨[i64 0, str [], nils, i64 0], 4⟩).base ≤ b4 := by rw [H.set_base]; exact hb_b4
  by_cases h1 : 400 < old.length
  · simp -implicitDefEqProofs only [go_sem, show (400 : Int) < (old.length : Int) by omega, hl1, hl2, hb_b4]
    refine (l08Ill_pc _ _).use ?_
    simp -implicitDefEqProofs only [go_sem, hl1, hl2, hb_b4]
    rw [if_pos (.inl h1)]; exact ⟨(Ext.refl _).set n_b4 _, _, rfl, .inl ⟨rfl, rfl⟩⟩
  by_cases h2 : 400 < fresh.length
  · simp -implicitDefEqProofs only [go_sem, show ¬ ((400 : Int) < (old.length : Int)) by omega, show (400 : Int) < (fresh.length : Int) by omega, hl1, hl2, hb_b4]
    refine (l08Ill_pc _ _).use ?_
    simp -implicitDefEqProofs only [go_sem, hl1, hl2, hb_b4]
    rw [if_pos (.inr h2)]; exact ⟨(Ext.refl _).set n_b4 _, _, rfl, .inl ⟨rfl, rfl⟩⟩
  rw [if_neg (by omega)]
  simp -implicitDefEqProofs only [go_sem, show ¬ ((400 : Int) < (old.length : Int)) by omega, show ¬ ((400 : Int) < (fresh.length : Int)) by omega, hl1, hl2, hb_b4]
  refine (specImageRight_pc (hv.ext E4) (by omega)).use ?_
  by_cases h3 : imageOk old
  rotate_left
  · simp -implicitDefEqProofs only [go_sem, decide_eq_false h3, hl1, hl2, hb_b4]
    refine (l08Ill_pc _ _).use ?_
    simp -implicitDefEqProofs only [go_sem, hl1, hl2, hb_b4]
    rw [if_pos (fun q => h3 q.1)]; exact ⟨(Ext.refl _).set n_b4 _, _, rfl, .inl ⟨rfl, rfl⟩⟩
  simp -implicitDefEqProofs only [go_sem, decide_eq_true h3, hl1, hl2, hb_b4]
  refine (specImageRight_pc (hu.ext E4) (by omega)).use ?_
  by_cases h4 : imageOk fresh
  rotate_left
  · simp -implicitDefEqProofs only [go_sem, decide_eq_false h4, hl1, hl2, hb_b4]
    refine (l08Ill_pc _ _).use ?_
    simp -implicitDefEqProofs only [go_sem, hl1, hl2, hb_b4]
    rw [if_pos (fun q => h4 q.2.1)]; exact ⟨(Ext.refl _).set n_b4 _, _, rfl, .inl ⟨rfl, rfl⟩⟩
  simp -implicitDefEqProofs only [go_sem, decide_eq_true h4, hl1, hl2, hb_b4]
  by_cases h5 : old.length = fresh.length
  rotate_left
  · simp -implicitDefEqProofs only [go_sem, show ¬ ((old.length : Int) = (fresh.length : Int)) by omega, hl1, hl2, hb_b4]
    refine (l08Ill_pc _ _).use ?_
    simp -implicitDefEqProofs only [go_sem, hl1, hl2, hb_b4]
    rw [if_pos (fun q => h5 q.2.2)]; exact ⟨(Ext.refl _).set n_b4 _, _, rfl, .inl ⟨rfl, rfl⟩⟩
  rw [if_neg (fun q => q ⟨h3, h4, h5⟩)]
  generalize hH : h.set b4 ⟨[i64 0, str [], nils, i64 0], 4⟩ = hh at *
  have i1 := h3.1
  simp -implicitDefEqProofs only [go_sem, show ((old.length : Int) = (fresh.length : Int)) by omega, hl1, hl2, hb_b4]
  refine AC_of (specStepsFor_ac (hv.ext E4) (hu.ext E4) h3 h4 h5) ?_
  rintro vr y1 - ⟨o1, e1⟩
  obtain ⟨aw, cw, rfl⟩ := o1.shape
  have hsl := stepsTo_len old fresh old.length
  have hsw : ((stepsTo old fresh old.length).map UStep.cells).length = (stepsTo old fresh old.length).length := by simp
  rw [hsw] at o1
  simp -implicitDefEqProofs only [go_sem, hsw, hl1, hl2, hb_b4]
  intro bx hbx nx
  simp -implicitDefEqProofs only [go_sem, hsw, hl1, hl2, hb_b4]
  refine appW_own (new := [labS.cells]) (e1.set nx _) (o1.ext ((Ext.refl _).set nx _)) rfl (by intro r hr; simp at hr; subst hr; rfl) rfl (by rw [hsw]; simp; omega) ?_
  intro v9 h9 e9 o9 k9
  have hps : (stepsTo old fresh old.length).map UStep.cells ++ [labS.cells] = (pkgSteps old fresh).map UStep.cells := by rw [pkgSteps, List.map_append]; rfl
  rw [hps] at o9
  have G9 : h9.get b4 = some ⟨[i64 0, str [], nils, i64 0], 4⟩ := by
    refine k9 b4 _ ?_ fun b k' m' e => ?_
    · rw [H.set_get_ne _ _ _ _ (fun e => by subst e; rw [e1.2.g _ _ G4] at nx; cases nx)]; exact e1.2.g _ _ G4
    · rintro rfl
      have := (o1.ob_new (b := b4) (by rw [e]; rfl)).1
      rw [G4] at this; cases this
  have B9 : h9.base ≤ b4 := by rw [e9.1]; exact B4
  obtain ⟨a9, c9, rfl⟩ := o9.shape
  simp -implicitDefEqProofs only [go_sem, hl1, hl2, hb_b4]
  refine (specImageDigest_pc ((hu.ext E4).ext e9) h4).use ?_
  simp -implicitDefEqProofs only [go_sem, stc_get G9, B9, hl1, hl2, hb_b4]
  exact ⟨(E4.trans e9).set' n_b4 _, _, rfl, (o9.set0 (by rw [G4]; simp) _).back E4⟩
end Go.Proofs.YthjbhdmjfakfaaaGreatDoor
