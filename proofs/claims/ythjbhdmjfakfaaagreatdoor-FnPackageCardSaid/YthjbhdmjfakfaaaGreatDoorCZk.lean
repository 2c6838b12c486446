/- A helper of this seat's claims (contracts of the functions): what it shows is shown for every input that its statements name, on no other condition. -/
import Derived.Test.YthjbhdmjfakfaaaGreatDoorCZj
import Derived.Test.YthjbhdmjfakfaaaGreatDoorC08s
import Derived.Test.YthjbhdmjfakfaaaGreatDoorC13b
set_option linter.unusedVariables false
set_option linter.unusedSimpArgs false
set_option maxRecDepth 100000
namespace Go.Proofs.YthjbhdmjfakfaaaGreatDoor
open Go.KH

/-! ## What the law of packages draws -/
theorem PkgDrawn.back {h h1 h3 : H} {p : UPkg} {T : List (List UInt8)} {vs vo : Value} (P : PkgDrawn h1 h3 p T vs vo) (e : ∀ b, h1.get b = none → h.get b = none) : PkgDrawn h h3 p T vs vo :=
  ⟨P.blocks, P.digest, P.steps, P.few, ownBN P.own e, ownBN P.old e, P.img⟩
theorem PkgDrawn.set {h h3 : H} {p : UPkg} {T : List (List UInt8)} {vs vo : Value} (P : PkgDrawn h h3 p T vs vo) {c : Nat} (h1 : ob vs ≠ some c) (h2 : ob vo ≠ some c) (y : Ob) : PkgDrawn h (h3.set c y) p T vs vo :=
  ⟨P.blocks, P.digest, P.steps, P.few, P.own.setOb h1 y, P.old.setOb h2 y, P.img⟩
theorem PkgDrawn.ext {h h3 h4 : H} {p : UPkg} {T : List (List UInt8)} {vs vo : Value} (P : PkgDrawn h h3 p T vs vo) (e : Ext h3 h4) : PkgDrawn h h4 p T vs vo :=
  ⟨P.blocks, P.digest, P.steps, P.few, P.own.ext e, P.old.ext e, P.img⟩
theorem ob_of_none {h0 h : H} {v : Value} {w : Nat} {rows : List (List Value)} (o : Own h0 h v w rows) {b : Nat} (hb : h.get b = none) : ob v ≠ some b := fun e => by obtain ⟨_, _, z, hg⟩ := o.ob_new e; rw [hb] at hg; cases hg
/-- The source, and the package drawn of it. -/
theorem pkg_of {hA h1 h3 : H} {v : Value} {l : List UInt8} {b : Nat} (e1 : Ext hA h1) (nb : hA.get b = none) (D : Drew v l b h1 h3) : Ext hA h3 := Keep.ext e1 D.1 (fun c e => by subst e; exact nb)
/-- spec.DrawPackageRight -/
def b_spec_DrawPackageRight : C := (.seq (.ops [⟨(some 2), none, .alloc [(i64 0), (str []), nils]⟩])
 (.seq (.ops [q 6 (.mv (.t 0)), ⟨(some 7), none, .call (.c (.func (.func 41) #[] #[])) [(.t 6)]⟩, ⟨(some 8), none, .call (.c (.func (.func 42) #[] #[])) [(.t 7)]⟩, q 5 (.mv (.t 8)), q 9 (.ext 0 (.t 5)), q 10 (.ext 1 (.t 5)), ⟨(some 3), none, .alloc [(i64 0), (str []), nils]⟩, ⟨none, none, .st 3 (.t 3) (.t 9)⟩, q 4 (.mv (.t 10))])
 (.seq (.ops [q 11 (.ld true 3 (.t 3)), ⟨none, none, .st 3 (.t 2) (.t 11)⟩])
 .ret)))
theorem w_spec_DrawPackageRight {args : List Value} {h : H} {Q : Value → H → Prop} (hl : args.length ≤ 12) (hk : wpc Tryz.prog b_spec_DrawPackageRight (retw [.cell 2 true 3] Q) (argsFr args) h) : AC Tryz.prog 38 args h Q :=
  AC.of_wpc mixedOrders Tryz.func38 (by kernel_rfl) (by kernel_rfl : prepF Tryz.prog Tryz.f38 = some ⟨12, [.cell 2 true 3], b_spec_DrawPackageRight⟩) hl hk

/-- spec.DrawPackageBytes -/
def b_spec_DrawPackageBytes : C := (.seq (.ops [⟨(some 2), none, .alloc [(i64 0), (str []), nils]⟩])
 (.seq (.ops [q 3 (.mv (.t 0)), ⟨(some 4), none, .call (.c (.func (.func 38) #[] #[])) [(.t 3)]⟩, ⟨none, none, .st 3 (.t 2) (.t 4)⟩])
 .ret))
theorem w_spec_DrawPackageBytes {args : List Value} {h : H} {Q : Value → H → Prop} (hl : args.length ≤ 5) (hk : wpc Tryz.prog b_spec_DrawPackageBytes (retw [.cell 2 true 3] Q) (argsFr args) h) : AC Tryz.prog 8 args h Q :=
  AC.of_wpc mixedOrders Tryz.func8 (by kernel_rfl) (by kernel_rfl : prepF Tryz.prog Tryz.f8 = some ⟨5, [.cell 2 true 3], b_spec_DrawPackageBytes⟩) hl hk

theorem drawPackageRight_ac {h : H} {v : Value} {l : List UInt8} (hv : Sl h v 1 (bys l)) (hn : l.length ≤ 1048576) : AC Tryz.prog 38 [v] h fun r h' => Ext h h' ∧ ∃ (p : UPkg) (T : List (List UInt8)) (vs vo : Value), r = .agg (p.cells vs).toArray ∧ PkgDrawn h h' p T vs vo := by
  refine w_spec_DrawPackageRight (by simp) ?_
  unfold b_spec_DrawPackageRight
  simp -implicitDefEqProofs only [go_sem]
  intro b2 hb2 n2
  have e2 := (Ext.refl h).set n2 ⟨[i64 0, str [], nils], 3⟩
  have g2 : (h.set b2 ⟨[i64 0, str [], nils], 3⟩).get b2 = some ⟨[i64 0, str [], nils], 3⟩ := H.set_get_same _ _ _
  have b2b : (h.set b2 ⟨[i64 0, str [], nils], 3⟩).base ≤ b2 := by rw [H.set_base]; exact hb2
  generalize h.set b2 ⟨[i64 0, str [], nils], 3⟩ = hA at *
  simp -implicitDefEqProofs only [go_sem]
  refine AC_of (source_ac (hv.ext e2) hn) ?_
  rintro _ h1 - ⟨b, rfl, nb, e1, s1⟩
  simp -implicitDefEqProofs only [go_sem]
  refine AC_of (src_package s1) ?_
  rintro _ h3 - ⟨⟨p, T, vs, vo, rfl, P⟩, D⟩
  have e3 : Ext hA h3 := pkg_of e1 nb D
  have v1 := P.own.sl.one
  have v2 := P.own.sl.vcl
  have g23 := e3.2.g b2 _ g2
  have b23 : h3.base ≤ b2 := by rw [e3.1]; exact b2b
  have g21 := e1.2.g b2 _ g2
  simp -implicitDefEqProofs only [go_sem, v1, v2]
  intro b4 hb4 n4
  have z24 : (b2 = b4) = False := eq_false fun e => by subst e; rw [g23] at n4; cases n4
  simp -implicitDefEqProofs only [go_sem, hb4, v1, v2, z24, ldc_get g23, stc_get g23, b23]
  have Q := (P.back (h := h) (fun c hc => e2.none (e1.none hc)))
  exact ⟨((e2.trans e3).set' n2 _).set' ((e2.trans e3).none n4) _, p, T, vs, vo, rfl, (Q.set (ob_of_new P.own (by rw [g21]; simp)) (ob_of_new P.old (by rw [g21]; simp)) _).set (ob_of_none P.own n4) (ob_of_none P.old n4) _⟩
theorem drawPackageBytes_ac {h : H} {v : Value} {l : List UInt8} (hv : Sl h v 1 (bys l)) (hn : l.length ≤ 1048576) : AC Tryz.prog 8 [v] h fun r h' => Ext h h' ∧ ∃ (p : UPkg) (T : List (List UInt8)) (vs vo : Value), r = .agg (p.cells vs).toArray ∧ PkgDrawn h h' p T vs vo := by
  refine w_spec_DrawPackageBytes (by simp) ?_
  unfold b_spec_DrawPackageBytes
  simp -implicitDefEqProofs only [go_sem]
  intro b2 hb2 n2
  have e2 := (Ext.refl h).set n2 ⟨[i64 0, str [], nils], 3⟩
  have g2 : (h.set b2 ⟨[i64 0, str [], nils], 3⟩).get b2 = some ⟨[i64 0, str [], nils], 3⟩ := H.set_get_same _ _ _
  have b2b : (h.set b2 ⟨[i64 0, str [], nils], 3⟩).base ≤ b2 := by rw [H.set_base]; exact hb2
  generalize h.set b2 ⟨[i64 0, str [], nils], 3⟩ = hA at *
  simp -implicitDefEqProofs only [go_sem]
  refine AC_of (drawPackageRight_ac (hv.ext e2) hn) ?_
  rintro _ h3 - ⟨e3, p, T, vs, vo, rfl, P⟩
  have v1 := P.own.sl.one
  have v2 := P.own.sl.vcl
  have g23 := e3.2.g b2 _ g2
  have b23 : h3.base ≤ b2 := by rw [e3.1]; exact b2b
  simp -implicitDefEqProofs only [go_sem, v1, v2, ldc_get g23, stc_get g23, b23]
  exact ⟨(e2.trans e3).set' n2 _, p, T, vs, vo, rfl, (P.back (fun c hc => e2.none hc)).set (ob_of_new P.own (by rw [g2]; simp)) (ob_of_new P.old (by rw [g2]; simp)) _⟩
/-- spec.DrawPackageFits -/
def b_spec_DrawPackageFits : C := (.seq (.ops [⟨(some 2), none, .alloc [(i64 0), (str []), nils]⟩, q 3 (.mv (.c nils))])
 (.seq (.ops [q 7 (.mv (.t 0)), ⟨(some 8), none, .call (.c (.func (.func 41) #[] #[])) [(.t 7)]⟩, q 4 (.mv (.t 8))])
 (.seq (.ops [q 10 (.mv (.t 4)), ⟨(some 11), none, .call (.c (.func (.func 42) #[] #[])) [(.t 10)]⟩, q 9 (.mv (.t 11)), q 12 (.ext 0 (.t 9)), q 13 (.ext 1 (.t 9)), ⟨(some 5), none, .alloc [(i64 0), (str []), nils]⟩, ⟨none, none, .st 3 (.t 5) (.t 12)⟩, q 6 (.mv (.t 13))])
 (.seq (.seq (.ops [q 14 (.mv (.t 4)), ⟨(some 15), none, .call (.c (.func (.func 48) #[] #[])) [(.t 14), (.c (i64 8))]⟩])
 (.cond (.t 15) (.seq (.dopx (.tk (q 16 (.ld true 3 (.t 5))) (.tk (q 17 (.mv (.t 4))) (.sq (⟨(some 18), none, .call (.c (.func (.func 49) #[] #[])) [(.t 17)]⟩) (.lt (⟨none, none, .st 3 (.t 2) (.t 16)⟩) (.tk (q 3 (.mv (.t 18))) .nil))))))
 .ret) .skip))
 (.seq (.ops [q 19 (.ld true 3 (.t 5)), q 20 (.mv (.t 6)), ⟨none, none, .st 3 (.t 2) (.t 19)⟩, q 3 (.mv (.t 20))])
 .ret)))))
theorem w_spec_DrawPackageFits {args : List Value} {h : H} {Q : Value → H → Prop} (hl : args.length ≤ 21) (hk : wpc Tryz.prog b_spec_DrawPackageFits (retw [.cell 2 true 3, .tmp 3] Q) (argsFr args) h) : AC Tryz.prog 12 args h Q :=
  AC.of_wpcx mixedOrders Tryz.func12 (by kernel_rfl) (by kernel_rfl : prepFx Tryz.prog Tryz.f12 = some ⟨21, [.cell 2 true 3, .tmp 3], b_spec_DrawPackageFits⟩) hl hk

theorem drawPackageFits_ac {h : H} {v : Value} {l : List UInt8} (hv : Sl h v 1 (bys l)) (hn : l.length ≤ 1048576) : AC Tryz.prog 12 [v] h fun r h' => Ext h h' ∧ ∃ (p : UPkg) (T : List (List UInt8)) (vs vo : Value), r = .tuple #[.agg (p.cells vs).toArray, vo] ∧ (0 ≤ p.blocks ∧ p.blocks ≤ 100) ∧ p.digest.length ≤ 40 ∧ (∀ s ∈ p.steps, okd s) ∧ p.steps.length ≤ 30 ∧ Sl h' vs 4 (p.steps.map UStep.cells) ∧ T.length ≤ 10 ∧ (∀ t ∈ T, t.length ≤ 9) ∧ Sl h' vo 1 (strs T) := by
  refine w_spec_DrawPackageFits (by simp) ?_
  unfold b_spec_DrawPackageFits
  simp -implicitDefEqProofs only [go_sem]
  intro b2 hb2 n2
  have e2 := (Ext.refl h).set n2 ⟨[i64 0, str [], nils], 3⟩
  have g2 : (h.set b2 ⟨[i64 0, str [], nils], 3⟩).get b2 = some ⟨[i64 0, str [], nils], 3⟩ := H.set_get_same _ _ _
  have b2b : (h.set b2 ⟨[i64 0, str [], nils], 3⟩).base ≤ b2 := by rw [H.set_base]; exact hb2
  generalize h.set b2 ⟨[i64 0, str [], nils], 3⟩ = hA at *
  simp -implicitDefEqProofs only [go_sem]
  refine AC_of (source_ac (hv.ext e2) hn) ?_
  rintro _ h1 - ⟨b, rfl, nb, e1, s1⟩
  simp -implicitDefEqProofs only [go_sem]
  refine AC_of (src_package s1) ?_
  rintro _ h3 - ⟨⟨p, T, vs, vo, rfl, P⟩, D⟩
  have e3 : Ext hA h3 := pkg_of e1 nb D
  have v1 := P.own.sl.one
  have v2 := P.own.sl.vcl
  have g23 := e3.2.g b2 _ g2
  have b23 : h3.base ≤ b2 := by rw [e3.1]; exact b2b
  have g21 := e1.2.g b2 _ g2
  simp -implicitDefEqProofs only [go_sem, v1, v2]
  intro b5 hb5 n5
  have z25 : (b2 = b5) = False := eq_false fun e => by subst e; rw [g23] at n5; cases n5
  simp -implicitDefEqProofs only [go_sem, hb5, v1, v2]
  have D5 := D.ext ((Ext.refl h3).set n5 ⟨p.cells vs, 3⟩)
  have P5 := P.set (ob_of_none P.own n5) (ob_of_none P.old n5) ⟨p.cells vs, 3⟩
  have g5 : (h3.set b5 ⟨p.cells vs, 3⟩).get b5 = some ⟨p.cells vs, 3⟩ := H.set_get_same _ _ _
  have g25 : (h3.set b5 ⟨p.cells vs, 3⟩).get b2 = _ := (H.set_get_ne _ _ _ _ (of_eq_false z25)).trans g23
  have b25 : (h3.set b5 ⟨p.cells vs, 3⟩).base ≤ b2 := by rw [H.set_base]; exact b23
  have E5 := e3.set n5 ⟨p.cells vs, 3⟩
  have q5 : b5 ≠ b := fun e => by subst e; exact D.2.known n5
  have q2 : b2 ≠ b := fun e => by subst e; rw [g2] at nb; cases nb
  generalize h3.set b5 ⟨p.cells vs, 3⟩ = h5 at *
  refine AC_of (src_one D5.2 (by omega)) ?_
  rintro _ h6 - ⟨⟨t, rfl⟩, d6⟩
  have hS : ∀ x, x = b → h1.get x ≠ none := fun x e => by subst e; exact s1.known
  have D6 := D5.trans d6
  have g26 := d6.1.2.1 b2 _ q2 g25
  have g56 := d6.1.2.1 b5 _ q5 g5
  have b26 : h6.base ≤ b2 := by rw [d6.1.1]; exact b25
  have E6 : Ext hA h6 := pkg_of e1 nb D6
  have o6 := P5.own.keepS d6.1 hS
  have oo6 := P5.old.keepS d6.1 hS
  have m2 : ob vs ≠ some b2 := ob_of_new P.own (by rw [g21]; simp)
  have k2 : ob vo ≠ some b2 := ob_of_new P.old (by rw [g21]; simp)
  cases t
  · simp -implicitDefEqProofs only [go_sem, v1, v2, ldc_get g26, stc_get g26, b26, ldc_get g56]
    exact ⟨(e2.trans E6).set' n2 _, p, T, vs, vo, rfl, P.blocks, P.digest, P.steps, P.few, (o6.setOb m2 _).sl, by have := P.img.1; omega, fun t ht => by have := P.img.2 t ht; omega, (oo6.setOb k2 _).sl⟩
  · simp -implicitDefEqProofs only [go_sem, v1, v2, ldc_get g26, stc_get g26, b26]
    refine dopX_of (but h6 b) (but_sub h6 b) ?_
    have B5 : (but h6 b).get b5 = some ⟨p.cells vs, 3⟩ := by rw [but_get q5]; exact g56
    simp -implicitDefEqProofs only [go_sem, ldc_get B5, v1, v2]
    refine AC_of (src_oddImage D6.2) ?_
    rintro vt h7 - ⟨⟨T2, hT2, hT3, f7⟩, d7⟩
    refine ⟨but_keep d7.1, ?_⟩
    have D7 := D6.trans d7
    have E7 : Ext hA h7 := pkg_of e1 nb D7
    have g27 := d7.1.2.1 b2 _ q2 g26
    have b27 : h7.base ≤ b2 := by rw [d7.1.1]; exact b26
    have o7 := o6.keepS d7.1 hS
    simp -implicitDefEqProofs only [go_sem, v1, v2, ldc_get g27, stc_get g27, b27]
    exact ⟨(e2.trans E7).set' n2 _, p, T2, vs, vt, rfl, P.blocks, P.digest, P.steps, P.few, (o7.setOb m2 _).sl, hT3, hT2, (Fre.setNe f7 (fun e => by have := f7.new b2 e; rw [g26] at this; cases this) _).sl⟩
theorem drawn_ok {p : UPkg} (h1 : 0 ≤ p.blocks ∧ p.blocks ≤ 100) (h2 : p.digest.length ≤ 40) (h3 : ∀ s ∈ p.steps, okd s) (h4 : p.steps.length ≤ 30) : p.ok := by
  have e := show maxLen = 9223372036854775807 from rfl
  exact ⟨in64_small (by omega), by omega, by omega, fun s hs => (h3 s hs).1⟩
theorem pkgBytes_le {p : UPkg} (hok : p.ok) : (pkgBytes p).length ≤ 1600 := by
  unfold pkgBytes
  split
  · rename_i q
    have := pkgI_le q hok p.steps.length (Nat.le_refl _)
    have h20 := (pkgOk_steps q).1
    unfold pkgB
    rw [sealB_len]; omega
  · simp
theorem unsealB_le (t : List UInt8) : (unsealB t).1.length ≤ t.length := by
  unfold unsealB
  repeat' split
  all_goals simp
/-- spec.DrawPackageRead -/
def b_spec_DrawPackageRead : C := (.seq (.ops [q 2 (.mv (.c (str [])))])
 (.seq (.ops [q 7 (.mv (.t 0)), ⟨(some 8), none, .call (.c (.func (.func 41) #[] #[])) [(.t 7)]⟩, q 3 (.mv (.t 8))])
 (.seq (.ops [q 10 (.mv (.t 3)), ⟨(some 11), none, .call (.c (.func (.func 42) #[] #[])) [(.t 10)]⟩, q 9 (.mv (.t 11)), q 12 (.ext 0 (.t 9)), q 13 (.ext 1 (.t 9)), ⟨(some 4), none, .alloc [(i64 0), (str []), nils]⟩, ⟨none, none, .st 3 (.t 4) (.t 12)⟩, q 5 (.mv (.t 13))])
 (.seq (.ops [q 14 (.ld true 3 (.t 4)), ⟨(some 15), none, .call (.c (.func (.func 15) #[] #[])) [(.t 14)]⟩, q 6 (.mv (.t 15))])
 (.seq (.seq (.ops [q 16 (.mv (.t 3)), ⟨(some 17), none, .call (.c (.func (.func 43) #[] #[])) [(.t 16), (.c (i64 5))]⟩])
 (.block 0 (.seq (.ops [q 19 (.bin .eql (.t 17) (.c (i64 0))), q 18 (.mv (.t 19))])
 (.cond (.t 18) (.ops [q 20 (.mv (.t 3)), q 21 (.mv (.t 6)), ⟨(some 22), none, .call (.c (.func (.func 44) #[] #[])) [(.t 20), (.t 21)]⟩, q 6 (.mv (.t 22))]) (.seq (.ops [q 24 (.bin .eql (.t 17) (.c (i64 1))), q 23 (.mv (.t 24))])
 (.cond (.t 23) (.ops [q 25 (.mv (.t 6)), q 26 (.mv (.t 3)), q 27 (.mv (.t 6)), q 28 (.slen (.t 27)), q 29 (.bin .add (.t 28) (.c (i64 1))), ⟨(some 30), none, .call (.c (.func (.func 43) #[] #[])) [(.t 26), (.t 29)]⟩, q 31 (.ssl (.t 25) none (some (.t 30))), q 6 (.mv (.t 31))]) (.seq (.ops [q 33 (.bin .eql (.t 17) (.c (i64 2))), q 32 (.mv (.t 33))])
 (.cond (.t 32) (.ops [q 34 (.mv (.t 3)), q 35 (.mv (.t 6)), ⟨(some 36), none, .call (.c (.func (.func 46) #[] #[])) [(.t 35)]⟩, q 37 (.part false 0 1 (.t 36)), ⟨(some 38), none, .call (.c (.func (.func 44) #[] #[])) [(.t 34), (.t 37)]⟩, ⟨(some 39), none, .call (.c (.func (.func 45) #[] #[])) [(.t 38)]⟩, q 6 (.mv (.t 39))]) .skip))))))))
 (.seq (.ops [q 40 (.mv (.t 6)), q 2 (.mv (.t 40))])
 .ret))))))
theorem w_spec_DrawPackageRead {args : List Value} {h : H} {Q : Value → H → Prop} (hl : args.length ≤ 41) (hk : wpc Tryz.prog b_spec_DrawPackageRead (retw [.tmp 2] Q) (argsFr args) h) : AC Tryz.prog 10 args h Q :=
  AC.of_wpc mixedOrders Tryz.func10 (by kernel_rfl) (by kernel_rfl : prepF Tryz.prog Tryz.f10 = some ⟨41, [.tmp 2], b_spec_DrawPackageRead⟩) hl hk

theorem drawPackageRead_ac {h : H} {v : Value} {l : List UInt8} (hv : Sl h v 1 (bys l)) (hn : l.length ≤ 1048576) : AC Tryz.prog 10 [v] h fun r h' => Ext h h' ∧ ∃ t : List UInt8, t.length ≤ 2000 ∧ r = str t := by
  refine w_spec_DrawPackageRead (by simp) ?_
  unfold b_spec_DrawPackageRead
  simp -implicitDefEqProofs only [go_sem]
  refine AC_of (source_ac hv hn) ?_
  rintro _ h1 - ⟨b, rfl, nb, e1, s1⟩
  simp -implicitDefEqProofs only [go_sem]
  refine AC_of (src_package s1) ?_
  rintro _ h3 - ⟨⟨p, T, vs, vo, rfl, P⟩, D⟩
  have e3 : Ext h h3 := pkg_of e1 nb D
  have v1 := P.own.sl.one
  have v2 := P.own.sl.vcl
  simp -implicitDefEqProofs only [go_sem, v1, v2]
  intro b4 hb4 n4
  simp -implicitDefEqProofs only [go_sem, hb4, v1, v2]
  have X := (Ext.refl h3).set n4 ⟨p.cells vs, 3⟩
  have D4 := D.ext X
  have hok := drawn_ok P.blocks P.digest P.steps P.few
  have P4 := P.ext X
  generalize h3.set b4 ⟨p.cells vs, 3⟩ = h4 at *
  refine (specPackageBytes_pc (cs := p.cells vs) (pkg_r.2 ⟨vs, rfl, P4.own.sl⟩) (by have := P.few; omega) hok).use ?_
  have hlen := pkgBytes_le hok
  generalize pkgBytes p = t at *
  simp -implicitDefEqProofs only [go_sem]
  refine AC_of (src_n D4.2 (by omega)) ?_
  rintro _ h5 - ⟨⟨n, rfl, j0, j1, -⟩, d5⟩
  have D5 := D4.trans d5
  have E5 := pkg_of e1 nb D5
  have hn5 := j1 (by omega)
  by_cases c0 : n = 0
  · subst c0
    simp -implicitDefEqProofs only [go_sem]
    refine AC_of (src_spoil D5.2 (by omega)) ?_
    rintro _ h6 - ⟨⟨s, hs, rfl⟩, d6⟩
    simp -implicitDefEqProofs only [go_sem]
    exact ⟨pkg_of e1 nb (D5.trans d6), s, by omega, rfl⟩
  by_cases c1 : n = 1
  · subst c1
    have w1 : IntKind.i64.wrap ((t.length : Int) + 1) = ((t.length + 1 : Nat) : Int) := by rw [wrap_i64 (by omega) (by omega)]; omega
    skip
    simp -implicitDefEqProofs only [go_sem, w1]
    refine AC_of (src_n D5.2 (by omega)) ?_
    rintro _ h6 - ⟨⟨q, rfl, i0, i1, i2⟩, d6⟩
    have hq : q ≤ (t.length : Int) := by
      by_cases z : 1 < ((t.length + 1 : Nat) : Int)
      · have := i1 z; omega
      · have := i2 (by omega); omega
    simp -implicitDefEqProofs only [go_sem, i0, hq, w1]
    exact ⟨pkg_of e1 nb (D5.trans d6), _, by simp only [List.length_take]; omega, rfl⟩
  skip
  by_cases c2 : n = 2
  · subst c2
    simp -implicitDefEqProofs only [go_sem]
    refine (specUnseal_pc _ t (by omega)).use ?_
    rw [if_neg (by omega)]
    have hu := unsealB_le t
    simp -implicitDefEqProofs only [go_sem]
    refine AC_of (src_spoil D5.2 (t := (unsealB t).1) (by omega)) ?_
    rintro _ h6 - ⟨⟨s, hs, rfl⟩, d6⟩
    simp -implicitDefEqProofs only [go_sem]
    refine (specSeal_pc _ s (by omega)).use ?_
    simp -implicitDefEqProofs only [go_sem]
    exact ⟨pkg_of e1 nb (D5.trans d6), _, by rw [sealB_len]; omega, rfl⟩
  simp -implicitDefEqProofs only [go_sem, c0, c1, c2]
  exact ⟨E5, t, by omega, rfl⟩
/-- spec.DrawStepsFor -/
def b_spec_DrawStepsFor : C := (.seq (.ops [q 2 (.mv (.c nils)), q 3 (.mv (.c nils))])
 (.seq (.ops [q 8 (.mv (.t 0)), ⟨(some 9), none, .call (.c (.func (.func 41) #[] #[])) [(.t 8)]⟩, q 4 (.mv (.t 9))])
 (.seq (.ops [q 10 (.mv (.t 4)), ⟨(some 11), none, .call (.c (.func (.func 49) #[] #[])) [(.t 10)]⟩, q 5 (.mv (.t 11))])
 (.seq (.ops [⟨(some 12), none, .bsl 0 [] []⟩, q 13 (.mv (.t 5)), ⟨(some 14), none, .app 1 16 (.t 12) (.t 13)⟩, q 6 (.mv (.t 14))])
 (.seq (.seq (.ops [q 7 (.mv (.c (i64 0)))])
 (.block 0 (.loop (.seq (.seq (.ops [q 15 (.mv (.t 7)), q 16 (.mv (.t 6)), q 17 (.len (.t 16)), q 18 (.bin .lss (.t 15) (.t 17))])
 (.cond (.t 18) .skip (.exit 0)))
 (.seq (.block 1 (.seq (.ops [q 21 (.mv (.t 4)), ⟨(some 22), none, .call (.c (.func (.func 48) #[] #[])) [(.t 21), (.c (i64 2))]⟩])
 (.cond (.t 22) (.ops [q 23 (.mv (.t 6)), q 24 (.mv (.t 7)), q 25 (.mv (.t 4)), ⟨(some 26), none, .call (.c (.func (.func 83) #[] #[])) [(.t 25)]⟩, q 27 (.idx 1 (.t 23) (.t 24)), ⟨none, none, .st 1 (.t 27) (.t 26)⟩]) .skip)))
 (.ops [q 19 (.mv (.t 7)), q 20 (.bin .add (.t 19) (.c (i64 1))), q 7 (.mv (.t 20))]))))))
 (.seq (.seq (.ops [q 28 (.mv (.t 4)), ⟨(some 29), none, .call (.c (.func (.func 48) #[] #[])) [(.t 28), (.c (i64 12))]⟩])
 (.cond (.t 29) (.ops [q 30 (.mv (.t 4)), ⟨(some 31), none, .call (.c (.func (.func 49) #[] #[])) [(.t 30)]⟩, q 6 (.mv (.t 31))]) .skip))
 (.seq (.ops [q 32 (.mv (.t 5)), q 33 (.mv (.t 6)), q 2 (.mv (.t 32)), q 3 (.mv (.t 33))])
 .ret)))))))
theorem w_spec_DrawStepsFor {args : List Value} {h : H} {Q : Value → H → Prop} (hl : args.length ≤ 34) (hk : wpc Tryz.prog b_spec_DrawStepsFor (retw [.tmp 2, .tmp 3] Q) (argsFr args) h) : AC Tryz.prog 33 args h Q :=
  AC.of_wpc mixedOrders Tryz.func33 (by kernel_rfl) (by kernel_rfl : prepF Tryz.prog Tryz.f33 = some ⟨34, [.tmp 2, .tmp 3], b_spec_DrawStepsFor⟩) hl hk

theorem drawStepsFor_ac {h : H} {v : Value} {l : List UInt8} (hv : Sl h v 1 (bys l)) (hn : l.length ≤ 1048576) : AC Tryz.prog 33 [v] h fun r h' => Ext h h' ∧ ∃ (A B : List (List UInt8)) (va vb : Value), r = .tuple #[va, vb] ∧ (∀ t ∈ A, t.length ≤ 9) ∧ A.length ≤ 10 ∧ Sl h' va 1 (strs A) ∧ (∀ t ∈ B, t.length ≤ 9) ∧ B.length ≤ 10 ∧ Sl h' vb 1 (strs B) := by
  refine w_spec_DrawStepsFor (by simp) ?_
  unfold b_spec_DrawStepsFor
  simp -implicitDefEqProofs only [go_sem]
  refine AC_of (source_ac hv hn) ?_
  rintro _ h1 - ⟨b, rfl, nb, e1, s1⟩
  simp -implicitDefEqProofs only [go_sem]
  refine AC_of (src_oddImage s1) ?_
  rintro va h2 - ⟨⟨A, hA, hA10, fA⟩, d1⟩
  have hS : ∀ x, x = b → h1.get x ≠ none := fun x e => by subst e; exact s1.known
  have hlA : (strs A).length = A.length := by simp
  obtain ⟨aa, ca, rfl⟩ := fA.shape
  rw [hlA] at fA
  simp -implicitDefEqProofs only [go_sem, hlA]
  intro b12 hb12 n12
  have q12 : b12 ≠ b := fun e => by subst e; exact d1.2.known n12
  have hsrc := src0 n12 fA.sl (strs_wid _) (by decide)
  simp -implicitDefEqProofs only [go_sem, hsrc]
  refine app0 hb12 n12 (by rw [hlA]) (strs_wid _) (strs_one _) (by rw [hlA]; omega) ?_
  intro vb h3 e3 o3
  have D3 := d1.ext e3
  have hdj : ∀ x, blk (.slice aa A.length ca) = some x → ob vb ≠ some x := fun x e1 e2 => fA.known x e1 (o3.ob_new e2).1
  have oB := ownBN o3 d1.1.nones
  have fA3 := fA.ext e3
  obtain ⟨ab, cb, rfl⟩ := o3.shape
  rw [hlA] at oB hdj
  clear o3 hsrc
  simp -implicitDefEqProofs only [go_sem, hlA]
  refine loopW_of (fun m f h' => ∃ (k : Nat) (B : List (List UInt8)), m + k = A.length ∧ B.length = A.length ∧ (∀ t ∈ B, t.length ≤ 9) ∧ f 4 = ptr b 0 ∧ f 5 = .slice aa A.length ca ∧ f 6 = .slice ab A.length cb ∧ f 7 = i64 k ∧ Own h1 h' (.slice ab A.length cb) 1 (strs B) ∧ Fre h1 h' (.slice aa A.length ca) 1 (strs A) ∧ Drew v l b h1 h') A.length
    ⟨0, A, by simp, rfl, hA, by simp -implicitDefEqProofs only [go_sem], by simp -implicitDefEqProofs only [go_sem, hlA], by simp -implicitDefEqProofs only [go_sem, hlA], by simp -implicitDefEqProofs only [go_sem]; rfl, oB, fA3, D3⟩ ?_
  clear D3 oB fA3
  rintro m f h4 ⟨k, B, hm, hB, hB9, f4, f5, f6, f7, oB, fA4, D⟩
  skip
  have hlB : (strs B).length = A.length := by simp [hB]
  by_cases hk : k < A.length
  · simp -implicitDefEqProofs only [go_sem, hk, f4, f5, f6, f7, Int.ofNat_lt, Int.natCast_nonneg]
    refine AC_of (src_one D.2 (by omega)) ?_
    rintro _ h5 - ⟨⟨t, rfl⟩, d5⟩
    have D5 := D.trans d5
    have oB5 := oB.keepS d5.1 hS
    have fA5 := fA4.keep d5.1 (fun x hx e => by subst e; exact s1.known (fA4.new x hx))
    cases t
    · simp -implicitDefEqProofs only [go_sem, wrap_i64 (show -(9223372036854775808 : Int) ≤ ((k : Int) + 1) by omega) (show ((k : Int) + 1) < 9223372036854775808 by omega), f4, f5, f6, f7, Int.ofNat_lt, Int.natCast_nonneg]
      exact ⟨m - 1, by omega, _, Ext.refl _, k + 1, B, by omega, hB, hB9, rfl, oB5, fA5, D5⟩
    · simp -implicitDefEqProofs only [go_sem, f4, f5, f6, f7, Int.ofNat_lt, Int.natCast_nonneg]
      refine AC_of (src_data D5.2) ?_
      rintro _ h6 - ⟨⟨s, hs8, rfl⟩, d6⟩
      have D6 := D5.trans d6
      have oB6 := oB5.keepS d6.1 hS
      have fA6 := fA5.keep d6.1 (fun x hx e => by subst e; exact s1.known (fA5.new x hx))
      obtain ⟨b', c', z, hvb, hb', hn', hg', hst, oB7⟩ := own_put oB6 (k := k) (by rw [hlB]; exact hk) (r := [str s]) rfl rfl
      rw [hlB] at hvb
      rw [hvb] at f6 hdj oB7 ⊢
      have hset : (strs B).set k [str s] = strs (B.set k s) := by simp [List.map_set]
      rw [hset] at oB7 hst
      rw [Nat.mul_one] at hst
      simp -implicitDefEqProofs only [go_sem, hk, hb', Nat.mul_one, hst, wrap_i64 (show -(9223372036854775808 : Int) ≤ ((k : Int) + 1) by omega) (show ((k : Int) + 1) < 9223372036854775808 by omega), f4, f5, f6, f7, Int.ofNat_lt, Int.natCast_nonneg]
      exact ⟨m - 1, by omega, _, Ext.refl _, k + 1, B.set k s, by omega, by simp [hB], fun t ht => by
        rcases List.mem_or_eq_of_mem_set ht with h | rfl
        · exact hB9 t h
        · omega, rfl, oB7, Fre.setNe fA6 (fun e => hdj _ e rfl) _, Drew.set D6 hn' s1 _⟩
  have e : k = A.length := by omega
  subst e
  simp -implicitDefEqProofs only [go_sem, Nat.lt_irrefl, f4, f5, f6, f7, Int.ofNat_lt, Int.natCast_nonneg]
  refine AC_of (src_one D.2 (by omega)) ?_
  rintro _ h5 - ⟨⟨t, rfl⟩, d5⟩
  have D5 := D.trans d5
  have oB5 := oB.keepS d5.1 hS
  have fA5 := fA4.keep d5.1 (fun x hx e => by subst e; exact s1.known (fA4.new x hx))
  cases t
  · simp -implicitDefEqProofs only [go_sem, f4, f5, f6, f7, Int.ofNat_lt, Int.natCast_nonneg]
    exact ⟨pkg_of e1 nb D5, A, B, _, _, rfl, hA, hA10, fA5.sl, hB9, by omega, by have := oB5.sl; exact this⟩
  · simp -implicitDefEqProofs only [go_sem, f4, f5, f6, f7, Int.ofNat_lt, Int.natCast_nonneg]
    refine AC_of (src_oddImage D5.2) ?_
    rintro vt h6 - ⟨⟨T2, hT2, hT3, f8⟩, d6⟩
    simp -implicitDefEqProofs only [go_sem, f4, f5, f6, f7, Int.ofNat_lt, Int.natCast_nonneg]
    exact ⟨pkg_of e1 nb (D5.trans d6), A, T2, _, _, rfl, hA, hA10, (fA5.keep d6.1 (fun x hx e => by subst e; exact s1.known (fA5.new x hx))).sl, hT2, hT3, f8.sl⟩
/-- spec.DrawPackageOf -/
def b_spec_DrawPackageOf : C := (.seq (.ops [q 2 (.mv (.c nils)), q 3 (.mv (.c nils))])
 (.seq (.ops [q 4 (.mv (.t 0)), ⟨(some 5), none, .call (.c (.func (.func 33) #[] #[])) [(.t 4)]⟩, q 6 (.ext 0 (.t 5)), q 7 (.ext 1 (.t 5)), q 2 (.mv (.t 6)), q 3 (.mv (.t 7))])
 .ret))
theorem w_spec_DrawPackageOf {args : List Value} {h : H} {Q : Value → H → Prop} (hl : args.length ≤ 8) (hk : wpc Tryz.prog b_spec_DrawPackageOf (retw [.tmp 2, .tmp 3] Q) (argsFr args) h) : AC Tryz.prog 6 args h Q :=
  AC.of_wpc mixedOrders Tryz.func6 (by kernel_rfl) (by kernel_rfl : prepF Tryz.prog Tryz.f6 = some ⟨8, [.tmp 2, .tmp 3], b_spec_DrawPackageOf⟩) hl hk

theorem drawPackageOf_ac {h : H} {v : Value} {l : List UInt8} (hv : Sl h v 1 (bys l)) (hn : l.length ≤ 1048576) : AC Tryz.prog 6 [v] h fun r h' => Ext h h' ∧ ∃ (A B : List (List UInt8)) (va vb : Value), r = .tuple #[va, vb] ∧ (∀ t ∈ A, t.length ≤ 9) ∧ A.length ≤ 10 ∧ Sl h' va 1 (strs A) ∧ (∀ t ∈ B, t.length ≤ 9) ∧ B.length ≤ 10 ∧ Sl h' vb 1 (strs B) := by
  refine w_spec_DrawPackageOf (by simp) ?_
  unfold b_spec_DrawPackageOf
  simp -implicitDefEqProofs only [go_sem]
  refine AC_of (drawStepsFor_ac hv hn) ?_
  rintro _ h1 - ⟨e, A, B, va, vb, rfl, q⟩
  simp -implicitDefEqProofs only [go_sem]
  exact ⟨e, A, B, va, vb, rfl, q⟩
end Go.Proofs.YthjbhdmjfakfaaaGreatDoor
