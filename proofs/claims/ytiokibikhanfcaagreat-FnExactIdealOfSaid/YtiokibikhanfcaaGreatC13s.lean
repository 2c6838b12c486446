/- A helper of this seat's claims (contracts of the functions): what it shows is shown for every input that its statements name, on no other condition. -/
import Derived.Test.YtiokibikhanfcaaGreatC04g
import Derived.Test.YtiokibikhanfcaaGreatC12o
set_option linter.unusedVariables false
set_option linter.unusedSimpArgs false
set_option maxRecDepth 100000
namespace Go.Proofs.YtiokibikhanfcaaGreat
open Go.KH

/-! ## The state of a machine -/
def machFit (m : UMach) : Prop := (1 ≤ m.blocks ∧ m.blocks ≤ 8) ∧ flashOk m.flash ∧ (m.flash.sec.length : Int) = 27 + m.blocks
instance (m : UMach) : Decidable (machFit m) := by unfold machFit; infer_instance
def stM (m : UMach) : Option UState := if machFit m ∧ (metaGet m.flash).1.2 = 0 then stI (metaGet m.flash).1.1.2 else none
theorem metaGet_at (f : UFlash) : ((metaGet f).1.2 = 0 ↔ 0 ≤ (metaGet f).2) := by
  unfold metaGet
  by_cases h1 : (metaR (flashGet f 0)).2 = 0
  · by_cases h2 : (metaR (flashGet f 1)).2 = 0
    · by_cases h3 : (metaR (flashGet f 1)).1.1 ≤ (metaR (flashGet f 0)).1.1 <;> simp [h1, h2, h3]
    · simp [h1, h2]
  · by_cases h2 : (metaR (flashGet f 1)).2 = 0 <;> simp [h1, h2]
theorem metaR_len (t : List UInt8) : (metaR t).1.2.length ≤ 80 ∧ 0 ≤ (metaR t).1.1 ∧ (metaR t).1.1 ≤ 1000000 := by
  unfold metaR metaI
  split
  · simp only
    split
    · rename_i h; exact ⟨h.2.2.2, by simp only; omega, h.2.2.1.2⟩
    · simp
  · simp
theorem metaGet_len (f : UFlash) : (metaGet f).1.1.2.length ≤ 80 ∧ 0 ≤ (metaGet f).1.1.1 ∧ (metaGet f).1.1.1 ≤ 1000000 := by
  unfold metaGet
  simp only
  split
  · exact metaR_len _
  · split
    · exact metaR_len _
    · simp
theorem stM_no {m : UMach} (h : ¬ machFit m) : stM m = none := by unfold stM; rw [if_neg (fun k => h k.1)]
/-- impl.stateOf -/
def b_impl_stateOf : C := (.seq (.ops [⟨(some 1), none, .box (.t 0)⟩, ⟨(some 2), none, .alloc [(i64 0), (i64 0), (i64 0), (i64 0), (i64 0), (str []), nils, nils]⟩, q 3 (.mv (.c (.bool false)))])
 (.seq (.seq (.dops true (.tk (q 6 (.fld 0 (.t 1))) (.tk (q 7 (.ld false 1 (.t 6))) (.sq (⟨(some 8), none, .call (.c (.func (.func 83) #[] #[])) [(.t 7)]⟩) (.tk (q 9 (.un .not (.t 8))) (.tk (q 10 (.mv (.t 9))) (.tk (qg 11 10 false (.fld 1 (.t 1))) (.tk (qg 12 10 false (.ld true 2 (.t 11))) (.sq (⟨(some 13), (some (10, false)), .call (.c (.func (.func 84) #[] #[])) [(.t 12)]⟩) (.tk (qg 14 10 false (.un .not (.t 13))) (.tk (q 15 (.pick (.t 10) (.c (.bool true)) (.t 14))) (.tk (q 16 (.mv (.t 15))) (.tk (qg 17 16 false (.fld 1 (.t 1))) (.tk (qg 18 16 false (.fld 0 (.t 17))) (.tk (qg 19 16 false (.ld false 1 (.t 18))) (.tk (qg 21 16 false (.fld 0 (.t 1))) (.tk (qg 22 16 false (.ld false 1 (.t 21))) (.tk (qg 23 16 false (.bin .add (.c (i64 3)) (.t 22))) (.tk (qg 24 16 false (.bin .add (.t 23) (.c (i64 24)))) (.sq (⟨(some 20), (some (16, false)), .call (.c (.func (.func 85) #[] #[])) [(.t 19)]⟩) (.tk (qg 25 16 false (.bin .neq (.t 20) (.t 24))) (.tk (q 26 (.pick (.t 16) (.c (.bool true)) (.t 25))) .nil))))))))))))))))))))))
 (.cond (.t 26) (.seq (.ops [q 27 (.build [(i64 0), (i64 0), (i64 0), (i64 0), (i64 0), (str []), nils, nils] []), ⟨none, none, .st 8 (.t 2) (.t 27)⟩, q 3 (.mv (.c (.bool false)))])
 .ret) .skip))
 (.seq (.ops [q 29 (.fld 1 (.t 1)), q 30 (.ld true 2 (.t 29)), ⟨(some 31), none, .call (.c (.func (.func 86) #[] #[])) [(.t 30)]⟩, q 28 (.mv (.t 31)), q 32 (.ext 0 (.t 28)), q 33 (.ext 1 (.t 28)), ⟨(some 4), none, .alloc [(i64 0), (str []), (i64 0)]⟩, ⟨none, none, .st 3 (.t 4) (.t 32)⟩, q 5 (.mv (.t 33))])
 (.seq (.seq (.ops [q 34 (.mv (.t 5)), q 35 (.bin .lss (.t 34) (.c (i64 0)))])
 (.cond (.t 35) (.seq (.ops [q 36 (.build [(i64 0), (i64 0), (i64 0), (i64 0), (i64 0), (str []), nils, nils] []), ⟨none, none, .st 8 (.t 2) (.t 36)⟩, q 3 (.mv (.c (.bool false)))])
 .ret) .skip))
 (.seq (.ops [q 37 (.fld 1 (.t 4)), q 38 (.ld false 1 (.t 37)), ⟨(some 39), none, .call (.c (.func (.func 87) #[] #[])) [(.t 38)]⟩, q 40 (.ext 0 (.t 39)), q 41 (.ext 1 (.t 39)), ⟨none, none, .st 8 (.t 2) (.t 40)⟩, q 3 (.mv (.t 41))])
 .ret)))))
theorem w_impl_stateOf {args : List Value} {h : H} {Q : Value → H → Prop} (hl : args.length ≤ 42) (hk : wpc Tryz.prog b_impl_stateOf (retw [.cell 2 true 8, .tmp 3] Q) (argsFr args) h) : AC Tryz.prog 44 args h Q :=
  AC.of_wpc mixedOrders Tryz.func44 (by kernel_rfl) (by kernel_rfl : prepF Tryz.prog Tryz.f44 = some ⟨42, [.cell 2 true 8, .tmp 3], b_impl_stateOf⟩) hl hk

set_option maxHeartbeats 1600000 in
theorem stateOf_ac {h : H} {cs : List Value} {m : UMach} (hv : RepR h (spMach m) cs) (hs : m.flash.fin1) : AC Tryz.prog 44 [.agg cs.toArray] h fun r h' => Ext h h' ∧ ∃ cs', r = .tuple #[.agg cs'.toArray, .bool (stM m).isSome] ∧ StF h h' cs' ((stM m).getD zeroS) := by
  obtain ⟨vs, vd, rfl, r⟩ := mach_r.1 hv
  have o1 := r.1.one
  have o2 := r.2.one
  have nofit : ∀ {h'}, ¬ machFit m → Ext h h' → Ext h h' ∧ ∃ cs', Value.tuple #[.agg #[i64 0, i64 0, i64 0, i64 0, i64 0, str [], nils, nils], .bool false] = .tuple #[.agg cs'.toArray, .bool (stM m).isSome] ∧ StF h h' cs' ((stM m).getD zeroS) := fun hn e => by
    rw [stM_no hn]; exact ⟨e, _, rfl, zero_f _ _⟩
  refine w_impl_stateOf (by simp) ?_
  unfold b_impl_stateOf
  refine wpc_cut (fun f1 h1 => ∃ b1 b2, f1 1 = ptr b1 0 ∧ f1 2 = ptr b2 0 ∧ h1.get b1 = some ⟨[i64 m.blocks, vs, vd], 3⟩ ∧ h1.get b2 = some ⟨[i64 0, i64 0, i64 0, i64 0, i64 0, str [], nils, nils], 8⟩ ∧ h1.base ≤ b2 ∧ h.get b2 = none ∧ Ext h h1) ?_ ?_
  · simp -implicitDefEqProofs only [go_sem, o1, o2]
    intro b1 hb1 n1
    simp -implicitDefEqProofs only [go_sem, o1, o2]
    intro b2 hb2 n2
    obtain ⟨z, y, n2'⟩ := fne n2
    simp -implicitDefEqProofs only [go_sem, o1, o2, z, y]
    exact ⟨b1, b2, rfl, rfl, by simp -implicitDefEqProofs only [go_sem, y], by simp -implicitDefEqProofs only [go_sem], hb2, n2', ((Ext.refl h).set n1 _).set n2 _⟩
  rintro f1 h1 ⟨b1, b2, f01, f02, g1, g2, hb2, n2, e1⟩
  have o3 : vcl vs = [vs] := r.1.vcl
  skip
  refine wpc_cut (fun f2 h2 => h2 = h1 ∧ f2 1 = ptr b1 0 ∧ f2 2 = ptr b2 0 ∧ machFit m) ?_ ?_
  · simp -implicitDefEqProofs only [go_sem, f01, ldc_get g1, Sub.refl, o1, o2, o3, ldc_get g2, stc_get g2, hb2]
    refine (isBlocks_pc _ _).use ?_
    by_cases p1 : 1 ≤ m.blocks ∧ m.blocks ≤ 8
    rotate_left
    · simp -implicitDefEqProofs only [go_sem, f01, f02, ldc_get g1, Sub.refl, p1, o1, o2, o3, ldc_get g2, stc_get g2, hb2]
      exact nofit (fun h => p1 h.1) (e1.set' n2 _)
    have w1 : IntKind.i64.wrap (3 + m.blocks) = 3 + m.blocks := wrap_i64 (by omega) (by omega)
    have w2 : IntKind.i64.wrap (3 + m.blocks + 24) = 3 + m.blocks + 24 := wrap_i64 (by omega) (by omega)
    simp -implicitDefEqProofs only [go_sem, f01, ldc_get g1, Sub.refl, p1, o1, o2, o3, ldc_get g2, stc_get g2, hb2]
    refine (isFlash_pc (r.ext e1) hs).use ?_
    by_cases p2 : flashOk m.flash
    rotate_left
    · simp -implicitDefEqProofs only [go_sem, f01, f02, ldc_get g1, Sub.refl, p1, p2, o1, o2, o3, ldc_get g2, stc_get g2, hb2]
      exact nofit (fun h => p2 h.2.1) (e1.set' n2 _)
    simp -implicitDefEqProofs only [go_sem, f01, ldc_get g1, Sub.refl, p1, p2, o1, o2, o3, ldc_get g2, stc_get g2, hb2]
    refine (sizeStr_pc (r.1.ext e1)).use ?_
    by_cases p3 : (m.flash.sec.length : Int) = 3 + m.blocks + 24
    rotate_left
    · simp -implicitDefEqProofs only [go_sem, f01, f02, ldc_get g1, Sub.refl, p1, p2, w1, w2, p3, o1, o2, o3, ldc_get g2, stc_get g2, hb2]
      exact nofit (fun h => p3 (by have := h.2.2; omega)) (e1.set' n2 _)
    · simp -implicitDefEqProofs only [go_sem, f01, f02, ldc_get g1, Sub.refl, p1, p2, w1, w2, decide_eq_true p3, p3, o1, o2, o3, ldc_get g2, stc_get g2, hb2]
      exact ⟨p1, p2, by omega⟩
  rintro f2 h2 ⟨rfl, q1, q2, hfit⟩
  have h27 := hfit.2.2
  have hb8 := hfit.1
  have hml := metaGet_len m.flash
  have hat := metaGet_at m.flash
  obtain ⟨M, hM⟩ : ∃ M, metaGet m.flash = M := ⟨_, rfl⟩
  have hst : stM m = if M.1.2 = 0 then stI M.1.1.2 else none := by
    unfold stM
    rw [hM]
    by_cases h0 : M.1.2 = 0
    · rw [if_pos ⟨hfit, h0⟩, if_pos h0]
    · rw [if_neg (fun h => h0 h.2), if_neg h0]
  rw [hM] at hml hat
  simp -implicitDefEqProofs only [go_sem, q1, ldc_get g1, o1, o2, o3, ldc_get g2, stc_get g2, hb2]
  refine (metaGet_pc (r.ext e1) hfit.2.1 (by omega)).use ?_
  rw [hM]
  simp -implicitDefEqProofs only [go_sem, q1, q2, o1, o2, o3, ldc_get g2, stc_get g2, hb2]
  intro b4 hb4 n4
  have z42 : (b2 = b4) = False := eq_false fun e => by rw [← e, g2] at n4; cases n4
  have y42 : (b4 = b2) = False := eq_false fun e => (of_eq_false z42) e.symm
  have g2' : ∀ x, (h2.set b4 x).get b2 = some ⟨[i64 0, i64 0, i64 0, i64 0, i64 0, str [], nils, nils], 8⟩ := fun x => by rw [H.set_get_ne _ _ _ _ (of_eq_false z42)]; exact g2
  have e4 := fun x => e1.set n4 x
  skip
  by_cases h0 : M.1.2 = 0
  rotate_left
  · simp -implicitDefEqProofs only [go_sem, show M.2 < 0 by omega, o1, o2, o3, ldc_get g2, stc_get g2, hb2, q1, q2, hb4, z42, y42]
    rw [hst, if_neg h0]
    exact ⟨(e1.set' n2 _).set' (e1.none n4) _, _, rfl, zero_f _ _⟩
  rw [if_pos h0] at hst
  simp -implicitDefEqProofs only [go_sem, show ¬ M.2 < 0 by omega, o1, o2, o3, ldc_get g2, stc_get g2, hb2, q1, q2, hb4, z42, y42]
  refine AC_of (stateRead_ac (by omega)) ?_
  rintro _ h5 - ⟨e5, cs5, rfl, F5⟩
  rw [hst]
  have l5 := F5.r.len
  have t5 := take_len l5
  have o5 := F5.r.one
  have g5 := e5.2.g b2 _ (g2' _)
  have hb5 : h5.base ≤ b2 := by rw [e5.1]; exact hb2
  have eh := (e4 ⟨metaC M.1, 3⟩).trans e5
  simp -implicitDefEqProofs only [go_sem, l5, t5, o5, ldc_get g5, stc_get g5, hb5, o1, o2, o3, ldc_get g2, stc_get g2, hb2, q1, q2, hb4, z42, y42]
  obtain ⟨uh, um, rfl, p1, p2, d⟩ := F5
  exact ⟨eh.set' n2 _, _, rfl, uh, um, rfl, (p1.set (g2' _) _).back (e4 _), (p2.set (g2' _) _).back (e4 _), d⟩
/-- spec.l13State -/
def b_spec_l13State : C := (.seq (.ops [⟨(some 1), none, .box (.t 0)⟩, ⟨(some 2), none, .alloc [(i64 0), (i64 0), (i64 0), (i64 0), (i64 0), (str []), nils, nils]⟩, q 3 (.mv (.c (.bool false)))])
 (.seq (.seq (.ops [q 7 (.fld 0 (.t 1)), q 8 (.ld false 1 (.t 7)), ⟨(some 9), none, .call (.c (.func (.func 76) #[] #[])) [(.t 8), (.c (i64 1)), (.c (i64 8))]⟩, q 10 (.un .not (.t 9)), q 11 (.mv (.t 10)), qg 12 11 false (.fld 1 (.t 1)), qg 13 11 false (.ld true 2 (.t 12)), ⟨(some 14), (some (11, false)), .call (.c (.func (.func 77) #[] #[])) [(.t 13)]⟩, qg 15 11 false (.un .not (.t 14)), q 16 (.pick (.t 11) (.c (.bool true)) (.t 15)), q 17 (.mv (.t 16)), qg 18 17 false (.fld 1 (.t 1)), qg 19 17 false (.fld 0 (.t 18)), qg 20 17 false (.ld false 1 (.t 19)), qg 21 17 false (.len (.t 20)), qg 22 17 false (.fld 0 (.t 1)), qg 23 17 false (.ld false 1 (.t 22)), qg 24 17 false (.bin .add (.c (i64 3)) (.t 23)), qg 25 17 false (.bin .add (.t 24) (.c (i64 24))), qg 26 17 false (.bin .neq (.t 21) (.t 25)), q 27 (.pick (.t 17) (.c (.bool true)) (.t 26))])
 (.cond (.t 27) (.seq (.ops [q 28 (.build [(i64 0), (i64 0), (i64 0), (i64 0), (i64 0), (str []), nils, nils] []), ⟨none, none, .st 8 (.t 2) (.t 28)⟩, q 3 (.mv (.c (.bool false)))])
 .ret) .skip))
 (.seq (.ops [q 30 (.fld 1 (.t 1)), q 31 (.ld true 2 (.t 30)), ⟨(some 32), none, .call (.c (.func (.func 78) #[] #[])) [(.t 31)]⟩, q 29 (.mv (.t 32)), q 33 (.ext 0 (.t 29)), q 34 (.ext 1 (.t 29)), ⟨(some 4), none, .alloc [(i64 0), (str []), (i64 0)]⟩, ⟨none, none, .st 3 (.t 4) (.t 33)⟩, q 5 (.mv (.t 34))])
 (.seq (.seq (.ops [q 35 (.fld 2 (.t 4)), q 36 (.ld false 1 (.t 35)), q 37 (.bin .neq (.t 36) (.c (i64 0)))])
 (.cond (.t 37) (.seq (.ops [q 38 (.build [(i64 0), (i64 0), (i64 0), (i64 0), (i64 0), (str []), nils, nils] []), ⟨none, none, .st 8 (.t 2) (.t 38)⟩, q 3 (.mv (.c (.bool false)))])
 .ret) .skip))
 (.seq (.ops [q 39 (.fld 1 (.t 4)), q 40 (.ld false 1 (.t 39)), ⟨(some 41), none, .call (.c (.func (.func 79) #[] #[])) [(.t 40)]⟩, ⟨(some 6), none, .alloc [(i64 0), (i64 0), (i64 0), (i64 0), (i64 0), (str []), nils, nils, (i64 0)]⟩, ⟨none, none, .st 9 (.t 6) (.t 41)⟩])
 (.seq (.dopx (.tk (q 42 (.fld 0 (.t 6))) (.tk (q 43 (.ld true 8 (.t 42))) (.tk (q 44 (.fld 8 (.t 6))) (.tk (q 45 (.ld false 1 (.t 44))) (.tk (q 46 (.bin .eql (.t 45) (.c (i64 0)))) (.sq (⟨none, none, .st 8 (.t 2) (.t 43)⟩) (.tk (q 3 (.mv (.t 46))) .nil))))))))
 .ret))))))
theorem w_spec_l13State {args : List Value} {h : H} {Q : Value → H → Prop} (hl : args.length ≤ 47) (hk : wpc Tryz.prog b_spec_l13State (retw [.cell 2 true 8, .tmp 3] Q) (argsFr args) h) : AC Tryz.prog 41 args h Q :=
  AC.of_wpcx mixedOrders Tryz.func41 (by kernel_rfl) (by kernel_rfl : prepFx Tryz.prog Tryz.f41 = some ⟨47, [.cell 2 true 8, .tmp 3], b_spec_l13State⟩) hl hk

set_option maxHeartbeats 1600000 in
theorem l13State_ac {h : H} {cs : List Value} {m : UMach} (hv : RepR h (spMach m) cs) (hs : m.flash.fin1) : AC Tryz.prog 41 [.agg cs.toArray] h fun r h' => Ext h h' ∧ ∃ cs', r = .tuple #[.agg cs'.toArray, .bool (stM m).isSome] ∧ StF h h' cs' ((stM m).getD zeroS) := by
  obtain ⟨vs, vd, rfl, r⟩ := mach_r.1 hv
  have o1 := r.1.one
  have o2 := r.2.one
  have nofit : ∀ {h'}, ¬ machFit m → Ext h h' → Ext h h' ∧ ∃ cs', Value.tuple #[.agg #[i64 0, i64 0, i64 0, i64 0, i64 0, str [], nils, nils], .bool false] = .tuple #[.agg cs'.toArray, .bool (stM m).isSome] ∧ StF h h' cs' ((stM m).getD zeroS) := fun hn e => by
    rw [stM_no hn]; exact ⟨e, _, rfl, zero_f _ _⟩
  refine w_spec_l13State (by simp) ?_
  unfold b_spec_l13State
  refine wpc_cut (fun f1 h1 => ∃ b1 b2, f1 1 = ptr b1 0 ∧ f1 2 = ptr b2 0 ∧ h1.get b1 = some ⟨[i64 m.blocks, vs, vd], 3⟩ ∧ h1.get b2 = some ⟨[i64 0, i64 0, i64 0, i64 0, i64 0, str [], nils, nils], 8⟩ ∧ h1.base ≤ b2 ∧ h.get b2 = none ∧ Ext h h1) ?_ ?_
  · simp -implicitDefEqProofs only [go_sem, o1, o2]
    intro b1 hb1 n1
    simp -implicitDefEqProofs only [go_sem, o1, o2]
    intro b2 hb2 n2
    obtain ⟨z, y, n2'⟩ := fne n2
    simp -implicitDefEqProofs only [go_sem, o1, o2, z, y]
    exact ⟨b1, b2, rfl, rfl, by simp -implicitDefEqProofs only [go_sem, y], by simp -implicitDefEqProofs only [go_sem], hb2, n2', ((Ext.refl h).set n1 _).set n2 _⟩
  rintro f1 h1 ⟨b1, b2, f01, f02, g1, g2, hb2, n2, e1⟩
  have o3 : vcl vs = [vs] := r.1.vcl
  skip
  refine wpc_cut (fun f2 h2 => h2 = h1 ∧ f2 1 = ptr b1 0 ∧ f2 2 = ptr b2 0 ∧ machFit m) ?_ ?_
  · simp -implicitDefEqProofs only [go_sem, f01, ldc_get g1, Sub.refl, o1, o2, o3, ldc_get g2, stc_get g2, hb2]
    refine (l03Is_pc _ _ _ _).use ?_
    by_cases p1 : 1 ≤ m.blocks ∧ m.blocks ≤ 8
    rotate_left
    · simp -implicitDefEqProofs only [go_sem, f01, f02, ldc_get g1, Sub.refl, p1, o1, o2, o3, ldc_get g2, stc_get g2, hb2]
      exact nofit (fun h => p1 h.1) (e1.set' n2 _)
    have w1 : IntKind.i64.wrap (3 + m.blocks) = 3 + m.blocks := wrap_i64 (by omega) (by omega)
    have w2 : IntKind.i64.wrap (3 + m.blocks + 24) = 3 + m.blocks + 24 := wrap_i64 (by omega) (by omega)
    simp -implicitDefEqProofs only [go_sem, f01, ldc_get g1, Sub.refl, p1, o1, o2, o3, ldc_get g2, stc_get g2, hb2]
    refine (specFlashRight_pc (r.ext e1) hs).use ?_
    by_cases p2 : flashOk m.flash
    rotate_left
    · simp -implicitDefEqProofs only [go_sem, f01, f02, ldc_get g1, Sub.refl, p1, p2, o1, o2, o3, ldc_get g2, stc_get g2, hb2]
      exact nofit (fun h => p2 h.2.1) (e1.set' n2 _)
    by_cases p3 : (m.flash.sec.length : Int) = 3 + m.blocks + 24
    rotate_left
    · obtain ⟨a0, c0, a', c', rfl, rfl⟩ := r.shape
      simp -implicitDefEqProofs only [go_sem, f01, f02, ldc_get g1, Sub.refl, p1, p2, w1, w2, p3, o1, o2, o3, ldc_get g2, stc_get g2, hb2]
      exact nofit (fun h => p3 (by have := h.2.2; omega)) (e1.set' n2 _)
    · obtain ⟨a0, c0, a', c', rfl, rfl⟩ := r.shape
      simp -implicitDefEqProofs only [go_sem, f01, f02, ldc_get g1, Sub.refl, p1, p2, w1, w2, decide_eq_true p3, p3, o1, o2, o3, ldc_get g2, stc_get g2, hb2]
      exact ⟨p1, p2, by omega⟩
  rintro f2 h2 ⟨rfl, q1, q2, hfit⟩
  have h27 := hfit.2.2
  have hb8 := hfit.1
  have hml := metaGet_len m.flash
  have hat := metaGet_at m.flash
  obtain ⟨M, hM⟩ : ∃ M, metaGet m.flash = M := ⟨_, rfl⟩
  have hst : stM m = if M.1.2 = 0 then stI M.1.1.2 else none := by
    unfold stM
    rw [hM]
    by_cases h0 : M.1.2 = 0
    · rw [if_pos ⟨hfit, h0⟩, if_pos h0]
    · rw [if_neg (fun h => h0 h.2), if_neg h0]
  rw [hM] at hml hat
  simp -implicitDefEqProofs only [go_sem, q1, ldc_get g1, o1, o2, o3, ldc_get g2, stc_get g2, hb2]
  refine (l04Get_pc (r.ext e1) hfit.2.1 (by omega)).use ?_
  rw [hM]
  simp -implicitDefEqProofs only [go_sem, q1, q2, o1, o2, o3, ldc_get g2, stc_get g2, hb2]
  intro b4 hb4 n4
  have z42 : (b2 = b4) = False := eq_false fun e => by rw [← e, g2] at n4; cases n4
  have y42 : (b4 = b2) = False := eq_false fun e => (of_eq_false z42) e.symm
  have g2' : ∀ x, (h2.set b4 x).get b2 = some ⟨[i64 0, i64 0, i64 0, i64 0, i64 0, str [], nils, nils], 8⟩ := fun x => by rw [H.set_get_ne _ _ _ _ (of_eq_false z42)]; exact g2
  have e4 := fun x => e1.set n4 x
  skip
  by_cases h0 : M.1.2 = 0
  rotate_left
  · simp -implicitDefEqProofs only [go_sem, h0, o1, o2, o3, ldc_get g2, stc_get g2, hb2, q1, q2, hb4, z42, y42]
    rw [hst, if_neg h0]
    exact ⟨(e1.set' n2 _).set' (e1.none n4) _, _, rfl, zero_f _ _⟩
  rw [if_pos h0] at hst
  simp -implicitDefEqProofs only [go_sem, h0, o1, o2, o3, ldc_get g2, stc_get g2, hb2, q1, q2, hb4, z42, y42]
  refine AC_of specStateRead_ac ?_
  rintro _ h5 - ⟨e5, _, rfl, cs5, rfl, F5⟩
  have hso : stOut M.1.1.2 = match stI M.1.1.2 with | none => (zeroS, 3) | some s => (s, 0) := by unfold stOut; rw [if_neg (by omega)]; cases stI M.1.1.2 <;> rfl
  have l5 := F5.r.len
  have o5 := F5.r.one
  have g5 := e5.2.g b2 _ (g2' _)
  have hb5 : h5.base ≤ b2 := by rw [e5.1]; exact hb2
  have eh := (e4 ⟨metaC M.1, 3⟩).trans e5
  have hcode : decide ((stOut M.1.1.2).2 = 0) = (stI M.1.1.2).isSome := by
    rw [hso]
    cases stI M.1.1.2 <;> rfl
  have hval : (stOut M.1.1.2).1 = (stI M.1.1.2).getD zeroS := by
    rw [hso]
    cases stI M.1.1.2 <;> rfl
  rw [hst, ← hval, ← hcode]
  obtain ⟨uh, um, rfl, p1, p2, d⟩ := F5
  have q1' := p1.sl.one
  have q2' := p2.sl.one
  skip
  simp -implicitDefEqProofs only [go_sem, o1, o2, o3, ldc_get g2, stc_get g2, hb2, q1, q2, hb4, z42, y42, q1', q2']
  intro b6 hb6 n6
  have z62 : (b2 = b6) = False := eq_false fun e => by rw [← e, g5] at n6; cases n6
  have y62 : (b6 = b2) = False := eq_false fun e => (of_eq_false z62) e.symm
  simp -implicitDefEqProofs only [go_sem, z62, y62, hb6, o1, o2, o3, ldc_get g2, stc_get g2, hb2, q1, q2, hb4, z42, y42, q1', q2']
  generalize hX : h5.set b6 ⟨_, _⟩ = h6
  have g6 : h6.get b6 = some ⟨(stOut M.1.1.2).1.cells uh um ++ [i64 (stOut M.1.1.2).2], 9⟩ := by rw [← hX, H.set_get_same]; rfl
  have g62 : h6.get b2 = some ⟨[i64 0, i64 0, i64 0, i64 0, i64 0, str [], nils, nils], 8⟩ := by rw [← hX, H.set_get_ne _ _ _ _ (of_eq_false z62)]; exact g5
  have e6 : Ext h5 h6 := by rw [← hX]; exact (Ext.refl _).set n6 _
  have hb62 : h6.base ≤ b2 := by rw [e6.1]; exact hb5
  refine dopX_of (but h6 b2) (but_sub _ _) ?_
  have g6' : (but h6 b2).get b6 = some ⟨(stOut M.1.1.2).1.cells uh um ++ [i64 (stOut M.1.1.2).2], 9⟩ := by rw [but_get (of_eq_false y62)]; exact g6
  simp -implicitDefEqProofs only [go_sem, ldc_get g6', stc_get g62, hb62, o1, o2, o3, ldc_get g2, stc_get g2, hb2, q1, q2, hb4, z42, y42, q1', q2']
  refine ⟨but_keep ((Keep.refl (fun x => x = b2) h6).set (.inl rfl) _), ?_⟩
  exact ⟨(eh.trans e6).set' n2 _, _, rfl, uh, um, rfl, ((p1.ext e6).set (g2' _) _).back (e4 _), ((p2.ext e6).set (g2' _) _).back (e4 _), d⟩
end Go.Proofs.YtiokibikhanfcaaGreat
