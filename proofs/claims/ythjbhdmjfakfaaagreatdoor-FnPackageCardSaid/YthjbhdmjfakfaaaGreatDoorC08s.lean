/- A helper of this seat's claims (contracts of the functions): what it shows is shown for every input that its statements name, on no other condition. -/
import Derived.Test.YthjbhdmjfakfaaaGreatDoorC08q
import Derived.Test.YthjbhdmjfakfaaaGreatDoorMC08o
set_option linter.unusedVariables false
set_option linter.unusedSimpArgs false
set_option maxRecDepth 100000
namespace Go.Proofs.YthjbhdmjfakfaaaGreatDoor
open Go.KH

/-! ## PackageRead -/
theorem pkgR_small (t : List UInt8) : (pkgR t).1.steps.length ≤ 20 := by
  unfold pkgR
  split
  · simp [pkg0]
  split
  · split
    · rename_i p hp
      unfold pkgIn at hp
      split at hp
      · rename_i hq
        simp only [Option.some.injEq] at hp
        rw [← hp]
        exact (pkgOk_steps hq.2.2.2.2.2).1
      · cases hp
    · simp [pkg0]
  · simp [pkg0]
theorem pkgR_bad {t : List UInt8} : (pkgR t).2 ≠ 0 → pkgR t = (pkg0, (pkgR t).2) := by
  unfold pkgR
  split
  · intro _; rfl
  split
  · cases pkgIn (unsealB t).1 with
    | none => intro _; rfl
    | some p => intro h; exact absurd rfl h
  · intro _; rfl
/-- impl.PackageRead -/
def b_impl_PackageRead : C := (.seq (.ops [⟨(some 2), none, .alloc [(i64 0), (str []), nils, (i64 0)]⟩])
 (.seq (.seq (.ops [q 5 (.mv (.t 0)), q 6 (.slen (.t 5)), q 7 (.bin .gtr (.t 6) (.c (i64 8000)))])
 (.cond (.t 7) (.seq (.ops [q 8 (.build [(i64 0), (str []), nils, (i64 0)] [(3, 1, (.c (i64 2)))]), ⟨none, none, .st 4 (.t 2) (.t 8)⟩])
 .ret) .skip))
 (.seq (.ops [q 10 (.mv (.t 0)), ⟨(some 11), none, .call (.c (.func (.func 47) #[] #[])) [(.t 10)]⟩, q 9 (.mv (.t 11)), q 12 (.ext 0 (.t 9)), q 13 (.ext 1 (.t 9)), ⟨(some 3), none, .alloc [(i64 0), (str []), nils]⟩, ⟨none, none, .st 3 (.t 3) (.t 12)⟩, q 4 (.mv (.t 13))])
 (.seq (.seq (.ops [q 14 (.mv (.t 4)), q 15 (.bin .neq (.t 14) (.c (i64 0)))])
 (.cond (.t 15) (.seq (.ops [q 16 (.mv (.t 4)), q 17 (.build [(i64 0), (str []), nils, (i64 0)] [(3, 1, (.t 16))]), ⟨none, none, .st 4 (.t 2) (.t 17)⟩])
 .ret) .skip))
 (.seq (.ops [q 18 (.ld true 3 (.t 3)), q 19 (.build [(i64 0), (str []), nils, (i64 0)] [(0, 3, (.t 18))]), ⟨none, none, .st 4 (.t 2) (.t 19)⟩])
 .ret)))))
theorem w_impl_PackageRead {args : List Value} {h : H} {Q : Value → H → Prop} (hl : args.length ≤ 20) (hk : wpc Tryz.prog b_impl_PackageRead (retw [.cell 2 true 4] Q) (argsFr args) h) : AC Tryz.prog 11 args h Q :=
  AC.of_wpc mixedOrders Tryz.func11 (by kernel_rfl) (by kernel_rfl : prepF Tryz.prog Tryz.f11 = some ⟨20, [.cell 2 true 4], b_impl_PackageRead⟩) hl hk

theorem implPackageRead_ac {h : H} {t : List UInt8} : AC Tryz.prog 11 [str t] h fun r h' => Ext h h' ∧ ∃ cs, r = .agg cs.toArray ∧ RepF h h' (spPo (pkgR t)) cs := by
  refine w_impl_PackageRead (by simp) ?_
  unfold b_impl_PackageRead
  simp -implicitDefEqProofs only [go_sem]
  intro b2 hb_b2 n_b2
  simp -implicitDefEqProofs only [go_sem, hb_b2]
  by_cases h8 : 8000 < t.length
  · simp -implicitDefEqProofs only [go_sem, show (8000 : Int) < (t.length : Int) by omega, hb_b2]
    unfold pkgR
    rw [if_pos h8]
    exact ⟨((Ext.refl _).set' n_b2 _), _, rfl, po_none⟩
  simp -implicitDefEqProofs only [go_sem, show ¬ (8000 : Int) < (t.length : Int) by omega, hb_b2]
  refine AC_of (packageRead_ac (by omega)) ?_
  rintro _ h1 - ⟨e1, v, rfl, f1⟩
  have g2 := e1.2.g b2 _ (H.set_get_same _ _ _)
  have hb1 := e1.1
  simp only [H.set_base] at hb1
  have hb2 : h1.base ≤ b2 := by rw [hb1]; exact hb_b2
  obtain ⟨av, cv, rfl⟩ := f1.shape
  simp -implicitDefEqProofs only [go_sem, hb_b2]
  intro b3 hb3 n3
  have z1 : (b2 = b3) = False := eq_false fun q => by rw [q, n3] at g2; cases g2
  have z2 : (b3 = b2) = False := eq_false fun q => by rw [← q, n3] at g2; cases g2
  simp -implicitDefEqProofs only [go_sem, hb3, z1, z2, hb_b2]
  by_cases hc : (pkgR t).2 = 0
  rotate_left
  · simp -implicitDefEqProofs only [go_sem, hc, ldc_get g2, stc_get g2, hb2, z1, z2, hb_b2]
    have this := pkgR_bad hc
    first | rw [H.set_comm _ _ _ (of_eq_false z1)] | rw [H.set_comm _ _ _ (of_eq_false z2)]
    refine ⟨(((((Ext.refl _).set' n_b2 _)).trans e1).set n3 _).set' n_b2 _, _, rfl, ?_⟩
    rw [this]
    exact po_none
  · simp -implicitDefEqProofs only [go_sem, hc, ldc_get g2, stc_get g2, hb2, z1, z2, hb_b2]
    first | rw [H.set_comm _ _ _ (of_eq_false z1)] | rw [H.set_comm _ _ _ (of_eq_false z2)]
    refine ⟨(((((Ext.refl _).set' n_b2 _)).trans e1).set n3 _).set' n_b2 _, _, rfl, po_f.2 ⟨_, by rw [hc], ?_⟩⟩
    have := (f1.ext ((Ext.refl h1).set n3 ⟨[i64 (pkgR t).1.blocks, str (pkgR t).1.digest, .slice av ((pkgR t).1.steps.map UStep.cells).length cv], 3⟩)).set (b := b2) (H.set_get_same _ _ _)
    exact (this _).back ((Ext.refl _).set' n_b2 _)
theorem pkS {t i d : List UInt8} {k m : Int} {a1 a2 a3 e N : Nat} {l : List UStep} (hu : unsealB t = (i, 0)) (h1 : getN i 0 = (k, a1, 0)) (h2 : getT i a1 = (d, a2, 0)) (h3 : getN i a2 = (m, a3, 0)) (hN : N = (min m 20).toNat) (h4 : rdS i N a3 = (l, e, false)) :
    pkgIn i = if pkgBytes ⟨k, d, l⟩ = t then some ⟨k, d, l⟩ else none := by
  have hi := pkg_iff hu h1 h2 h3 h4 hN
  by_cases hm : 0 ≤ m ∧ m ≤ 20
  · have : N = m.toNat := by omega
    subst this
    rw [pkgIn_of h1 h2 h3 h4]
    by_cases hq : pkgBytes ⟨k, d, l⟩ = t
    · rw [if_pos hq]
      have := hi.1 hq
      rw [if_pos ⟨this.1, ⟨this.2.1, rfl⟩, this.2.2⟩]
    · rw [if_neg hq, if_neg (fun q => hq (hi.2 ⟨q.1, q.2.1.1, q.2.2⟩))]
  · rw [if_neg (fun q => hm (hi.1 q).1)]
    generalize hr : rdS i m.toNat a3 = r
    obtain ⟨l', e', b'⟩ := r
    rw [pkgIn_of h1 h2 h3 hr, if_neg (fun q => hm q.1)]
theorem pkS_bad {i d : List UInt8} {k m : Int} {a1 a2 a3 N : Nat} {c1 c2 c3 : Bool} (e1 : numS i 0 false = (k, a1, c1)) (e2 : textS i a1 c1 = (d, a2, c2)) (e3 : numS i a2 c2 = (m, a3, c3)) (hN : N = (min m 20).toNat) (hT : c3 = true ∨ (rdS i N a3).2.2 = true) : pkgIn i = none := by
  by_cases h : (getN i 0).2.2 = 0 ∧ (getT i (getN i 0).2.1).2.2 = 0 ∧ (getN i (getT i (getN i 0).2.1).2.1).2.2 = 0
  · obtain ⟨h1, h2, h3⟩ := h
    have q1 : getN i 0 = ((getN i 0).1, (getN i 0).2.1, 0) := Prod.ext rfl (Prod.ext rfl h1)
    have q2 : getT i (getN i 0).2.1 = ((getT i (getN i 0).2.1).1, (getT i (getN i 0).2.1).2.1, 0) := Prod.ext rfl (Prod.ext rfl h2)
    have q3 : getN i (getT i (getN i 0).2.1).2.1 = ((getN i (getT i (getN i 0).2.1).2.1).1, (getN i (getT i (getN i 0).2.1).2.1).2.1, 0) := Prod.ext rfl (Prod.ext rfl h3)
    rw [numS_ok q1] at e1
    simp only [Prod.mk.injEq] at e1
    obtain ⟨rfl, rfl, rfl⟩ := e1
    rw [textS_ok q2] at e2
    simp only [Prod.mk.injEq] at e2
    obtain ⟨rfl, rfl, rfl⟩ := e2
    rw [numS_ok q3] at e3
    simp only [Prod.mk.injEq] at e3
    obtain ⟨rfl, rfl, rfl⟩ := e3
    generalize hr : rdS i (getN i (getT i (getN i 0).2.1).2.1).1.toNat (getN i (getT i (getN i 0).2.1).2.1).2.1 = r
    obtain ⟨l', e', b'⟩ := r
    rw [pkgIn_of q1 q2 q3 hr, if_neg]
    rintro ⟨hm, ⟨_, rfl⟩, _⟩
    have : N = (getN i (getT i (getN i 0).2.1).2.1).1.toNat := by omega
    rw [this, hr] at hT
    simp at hT
  · exact pkgIn_no h
/-- spec.PackageRead -/
def b_spec_PackageRead : C := (.seq (.ops [⟨(some 2), none, .alloc [(i64 0), (str []), nils, (i64 0)]⟩])
 (.seq (.ops [q 9 (.mv (.t 0)), ⟨(some 10), none, .call (.c (.func (.func 46) #[] #[])) [(.t 9)]⟩, ⟨(some 3), none, .alloc [(str []), (i64 0), (i64 0)]⟩, ⟨none, none, .st 3 (.t 3) (.t 10)⟩])
 (.seq (.seq (.ops [q 11 (.fld 2 (.t 3)), q 12 (.ld false 1 (.t 11)), q 13 (.bin .neq (.t 12) (.c (i64 0)))])
 (.cond (.t 13) (.seq (.ops [q 14 (.fld 2 (.t 3)), q 15 (.ld false 1 (.t 14)), ⟨(some 16), none, .call (.c (.func (.func 51) #[] #[])) [(.t 15)]⟩, ⟨none, none, .st 4 (.t 2) (.t 16)⟩])
 .ret) .skip))
 (.seq (.ops [q 17 (.fld 0 (.t 3)), q 18 (.ld false 1 (.t 17)), q 19 (.build [(str []), (i64 0), (.bool false)] [(0, 1, (.t 18))]), ⟨(some 20), none, .box (.t 19)⟩, q 4 (.mv (.t 20))])
 (.seq (.ops [q 21 (.mv (.t 4)), ⟨(some 22), none, .call (.c (.func (.func 58) #[] #[])) [(.t 21)]⟩, q 23 (.build [(i64 0), (str []), nils] [(0, 1, (.t 22))]), ⟨(some 5), none, .alloc [(i64 0), (str []), nils]⟩, ⟨none, none, .st 3 (.t 5) (.t 23)⟩])
 (.seq (.ops [q 24 (.mv (.t 4)), ⟨(some 25), none, .call (.c (.func (.func 59) #[] #[])) [(.t 24)]⟩, q 26 (.fld 1 (.t 5)), ⟨none, none, .st 1 (.t 26) (.t 25)⟩])
 (.seq (.ops [q 27 (.mv (.t 4)), ⟨(some 28), none, .call (.c (.func (.func 58) #[] #[])) [(.t 27)]⟩, q 6 (.mv (.t 28))])
 (.seq (.seq (.ops [q 7 (.mv (.c (i64 0)))])
 (.block 0 (.loop (.seq (.seq (.ops [q 29 (.mv (.t 7)), q 30 (.mv (.t 6)), q 31 (.bin .lss (.t 29) (.t 30)), q 32 (.mv (.t 31)), qg 33 32 true (.mv (.t 7)), qg 34 32 true (.bin .lss (.t 33) (.c (i64 20))), q 35 (.pick (.t 32) (.t 34) (.c (.bool false))), q 36 (.mv (.t 35)), qg 37 36 true (.mv (.t 4)), qg 38 36 true (.nck (.t 37)), qg 39 36 true (.fld 2 (.t 38)), qg 40 36 true (.ld false 1 (.t 39)), qg 41 36 true (.un .not (.t 40)), q 42 (.pick (.t 36) (.t 41) (.c (.bool false)))])
 (.cond (.t 42) .skip (.exit 0)))
 (.seq (.block 1 (.seq (.ops [q 45 (.mv (.t 4)), ⟨(some 46), none, .call (.c (.func (.func 59) #[] #[])) [(.t 45)]⟩, ⟨(some 47), none, .call (.c (.func (.func 60) #[] #[])) [(.t 46)]⟩, ⟨(some 8), none, .alloc [(i64 0), (i64 0), (i64 0), (str []), (i64 0)]⟩, ⟨none, none, .st 5 (.t 8) (.t 47)⟩])
 (.seq (.ops [q 48 (.mv (.t 4)), q 49 (.mv (.t 4)), q 50 (.nck (.t 49)), q 51 (.fld 2 (.t 50)), q 52 (.ld false 1 (.t 51)), q 53 (.mv (.t 52)), qg 54 53 false (.fld 4 (.t 8)), qg 55 53 false (.ld false 1 (.t 54)), qg 56 53 false (.bin .neq (.t 55) (.c (i64 0))), q 57 (.pick (.t 53) (.c (.bool true)) (.t 56)), q 58 (.nck (.t 48)), q 59 (.fld 2 (.t 58)), ⟨none, none, .st 1 (.t 59) (.t 57)⟩])
 (.ops [q 60 (.fld 2 (.t 5)), q 61 (.ld false 1 (.t 60)), q 62 (.fld 0 (.t 8)), q 63 (.ld true 4 (.t 62)), ⟨(some 64), none, .bsl 1 [(i64 0), (i64 0), (i64 0), (str [])] [(0, 4, (.t 63))]⟩, ⟨(some 65), none, .app 4 40 (.t 61) (.t 64)⟩, q 66 (.fld 2 (.t 5)), ⟨none, none, .st 1 (.t 66) (.t 65)⟩]))))
 (.ops [q 43 (.mv (.t 7)), q 44 (.bin .add (.t 43) (.c (i64 1))), q 7 (.mv (.t 44))]))))))
 (.seq (.seq (.ops [q 67 (.mv (.t 4)), q 68 (.nck (.t 67)), q 69 (.fld 2 (.t 68)), q 70 (.ld false 1 (.t 69)), q 71 (.mv (.t 70)), qg 72 71 false (.ld true 3 (.t 5)), ⟨(some 73), (some (71, false)), .call (.c (.func (.func 15) #[] #[])) [(.t 72)]⟩, qg 74 71 false (.mv (.t 0)), qg 75 71 false (.bin .neq (.t 73) (.t 74)), q 76 (.pick (.t 71) (.c (.bool true)) (.t 75))])
 (.cond (.t 76) (.seq (.ops [⟨(some 77), none, .call (.c (.func (.func 51) #[] #[])) [(.c (i64 3))]⟩, ⟨none, none, .st 4 (.t 2) (.t 77)⟩])
 .ret) .skip))
 (.seq (.ops [q 78 (.ld true 3 (.t 5)), q 79 (.build [(i64 0), (str []), nils, (i64 0)] [(0, 3, (.t 78))]), ⟨none, none, .st 4 (.t 2) (.t 79)⟩])
 .ret))))))))))
theorem w_spec_PackageRead {args : List Value} {h : H} {Q : Value → H → Prop} (hl : args.length ≤ 80) (hk : wpc Tryz.prog b_spec_PackageRead (retw [.cell 2 true 4] Q) (argsFr args) h) : AC Tryz.prog 16 args h Q :=
  AC.of_wpc mixedOrders Tryz.func16 (by kernel_rfl) (by kernel_rfl : prepF Tryz.prog Tryz.f16 = some ⟨80, [.cell 2 true 4], b_spec_PackageRead⟩) hl hk

set_option maxHeartbeats 1600000 in
theorem specPackageRead_ac {h : H} {t : List UInt8} (ht : t.length ≤ 1048576) : AC Tryz.prog 16 [str t] h fun r h' => Ext h h' ∧ ∃ cs, r = .agg cs.toArray ∧ RepF h h' (spPo (pkgR t)) cs := by
  have hul := unsealB_len t
  refine w_spec_PackageRead (by simp) ?_
  unfold b_spec_PackageRead
  simp -implicitDefEqProofs only [go_sem]
  intro b2 hb_b2 n_b2
  simp -implicitDefEqProofs only [go_sem, hb_b2]
  refine PC.use (specUnseal_pc _ t (by omega)) ?_
  by_cases h8 : 8000 < t.length
  · rw [if_pos h8]
    simp -implicitDefEqProofs only [go_sem, hb_b2]
    intro b3 hb_b3 m0_b3
    obtain ⟨z_b3_b2, y_b3_b2, n_b3⟩ := fne m0_b3
    simp only [H.set_base] at hb_b3
    simp -implicitDefEqProofs only [go_sem, hb_b2, hb_b3, z_b3_b2, y_b3_b2]
    refine (l08Ill_pc _ 2).use ?_
    simp -implicitDefEqProofs only [go_sem, hb_b2, hb_b3, z_b3_b2, y_b3_b2]
    unfold pkgR
    rw [if_pos h8]
    exact ⟨(((Ext.refl _).set' n_b2 _).set' n_b3 _), _, rfl, po_none⟩
  skip
  rw [if_neg h8]
  obtain ⟨i, c, hu⟩ : ∃ i c, unsealB t = (i, c) := ⟨_, _, rfl⟩
  unfold pkgR
  rw [if_neg h8]
  rw [hu] at hul ⊢
  simp only at hul ⊢
  simp -implicitDefEqProofs only [go_sem, hb_b2]
  intro b3 hb_b3 m0_b3
  obtain ⟨z_b3_b2, y_b3_b2, n_b3⟩ := fne m0_b3
  simp only [H.set_base] at hb_b3
  simp -implicitDefEqProofs only [go_sem, hb_b2, hb_b3, z_b3_b2, y_b3_b2]
  by_cases hc : c = 0
  rotate_left
  · rw [if_neg hc]
    simp -implicitDefEqProofs only [go_sem, hc, show ¬ ((c : Int) = 0) by omega, hb_b2, hb_b3, z_b3_b2, y_b3_b2]
    refine (l08Ill_pc _ c).use ?_
    simp -implicitDefEqProofs only [go_sem, hb_b2, hb_b3, z_b3_b2, y_b3_b2]
    exact ⟨(((Ext.refl _).set' n_b2 _).set' n_b3 _), _, rfl, po_none⟩
  subst hc
  rw [if_pos rfl]
  have hi : i.length ≤ 8000 := by omega
  simp -implicitDefEqProofs only [go_sem, show ((0 : Nat) : Int) = 0 from rfl, hb_b2, hb_b3, z_b3_b2, y_b3_b2]
  intro b4 hb_b4 m0_b4
  obtain ⟨z_b4_b3, y_b4_b3, m1_b4⟩ := fne m0_b4
  obtain ⟨z_b4_b2, y_b4_b2, n_b4⟩ := fne m1_b4
  simp only [H.set_base] at hb_b4
  simp -implicitDefEqProofs only [go_sem, hb_b2, hb_b3, z_b3_b2, y_b3_b2, hb_b4, z_b4_b3, y_b4_b3, z_b4_b2, y_b4_b2]
  obtain ⟨k, a1, c1, e1⟩ : ∃ k a1 c1, numS i 0 false = (k, a1, c1) := ⟨_, _, _, rfl⟩
  obtain ⟨d, a2, c2, e2⟩ : ∃ k a2 c2, textS i a1 c1 = (k, a2, c2) := ⟨_, _, _, rfl⟩
  obtain ⟨m, a3, c3, e3⟩ : ∃ k a3 c3, numS i a2 c2 = (k, a3, c3) := ⟨_, _, _, rfl⟩
  have l1 := numS_eq e1 (by omega) hi
  have l2 := textS_eq e2 l1 hi
  have l3 := numS_eq e3 l2 hi
  refine AC_of (srnum e1 (by simp only [H.set_base]; assumption) (H.set_get_same _ _ _) (by omega) (by omega)) ?_
  rintro _ _ - ⟨rfl, rfl⟩
  rw [H.set_set]
  simp -implicitDefEqProofs only [go_sem, hb_b2, hb_b3, z_b3_b2, y_b3_b2, hb_b4, z_b4_b3, y_b4_b3, z_b4_b2, y_b4_b2]
  intro b5 hb_b5 m0_b5
  obtain ⟨z_b5_b4, y_b5_b4, m1_b5⟩ := fne m0_b5
  obtain ⟨z_b5_b3, y_b5_b3, m2_b5⟩ := fne m1_b5
  obtain ⟨z_b5_b2, y_b5_b2, n_b5⟩ := fne m2_b5
  simp only [H.set_base] at hb_b5
  have y54 := of_eq_false y_b5_b4
  have z54 := of_eq_false z_b5_b4
  simp -implicitDefEqProofs only [go_sem, hb_b2, hb_b3, z_b3_b2, y_b3_b2, hb_b4, z_b4_b3, y_b4_b3, z_b4_b2, y_b4_b2, hb_b5, z_b5_b4, y_b5_b4, z_b5_b3, y_b5_b3, z_b5_b2, y_b5_b2]
  refine AC_of (srtext e2 (by simp only [H.set_base]; assumption) (by rw [H.set_get_ne _ _ _ _ y54]; exact H.set_get_same _ _ _) (by omega) (by omega)) ?_
  rintro _ _ - ⟨rfl, rfl⟩
  rw [set_over z54]
  simp -implicitDefEqProofs only [go_sem, hb_b2, hb_b3, z_b3_b2, y_b3_b2, hb_b4, z_b4_b3, y_b4_b3, z_b4_b2, y_b4_b2, hb_b5, z_b5_b4, y_b5_b4, z_b5_b3, y_b5_b3, z_b5_b2, y_b5_b2]
  refine AC_of (srnum e3 (by simp only [H.set_base]; assumption) (by first | exact H.set_get_same _ _ _ | (rw [H.set_get_ne _ _ _ _ y54]; exact H.set_get_same _ _ _)) (by omega) (by omega)) ?_
  rintro _ _ - ⟨rfl, rfl⟩
  rw [set_over z54]
  simp -implicitDefEqProofs only [go_sem, hb_b2, hb_b3, z_b3_b2, y_b3_b2, hb_b4, z_b4_b3, y_b4_b3, z_b4_b2, y_b4_b2, hb_b5, z_b5_b4, y_b5_b4, z_b5_b3, y_b5_b3, z_b5_b2, y_b5_b2]
  obtain ⟨N, hN⟩ : ∃ N, N = (min m 20).toNat := ⟨_, rfl⟩
  have z1 := of_eq_false z_b4_b2
  have z2 := of_eq_false z_b5_b2
  have z3 := of_eq_false z_b3_b2
  generalize hhB : (((h.set b2 ⟨_, _⟩).set b3 ⟨_, _⟩).set b4 ⟨_, _⟩).set b5 ⟨_, _⟩ = hB
  have B2 : hB.get b2 = some ⟨[i64 0, str [], nils, i64 0], 4⟩ := by rw [← hhB]; simp -implicitDefEqProofs only [go_sem, hb_b2, hb_b3, z_b3_b2, y_b3_b2, hb_b4, z_b4_b3, y_b4_b3, z_b4_b2, y_b4_b2, hb_b5, z_b5_b4, y_b5_b4, z_b5_b3, y_b5_b3, z_b5_b2, y_b5_b2]
  have B4 : hB.get b4 = some ⟨rdc i a3 c3, 3⟩ := by rw [← hhB]; simp -implicitDefEqProofs only [go_sem, hb_b2, hb_b3, z_b3_b2, y_b3_b2, hb_b4, z_b4_b3, y_b4_b3, z_b4_b2, y_b4_b2, hb_b5, z_b5_b4, y_b5_b4, z_b5_b3, y_b5_b3, z_b5_b2, y_b5_b2]
  have B5 : hB.get b5 = some ⟨[i64 k, str d, nils], 3⟩ := by rw [← hhB]; simp -implicitDefEqProofs only [go_sem, hb_b2, hb_b3, z_b3_b2, y_b3_b2, hb_b4, z_b4_b3, y_b4_b3, z_b4_b2, y_b4_b2, hb_b5, z_b5_b4, y_b5_b4, z_b5_b3, y_b5_b3, z_b5_b2, y_b5_b2]
  have eB : Ext h hB := by rw [← hhB]; exact (((((Ext.refl _).set' n_b2 _).set' n_b3 _).set' n_b4 _).set' n_b5 _)
  refine loopW_of (fun mm f h' => ∃ (j : Nat) (acc : List UStep) (a' : Nat) (bad' : Bool) (u : Value), mm + j = 20 ∧ f 0 = str t ∧ f 2 = ptr b2 0 ∧ f 4 = ptr b4 0 ∧ f 5 = ptr b5 0 ∧ f 6 = i64 m ∧ f 7 = i64 j ∧ Ext h h' ∧ h'.get b2 = some ⟨[i64 0, str [], nils, i64 0], 4⟩ ∧ h'.get b4 = some ⟨rdc i a' bad', 3⟩ ∧ h'.get b5 = some ⟨[i64 k, str d, u], 3⟩ ∧
      (∀ b, h'.get b = none → hB.get b = none) ∧ Own hB h' u 4 (acc.map UStep.cells) ∧ a' ≤ 8000 ∧ acc.length ≤ j ∧ j ≤ N ∧ (bad' = false → c3 = false ∧ rdS i N a3 = (acc ++ (rdS i (N - j) a').1, (rdS i (N - j) a').2)) ∧ (bad' = true → c3 = true ∨ (rdS i N a3).2.2 = true)) 20
    ⟨0, [], a3, c3, nils, by simp, by simp -implicitDefEqProofs only [go_sem, hb_b2, hb_b3, z_b3_b2, y_b3_b2, hb_b4, z_b4_b3, y_b4_b3, z_b4_b2, y_b4_b2, hb_b5, z_b5_b4, y_b5_b4, z_b5_b3, y_b5_b3, z_b5_b2, y_b5_b2], by simp -implicitDefEqProofs only [go_sem, hb_b2, hb_b3, z_b3_b2, y_b3_b2, hb_b4, z_b4_b3, y_b4_b3, z_b4_b2, y_b4_b2, hb_b5, z_b5_b4, y_b5_b4, z_b5_b3, y_b5_b3, z_b5_b2, y_b5_b2], by simp -implicitDefEqProofs only [go_sem, hb_b2, hb_b3, z_b3_b2, y_b3_b2, hb_b4, z_b4_b3, y_b4_b3, z_b4_b2, y_b4_b2, hb_b5, z_b5_b4, y_b5_b4, z_b5_b3, y_b5_b3, z_b5_b2, y_b5_b2], by simp -implicitDefEqProofs only [go_sem, hb_b2, hb_b3, z_b3_b2, y_b3_b2, hb_b4, z_b4_b3, y_b4_b3, z_b4_b2, y_b4_b2, hb_b5, z_b5_b4, y_b5_b4, z_b5_b3, y_b5_b3, z_b5_b2, y_b5_b2], by simp -implicitDefEqProofs only [go_sem, hb_b2, hb_b3, z_b3_b2, y_b3_b2, hb_b4, z_b4_b3, y_b4_b3, z_b4_b2, y_b4_b2, hb_b5, z_b5_b4, y_b5_b4, z_b5_b3, y_b5_b3, z_b5_b2, y_b5_b2], by simp -implicitDefEqProofs only [go_sem, hb_b2, hb_b3, z_b3_b2, y_b3_b2, hb_b4, z_b4_b3, y_b4_b3, z_b4_b2, y_b4_b2, hb_b5, z_b5_b4, y_b5_b4, z_b5_b3, y_b5_b3, z_b5_b2, y_b5_b2]; rfl, eB, B2, B4, B5, fun _ e => e, Own.nil _ _ _, l3, by simp, Nat.zero_le _, fun h => ⟨h, by simp⟩, fun h => .inl h⟩ ?_
  clear hhB
  skip
  rintro mm f h' ⟨j, acc, a', bad', u, hmj, f0, f2, f4, f5, f6, f7, he, g2, g4, g5, hno, ho, la, lc, hjN, hF, hT⟩
  obtain ⟨au, cu, rfl⟩ := ho.shape
  rw [List.length_map] at ho g5
  have hb2' : h'.base ≤ b2 := by rw [he.1]; exact hb_b2
  have hb4' : h'.base ≤ b4 := by rw [he.1]; exact hb_b4
  have hb5' : h'.base ≤ b5 := by rw [he.1]; exact hb_b5
  skip
  have fbad : pkgIn i = none → ∀ hq, Ext h hq → Ext h hq ∧ ∃ cs, (Value.agg #[i64 0, str [], nils, i64 3]) = .agg cs.toArray ∧ RepF h hq (spPo (match pkgIn i with | some p => (p, (0 : Int)) | none => (pkg0, 3))) cs := fun hp hq eq => by
    rw [hp]
    exact ⟨eq, _, rfl, po_none⟩
  by_cases hgo : j < N ∧ bad' = false
  rotate_left
  · cases bad' with
    | true =>
      have hp := pkS_bad e1 e2 e3 hN (hT rfl)
      by_cases q1 : (j : Int) < m
      · by_cases q2 : (j : Int) < 20
        · simp -implicitDefEqProofs only [go_sem, q1, q2, ldc_get g4, f0, f2, f4, f5, f6, f7]
          refine (l08Ill_pc _ 3).use ?_
          simp -implicitDefEqProofs only [go_sem, ldc_get g2, stc_get g2, hb2', f0, f2, f4, f5, f6, f7]
          exact fbad hp _ (he.set' n_b2 _)
        · simp -implicitDefEqProofs only [go_sem, q1, q2, ldc_get g4, f0, f2, f4, f5, f6, f7]
          refine (l08Ill_pc _ 3).use ?_
          simp -implicitDefEqProofs only [go_sem, ldc_get g2, stc_get g2, hb2', f0, f2, f4, f5, f6, f7]
          exact fbad hp _ (he.set' n_b2 _)
      · simp -implicitDefEqProofs only [go_sem, q1, ldc_get g4, f0, f2, f4, f5, f6, f7]
        refine (l08Ill_pc _ 3).use ?_
        simp -implicitDefEqProofs only [go_sem, ldc_get g2, stc_get g2, hb2', f0, f2, f4, f5, f6, f7]
        exact fbad hp _ (he.set' n_b2 _)
    | false =>
      have hj : j = N := by
        rcases Nat.lt_or_ge j N with x | x
        · exact absurd ⟨x, rfl⟩ hgo
        · omega
      obtain ⟨rfl, hr⟩ := hF rfl
      rw [hj, Nat.sub_self, rdS_0] at hr
      simp only [List.append_nil] at hr
      obtain ⟨rfl, q3⟩ := numS_inv e3
      obtain ⟨rfl, q2⟩ := textS_inv e2
      obtain ⟨_, q1⟩ := numS_inv e1
      have hpk := pkS hu q1 q2 q3 hN hr
      have st3 : Sl h' (.slice au acc.length cu) 4 (acc.map UStep.cells) := ho.sl
      have hpo : UPkg.ok ⟨k, d, acc⟩ := by
        obtain ⟨_, _, m3, _⟩ := getN_ok q3
        obtain ⟨_, _, _, l4⟩ := rdS_ok i N a3 a' acc m3 hr
        have := show maxLen = 9223372036854775807 from rfl
        exact ⟨(getN_ok q1).2.2.2, by have := (getT_ok q2).2.2.2; simp only; omega, by simp only; omega, fun s hs => (l4 s hs).1⟩
      have stop : ¬ ((j : Int) < m ∧ (j : Int) < 20) := by omega
      have fin : ∀ {Q : Prop}, ((j : Int) < m → (j : Int) < 20 → Q) → ((j : Int) < m → ¬ (j : Int) < 20 → Q) → (¬ (j : Int) < m → Q) → Q := fun h1 h2 h3 => by
        by_cases x : (j : Int) < m
        · by_cases y : (j : Int) < 20
          · exact h1 x y
          · exact h2 x y
        · exact h3 x
      by_cases hq : pkgBytes ⟨k, d, acc⟩ = t
      · rw [if_pos hq] at hpk
        have hne : (pkgBytes ⟨k, d, acc⟩ ≠ t) = False := eq_false fun h => h hq
        have hde : decide (pkgBytes ⟨k, d, acc⟩ = t) = true := decide_eq_true hq
        refine fin (fun x y => absurd ⟨x, y⟩ stop) (fun x y => ?_) (fun x => ?_)
        · simp -implicitDefEqProofs only [go_sem, x, y, ldc_get g4, ldc_get g5, f0, f2, f4, f5, f6, f7]
          refine PC.use (specPackageBytes_pc (p := ⟨k, d, acc⟩) (pkg_r.2 ⟨_, rfl, st3⟩) (by simp only; omega) hpo) ?_
          simp -implicitDefEqProofs only [go_sem, hne, hde, ldc_get g5, ldc_get g2, stc_get g2, hb2', f0, f2, f4, f5, f6, f7]
          rw [hpk]
          exact ⟨he.set' n_b2 _, _, rfl, po_f.2 ⟨_, rfl, ((Own.set0 ho (b := b2) (by rw [B2]; simp) _).fre).back eB⟩⟩
        · simp -implicitDefEqProofs only [go_sem, x, ldc_get g4, ldc_get g5, f0, f2, f4, f5, f6, f7]
          refine PC.use (specPackageBytes_pc (p := ⟨k, d, acc⟩) (pkg_r.2 ⟨_, rfl, st3⟩) (by simp only; omega) hpo) ?_
          simp -implicitDefEqProofs only [go_sem, hne, hde, ldc_get g5, ldc_get g2, stc_get g2, hb2', f0, f2, f4, f5, f6, f7]
          rw [hpk]
          exact ⟨he.set' n_b2 _, _, rfl, po_f.2 ⟨_, rfl, ((Own.set0 ho (b := b2) (by rw [B2]; simp) _).fre).back eB⟩⟩
      · rw [if_neg hq] at hpk
        refine fin (fun x y => absurd ⟨x, y⟩ stop) (fun x y => ?_) (fun x => ?_)
        · simp -implicitDefEqProofs only [go_sem, x, y, ldc_get g4, ldc_get g5, f0, f2, f4, f5, f6, f7]
          refine PC.use (specPackageBytes_pc (p := ⟨k, d, acc⟩) (pkg_r.2 ⟨_, rfl, st3⟩) (by simp only; omega) hpo) ?_
          simp -implicitDefEqProofs only [go_sem, hq, f0, f2, f4, f5, f6, f7]
          refine (l08Ill_pc _ 3).use ?_
          simp -implicitDefEqProofs only [go_sem, ldc_get g2, stc_get g2, hb2', f0, f2, f4, f5, f6, f7]
          exact fbad hpk _ (he.set' n_b2 _)
        · simp -implicitDefEqProofs only [go_sem, x, ldc_get g4, ldc_get g5, f0, f2, f4, f5, f6, f7]
          refine PC.use (specPackageBytes_pc (p := ⟨k, d, acc⟩) (pkg_r.2 ⟨_, rfl, st3⟩) (by simp only; omega) hpo) ?_
          simp -implicitDefEqProofs only [go_sem, hq, f0, f2, f4, f5, f6, f7]
          refine (l08Ill_pc _ 3).use ?_
          simp -implicitDefEqProofs only [go_sem, ldc_get g2, stc_get g2, hb2', f0, f2, f4, f5, f6, f7]
          exact fbad hpk _ (he.set' n_b2 _)
  obtain ⟨hjm, rfl⟩ := hgo
  obtain ⟨hc3, hr⟩ := hF rfl
  obtain ⟨M, hM⟩ : ∃ M, N - j = M + 1 := ⟨N - j - 1, by omega⟩
  rw [hM] at hr
  obtain ⟨w, e, bd, hw⟩ : ∃ w e bd, textI i a' false = (w, e, bd) := ⟨_, _, _, rfl⟩
  have hwS : textS i a' false = (w, e, bd) := by rw [textS_I]; exact hw
  have le := textI_eq (B := 8000) hw la hi
  have lw : w.length ≤ 8000 := by
    unfold textI at hw
    split at hw
    · rename_i q
      simp only [Prod.mk.injEq] at hw
      have := (getT_ok (x := (getT i a').1) (e := (getT i a').2.1) (t := i) (a := a') (Prod.ext rfl (Prod.ext rfl q))).2.2.2
      rw [hw.1] at this; exact this
    · simp only [Prod.mk.injEq] at hw; rw [← hw.1]; simp
  simp -implicitDefEqProofs only [go_sem, show (j : Int) < m by omega, show (j : Int) < 20 by omega, ldc_get g4, f0, f2, f4, f5, f6, f7]
  refine AC_of (srtext hwS hb4' g4 (by omega) (by omega)) ?_
  rintro _ _ - ⟨rfl, rfl⟩
  simp -implicitDefEqProofs only [go_sem, f0, f2, f4, f5, f6, f7]
  refine (specStepRead_pc _ w (by have := show maxLen = 9223372036854775807 from rfl; omega)).use ?_
  have w54 : b5 ≠ b4 := fun q => y54 q.symm
  have w62 : b4 ≠ b2 := z1
  have w72 : b5 ≠ b2 := z2
  have z54' : (b5 = b4) = False := eq_false w54
  have z45' : (b4 = b5) = False := eq_false y54
  have n2 : hB.get b2 ≠ none := by rw [B2]; simp
  have n6 : hB.get b4 ≠ none := by rw [B4]; simp
  have n7 : hB.get b5 ≠ none := by rw [B5]; simp
  cases hs : stepR w with
  | some s =>
    have hbd := textI_nobad hw hs
    subst hbd
    have hgo := rdS_go (n := M) hw hs
    rw [hgo] at hr
    have hso : stepOut w = (s, 0) := by unfold stepOut; rw [if_neg (by omega), hs]
    rw [hso]
    simp -implicitDefEqProofs only [go_sem, f0, f2, f4, f5, f6, f7]
    intro b8 hb8 n9
    obtain ⟨z9, y9, n9'⟩ := fne n9
    have v79 : (b5 = b8) = False := eq_false fun q => by rw [q, n9'] at g5; cases g5
    have u29 : b2 ≠ b8 := fun q => by rw [q, n9'] at g2; cases g2
    have u69 : b4 ≠ b8 := fun q => by rw [q, n9'] at g4; cases g4
    have u79 : b5 ≠ b8 := of_eq_false v79
    simp only [H.set_base] at hb8
    simp -implicitDefEqProofs only [go_sem, z54', z45', z9, y9, v79, ldc_get g5, hb8, hb4', f0, f2, f4, f5, f6, f7]
    intro bx hbx nx
    obtain ⟨_, _, nx1⟩ := fne nx
    obtain ⟨_, _, nx'⟩ := fne nx1
    simp -implicitDefEqProofs only [go_sem, hbx, f0, f2, f4, f5, f6, f7]
    have ee : Ext h ((h'.set b4 ⟨rdc i e false, 3⟩).set b8 ⟨outC (s, 0), 5⟩) := (he.set' n_b4 _).set' (he.none n9') _
    refine appW_keep (h0 := hB) (rows := acc.map UStep.cells) (new := [UStep.cells s]) (none_set (none_set (none_set hno _ _) _ _) _ _) (((Own.set0 ho n6 _).ext ((Ext.refl _).set (by rw [H.set_get_ne _ _ _ _ u69.symm]; exact n9') _)).ext ((Ext.refl _).set nx _)) (by simp -implicitDefEqProofs only [go_sem, f0, f2, f4, f5, f6, f7]; rfl) (by intro r hr; simp at hr; subst hr; rfl) rfl (by simp; omega) ?_
    intro v' h2 k2 o2
    obtain ⟨av, cv, rfl⟩ := o2.shape
    have x1 : b2 ≠ bx := fun q => by rw [q, nx'] at g2; cases g2
    have x2 : b4 ≠ bx := fun q => by rw [q, nx'] at g4; cases g4
    have x3 : b5 ≠ bx := fun q => by rw [q, nx'] at g5; cases g5
    have p2 := k2.2.1 b2 _ n2 (by rw [H.set_get_ne _ _ _ _ x1, H.set_get_ne _ _ _ _ u29, H.set_get_ne _ _ _ _ (Ne.symm w62)]; exact g2)
    have p4 := k2.2.1 b4 _ n6 (by rw [H.set_get_ne _ _ _ _ x2, H.set_get_ne _ _ _ _ u69]; exact H.set_get_same _ _ _)
    have p5 := k2.2.1 b5 _ n7 (by rw [H.set_get_ne _ _ _ _ x3, H.set_get_ne _ _ _ _ u79, H.set_get_ne _ _ _ _ w54]; exact g5)
    have e2' := k2.ext (ee.set nx _) (fun b hb => eB.none hb) (fun _ h => h.elim)
    have hb2 : h2.base = h'.base := by rw [k2.1]; simp only [H.set_base]
    simp -implicitDefEqProofs only [go_sem, stc_get p5, hb2, hb5', wrap_i64 (show -(9223372036854775808 : Int) ≤ ((j : Int) + 1) by omega) (show ((j : Int) + 1) < 9223372036854775808 by omega), f0, f2, f4, f5, f6, f7]
    exact ⟨mm - 1, by omega, _, Ext.refl _, j + 1, acc ++ [s], e, false, _, by omega, rfl, e2'.set' n_b5 _, by rw [H.set_get_ne _ _ _ _ (Ne.symm w72)]; exact p2, by rw [H.set_get_ne _ _ _ _ (Ne.symm w54)]; exact p4, H.set_get_same _ _ _,
      none_set (fun b hb => none_set (none_set (none_set hno _ _) _ _) _ _ b (k2.none hb)) _ _, by simpa using Own.set0 o2 n7 _, le, by simp; omega, by omega, fun _ => ⟨hc3, by rw [hr, show N - (j + 1) = M by omega]; simp⟩, fun h => by cases h⟩
  | none =>
    have hgo := rdS_bad (n := M) hw hs
    rw [hgo] at hr
    have hso : stepOut w = (step0, 3) := by unfold stepOut; rw [if_neg (by omega), hs]
    rw [hso]
    simp -implicitDefEqProofs only [go_sem, f0, f2, f4, f5, f6, f7]
    intro b8 hb8 n9
    obtain ⟨z9, y9, n9'⟩ := fne n9
    have v79 : (b5 = b8) = False := eq_false fun q => by rw [q, n9'] at g5; cases g5
    have u29 : b2 ≠ b8 := fun q => by rw [q, n9'] at g2; cases g2
    have u69 : b4 ≠ b8 := fun q => by rw [q, n9'] at g4; cases g4
    have u79 : b5 ≠ b8 := of_eq_false v79
    simp only [H.set_base] at hb8
    cases bd
    all_goals
    simp -implicitDefEqProofs only [go_sem, z54', z45', z9, y9, v79, ldc_get g5, hb8, hb4', f0, f2, f4, f5, f6, f7]
    intro bx hbx nx
    obtain ⟨_, _, nx1⟩ := fne nx
    obtain ⟨_, _, nx'⟩ := fne nx1
    simp -implicitDefEqProofs only [go_sem, hbx, f0, f2, f4, f5, f6, f7]
    have ee : Ext h ((h'.set b4 ⟨rdc i e true, 3⟩).set b8 ⟨outC (step0, 3), 5⟩) := (he.set' n_b4 _).set' (he.none n9') _
    refine appW_keep (h0 := hB) (rows := acc.map UStep.cells) (new := [UStep.cells step0]) (none_set (none_set (none_set hno _ _) _ _) _ _) (((Own.set0 ho n6 _).ext ((Ext.refl _).set (by rw [H.set_get_ne _ _ _ _ u69.symm]; exact n9') _)).ext ((Ext.refl _).set nx _)) (by simp -implicitDefEqProofs only [go_sem, f0, f2, f4, f5, f6, f7]; rfl) (by intro r hr; simp at hr; subst hr; rfl) rfl (by simp; omega) ?_
    intro v' h2 k2 o2
    obtain ⟨av, cv, rfl⟩ := o2.shape
    have x1 : b2 ≠ bx := fun q => by rw [q, nx'] at g2; cases g2
    have x2 : b4 ≠ bx := fun q => by rw [q, nx'] at g4; cases g4
    have x3 : b5 ≠ bx := fun q => by rw [q, nx'] at g5; cases g5
    have p2 := k2.2.1 b2 _ n2 (by rw [H.set_get_ne _ _ _ _ x1, H.set_get_ne _ _ _ _ u29, H.set_get_ne _ _ _ _ (Ne.symm w62)]; exact g2)
    have p4 := k2.2.1 b4 _ n6 (by rw [H.set_get_ne _ _ _ _ x2, H.set_get_ne _ _ _ _ u69]; exact H.set_get_same _ _ _)
    have p5 := k2.2.1 b5 _ n7 (by rw [H.set_get_ne _ _ _ _ x3, H.set_get_ne _ _ _ _ u79, H.set_get_ne _ _ _ _ w54]; exact g5)
    have e2' := k2.ext (ee.set nx _) (fun b hb => eB.none hb) (fun _ h => h.elim)
    have hb2 : h2.base = h'.base := by rw [k2.1]; simp only [H.set_base]
    simp -implicitDefEqProofs only [go_sem, stc_get p5, hb2, hb5', wrap_i64 (show -(9223372036854775808 : Int) ≤ ((j : Int) + 1) by omega) (show ((j : Int) + 1) < 9223372036854775808 by omega), f0, f2, f4, f5, f6, f7]
    exact ⟨mm - 1, by omega, _, Ext.refl _, j + 1, acc ++ [step0], e, true, _, by omega, rfl, e2'.set' n_b5 _, by rw [H.set_get_ne _ _ _ _ (Ne.symm w72)]; exact p2, by rw [H.set_get_ne _ _ _ _ (Ne.symm w54)]; exact p4, H.set_get_same _ _ _,
      none_set (fun b hb => none_set (none_set (none_set hno _ _) _ _) _ _ b (k2.none hb)) _ _, by simpa using Own.set0 o2 n7 _, le, by simp; omega, by omega, fun h => (by cases h), fun _ => .inr (by rw [hr])⟩
end Go.Proofs.YthjbhdmjfakfaaaGreatDoor
