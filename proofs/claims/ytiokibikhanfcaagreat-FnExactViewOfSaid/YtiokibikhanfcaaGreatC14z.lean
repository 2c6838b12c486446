/- A helper of this seat's claims (contracts of the functions): what it shows is shown for every input that its statements name, on no other condition. -/
import Derived.Test.YtiokibikhanfcaaGreatC14w
import Derived.Test.YtiokibikhanfcaaGreatMC14m
set_option linter.unusedVariables false
set_option linter.unusedSimpArgs false
set_option maxRecDepth 100000
namespace Go.Proofs.YtiokibikhanfcaaGreat
open Go.KH

noncomputable def viewMOut (m : UMach) : List (List UInt8) × Int := match stM m with | some s => (if rightOut m = true then (viewM m s, 0) else ([], 1)) | none => ([], 1)
theorem viewMOut_len (m : UMach) : (viewMOut m).1.length ≤ 8 := by
  unfold viewMOut
  split
  · split
    · rename_i h
      obtain ⟨s, _, hf, _⟩ := right_of h
      rw [viewM_len]
      exact (baseOf_len hf).1
    · simp
  · simp
/-- impl.ViewOf -/
def b_impl_ViewOf : C := (.seq (.ops [⟨(some 1), none, .box (.t 0)⟩, ⟨(some 2), none, .alloc [nils, (i64 0)]⟩])
 (.seq (.seq (.ops [q 3 (.ld true 3 (.t 1)), ⟨(some 4), none, .call (.c (.func (.func 52) #[] #[])) [(.t 3)]⟩, q 5 (.un .not (.t 4))])
 (.cond (.t 5) (.seq (.ops [q 6 (.build [nils, (i64 0)] [(1, 1, (.c (i64 1)))]), ⟨none, none, .st 2 (.t 2) (.t 6)⟩])
 .ret) .skip))
 (.seq (.ops [q 7 (.ld true 3 (.t 1)), ⟨(some 8), none, .call (.c (.func (.func 66) #[] #[])) [(.t 7)]⟩, q 9 (.build [nils, (i64 0)] [(0, 1, (.t 8))]), ⟨none, none, .st 2 (.t 2) (.t 9)⟩])
 .ret)))
theorem w_impl_ViewOf {args : List Value} {h : H} {Q : Value → H → Prop} (hl : args.length ≤ 10) (hk : wpc Tryz.prog b_impl_ViewOf (retw [.cell 2 true 2] Q) (argsFr args) h) : AC Tryz.prog 34 args h Q :=
  AC.of_wpc mixedOrders Tryz.func34 (by kernel_rfl) (by kernel_rfl : prepF Tryz.prog Tryz.f34 = some ⟨10, [.cell 2 true 2], b_impl_ViewOf⟩) hl hk

theorem implViewOf_ac {h : H} {cs : List Value} {m : UMach} (hv : RepR h (spMach m) cs) (hs : m.flash.fin1) : AC Tryz.prog 34 [.agg cs.toArray] h fun r h' => Ext h h' ∧ ∃ cs', r = .agg cs'.toArray ∧ RepF h h' (spImg (viewMOut m)) cs' := by
  have l1 := hv.len
  simp only [List.length_cons, List.length_nil, Nat.reduceAdd] at l1
  have t1 := take_len l1
  have o1 := hv.one
  have bad : rightOut m = false → viewMOut m = ([], 1) := fun h => by
    unfold viewMOut
    split
    · rw [if_neg (by rw [h]; simp)]
    · rfl
  skip
  refine w_impl_ViewOf (by simp) ?_
  unfold b_impl_ViewOf
  simp -implicitDefEqProofs only [go_sem, l1, t1, o1]
  intro b1 hb_b1 n_b1
  simp -implicitDefEqProofs only [go_sem, l1, t1, o1, hb_b1]
  intro b2 hb_b2 m0_b2
  obtain ⟨z_b2_b1, y_b2_b1, n_b2⟩ := fne m0_b2
  simp only [H.set_base] at hb_b2
  simp -implicitDefEqProofs only [go_sem, l1, t1, o1, hb_b1, hb_b2, z_b2_b1, y_b2_b1]
  refine (isMachine_pc (hv.ext (((Ext.refl _).set' n_b1 _).set' n_b2 _)) hs).use ?_
  cases hR : rightOut m with
  | false =>
    rw [bad hR]
    simp -implicitDefEqProofs only [go_sem, l1, t1, o1, hb_b1, hb_b2, z_b2_b1, y_b2_b1]
    exact ⟨(((Ext.refl _).set' n_b1 _).set' n_b2 _), _, rfl, img_none⟩
  | true =>
    obtain ⟨s, hst, hf, hok, hi, hsd⟩ := right_of hR
    have e : viewMOut m = (viewM m s, 0) := by unfold viewMOut; rw [hst]; simp only; rw [if_pos hR]
    rw [e]
    simp -implicitDefEqProofs only [go_sem, l1, t1, o1, hb_b1, hb_b2, z_b2_b1, y_b2_b1]
    refine AC_of (view_ac (hv.ext (((Ext.refl _).set' n_b1 _).set' n_b2 _)) hs hst hi hsd) ?_
    rintro v3 h3 - ⟨e3, ow⟩
    have g2 := e3.2.g b2 _ (by simp -implicitDefEqProofs only [go_sem, l1, t1, o1, hb_b1, hb_b2, z_b2_b1, y_b2_b1]; rfl)
    have hbb := e3.1
    simp only [H.set_base] at hbb
    simp -implicitDefEqProofs only [go_sem, ow.sl.vcl, ow.sl.one, stc_get g2, hbb, l1, t1, o1, hb_b1, hb_b2, z_b2_b1, y_b2_b1]
    exact ⟨(((((Ext.refl _).set' n_b1 _).set' n_b2 _)).trans e3).set' n_b2 _, _, rfl, img_f.2 ⟨v3, rfl, (ow.set (b := b2) (H.set_get_same _ _ _) _).back (((Ext.refl _).set' n_b1 _).set' n_b2 _)⟩⟩
/-- spec.ViewOf -/
def b_spec_ViewOf : C := (.seq (.ops [⟨(some 1), none, .box (.t 0)⟩, ⟨(some 2), none, .alloc [nils, (i64 0)]⟩])
 (.seq (.seq (.ops [q 5 (.ld true 3 (.t 1)), ⟨(some 6), none, .call (.c (.func (.func 49) #[] #[])) [(.t 5)]⟩, q 7 (.un .not (.t 6))])
 (.cond (.t 7) (.seq (.ops [⟨(some 8), none, .call (.c (.func (.func 50) #[] #[])) [(.c (i64 1))]⟩, ⟨none, none, .st 2 (.t 2) (.t 8)⟩])
 .ret) .skip))
 (.seq (.ops [q 10 (.ld true 3 (.t 1)), ⟨(some 11), none, .call (.c (.func (.func 41) #[] #[])) [(.t 10)]⟩, q 9 (.mv (.t 11)), q 12 (.ext 0 (.t 9)), q 13 (.ext 1 (.t 9)), ⟨(some 3), none, .alloc [(i64 0), (i64 0), (i64 0), (i64 0), (i64 0), (str []), nils, nils]⟩, ⟨none, none, .st 8 (.t 3) (.t 12)⟩, q 4 (.mv (.t 13))])
 (.seq (.ops [q 14 (.ld true 3 (.t 1)), q 15 (.ld true 8 (.t 3)), ⟨(some 16), none, .call (.c (.func (.func 65) #[] #[])) [(.t 14), (.t 15)]⟩, q 17 (.build [nils, (i64 0)] [(0, 1, (.t 16))]), ⟨none, none, .st 2 (.t 2) (.t 17)⟩])
 .ret))))
theorem w_spec_ViewOf {args : List Value} {h : H} {Q : Value → H → Prop} (hl : args.length ≤ 18) (hk : wpc Tryz.prog b_spec_ViewOf (retw [.cell 2 true 2] Q) (argsFr args) h) : AC Tryz.prog 33 args h Q :=
  AC.of_wpc mixedOrders Tryz.func33 (by kernel_rfl) (by kernel_rfl : prepF Tryz.prog Tryz.f33 = some ⟨18, [.cell 2 true 2], b_spec_ViewOf⟩) hl hk

theorem specViewOf_ac {h : H} {cs : List Value} {m : UMach} (hv : RepR h (spMach m) cs) (hs : m.flash.fin1) : AC Tryz.prog 33 [.agg cs.toArray] h fun r h' => Ext h h' ∧ ∃ cs', r = .agg cs'.toArray ∧ RepF h h' (spImg (viewMOut m)) cs' := by
  have l1 := hv.len
  simp only [List.length_cons, List.length_nil, Nat.reduceAdd] at l1
  have t1 := take_len l1
  have o1 := hv.one
  have bad : rightOut m = false → viewMOut m = ([], 1) := fun h => by
    unfold viewMOut
    split
    · rw [if_neg (by rw [h]; simp)]
    · rfl
  skip
  refine w_spec_ViewOf (by simp) ?_
  unfold b_spec_ViewOf
  simp -implicitDefEqProofs only [go_sem, l1, t1, o1]
  intro b1 hb_b1 n_b1
  simp -implicitDefEqProofs only [go_sem, l1, t1, o1, hb_b1]
  intro b2 hb_b2 m0_b2
  obtain ⟨z_b2_b1, y_b2_b1, n_b2⟩ := fne m0_b2
  simp only [H.set_base] at hb_b2
  simp -implicitDefEqProofs only [go_sem, l1, t1, o1, hb_b1, hb_b2, z_b2_b1, y_b2_b1]
  refine (specMachineRight_pc (hv.ext (((Ext.refl _).set' n_b1 _).set' n_b2 _)) hs).use ?_
  cases hR : rightOut m with
  | false =>
    rw [bad hR]
    simp -implicitDefEqProofs only [go_sem, l1, t1, o1, hb_b1, hb_b2, z_b2_b1, y_b2_b1]
    refine (l07Ill_pc _ _).use ?_
    simp -implicitDefEqProofs only [go_sem, l1, t1, o1, hb_b1, hb_b2, z_b2_b1, y_b2_b1]
    exact ⟨(((Ext.refl _).set' n_b1 _).set' n_b2 _), _, rfl, img_none⟩
  | true =>
    obtain ⟨s, hst, hf, hok, hi, hsd⟩ := right_of hR
    have e : viewMOut m = (viewM m s, 0) := by unfold viewMOut; rw [hst]; simp only; rw [if_pos hR]
    rw [e]
    simp -implicitDefEqProofs only [go_sem, l1, t1, o1, hb_b1, hb_b2, z_b2_b1, y_b2_b1]
    refine AC_of (l13State_ac (hv.ext (((Ext.refl _).set' n_b1 _).set' n_b2 _)) hs) ?_
    rintro _ h2 - ⟨e2, cs2, rfl, F2⟩
    rw [hst] at F2
    simp only [Option.getD_some] at F2
    have l2 := F2.r.len
    have t2 := take_len l2
    have o2 := F2.r.one
    have g1 := e2.2.g b1 _ (by simp -implicitDefEqProofs only [go_sem, l1, t1, o1, hb_b1, hb_b2, z_b2_b1, y_b2_b1]; rfl)
    have g2 := e2.2.g b2 _ (by simp -implicitDefEqProofs only [go_sem, l1, t1, o1, hb_b1, hb_b2, z_b2_b1, y_b2_b1]; rfl)
    have n2 := n_b2
    have hbb : h2.base ≤ b2 := by rw [e2.1]; simp only [H.set_base]; exact hb_b2
    have E2 := ((((Ext.refl _).set' n_b1 _).set' n_b2 _)).trans e2
    skip
    simp -implicitDefEqProofs only [go_sem, l2, t2, o2, l1, t1, o1]
    intro b3 hb3 n3
    have z31 : (b1 = b3) = False := eq_false fun e => by rw [← e, g1] at n3; cases n3
    have z32 : (b2 = b3) = False := eq_false fun e => by rw [← e, g2] at n3; cases n3
    have e3 := (Ext.refl h2).set n3 ⟨cs2, 8⟩
    have E3 := E2.trans e3
    have G2 := e3.2.g b2 _ g2
    have hb3b : (h2.set b3 ⟨cs2, 8⟩).base ≤ b2 := by rw [H.set_base]; exact hbb
    simp -implicitDefEqProofs only [go_sem, l2, t2, o2, hb3, z31, ldc_get g1, l1, t1, o1]
    generalize hH : h2.set b3 ⟨cs2, 8⟩ = hS at e3 E3 G2 hb3b ⊢
    refine AC_of (l14View_ac (hv.ext E3) hf (F2.r.ext e3) hok hi hsd) ?_
    rintro v6 h6 - ⟨e6, ow⟩
    have g26 := e6.2.g b2 _ G2
    have hb6 : h6.base ≤ b2 := by rw [e6.1]; exact hb3b
    simp -implicitDefEqProofs only [go_sem, ow.sl.vcl, ow.sl.one, stc_get g26, hb6, l1, t1, o1]
    exact ⟨(E3.trans e6).set' n2 _, _, rfl, img_f.2 ⟨v6, rfl, (ow.set (b := b2) G2 _).back E3⟩⟩
end Go.Proofs.YtiokibikhanfcaaGreat
