/- A helper of this seat's claims (contracts of the functions): what it shows is shown for every input that its statements name, on no other condition. -/
import Derived.Test.YtdofcojbjcpikaaGreatDoorC0
import Derived.Test.YtdofcojbjcpikaaGreatDoorCS
import Derived.Test.YtdofcojbjcpikaaGreatDoorC15x
import Derived.Test.YtdofcojbjcpikaaGreatDoorC15r
import Derived.Test.YtdofcojbjcpikaaGreatDoorC15h
set_option linter.unusedVariables false
set_option linter.unusedSimpArgs false
set_option maxRecDepth 100000
namespace Go.Proofs.YtdofcojbjcpikaaGreatDoor
open Go.KH

/-! ## slices.Equal -/
end Go.Proofs.YtdofcojbjcpikaaGreatDoor

set_option linter.unusedVariables false
set_option linter.unusedSimpArgs false
set_option maxRecDepth 100000
namespace Go.Proofs.YtdofcojbjcpikaaGreatDoor
open Go.KH

/-! ## Ideals alike, views -/
theorem take_eq {α : Type} {a b : List α} (h : a.length = b.length) (ht : a.take a.length = b.take a.length) : a = b := by rw [List.take_length, h, List.take_length] at ht; exact ht
theorem take_next {α : Type} {a b : List α} {k : Nat} (ha : k < a.length) (hb : k < b.length) (ht : a.take k = b.take k) : a.take (k + 1) = b.take (k + 1) ↔ a[k] = b[k] := by
  rw [List.take_succ_eq_append_getElem ha, List.take_succ_eq_append_getElem hb, ht]
  exact ⟨fun h => (List.cons.inj (List.append_cancel_left h)).1, fun h => by rw [h]⟩
noncomputable def idealView (i : UIdeal) : List (List UInt8) := if i.phase = 4 then applyB i.base i.steps else i.base
noncomputable def viewOut (i : UIdeal) : List (List UInt8) := if idealOk i then idealView i else []
theorem viewOut_small {i : UIdeal} (hs : i.small) : (viewOut i).length ≤ 1048576 := by
  have := hs.1
  unfold viewOut idealView
  split
  · split
    · rw [applyB_len]; exact this
    · exact this
  · simp
/-- (impl.Ideal).view -/
def b_impl_Ideal_view : C := (.seq (.ops [⟨(some 1), none, .box (.t 0)⟩, q 2 (.mv (.c nils))])
 (.seq (.seq (.ops [q 3 (.fld 0 (.t 1)), q 4 (.ld false 1 (.t 3)), q 5 (.bin .eql (.t 4) (.c (i64 4)))])
 (.cond (.t 5) (.seq (.ops [q 6 (.fld 7 (.t 1)), q 7 (.ld false 1 (.t 6)), q 8 (.fld 8 (.t 1)), q 9 (.ld false 1 (.t 8)), ⟨(some 10), none, .call (.c (.func (.func 99) #[] #[])) [(.t 7), (.t 9)]⟩, q 2 (.mv (.t 10))])
 .ret) .skip))
 (.seq (.ops [q 11 (.fld 7 (.t 1)), q 12 (.ld false 1 (.t 11)), ⟨(some 13), none, .call (.c (.func (.func 134) #[] #[])) [(.t 12)]⟩, q 2 (.mv (.t 13))])
 .ret)))
theorem w_impl_Ideal_view {args : List Value} {h : H} {Q : Value → H → Prop} (hl : args.length ≤ 14) (hk : wpc Tryz.prog b_impl_Ideal_view (retw [.tmp 2] Q) (argsFr args) h) : AC Tryz.prog 139 args h Q :=
  AC.of_wpc mixedOrders Tryz.func139 (by kernel_rfl) (by kernel_rfl : prepF Tryz.prog Tryz.f139 = some ⟨14, [.tmp 2], b_impl_Ideal_view⟩) hl hk

theorem view_ac {h : H} {cs : List Value} {i : UIdeal} (hv : RepR h (spIdeal i) cs) (hs : i.small) (hok : idealOk i) : AC Tryz.prog 139 [.agg cs.toArray] h fun r h' => Ext h h' ∧ Fre h h' r 1 (strs (idealView i)) := by
  have himg := hok.2.1
  have hst : i.phase = 4 → ∀ s ∈ i.steps, stepOk s i.base.length := fun h4 => by
    have h5 := hok.2.2.2
    rw [if_neg (by omega)] at h5
    exact (code_zero h5.1.2.2.2.2.1).1.2.2
  obtain ⟨vb, vs, rfl, sb, ss⟩ := ideal_r.1 hv
  obtain ⟨hs1, hs2⟩ := hs
  unfold idealView
  refine w_impl_Ideal_view (by simp) ?_
  unfold b_impl_Ideal_view
  simp -implicitDefEqProofs only [go_sem, sb.one, ss.one]
  intro b1 hb_b1 n_b1
  by_cases h4 : i.phase = 4
  · rw [if_pos h4]
    simp -implicitDefEqProofs only [go_sem, decide_eq_true h4, hb_b1]
    refine AC_of (imageApply_ac (sb.ext ((Ext.refl _).set' n_b1 _)) (ss.ext ((Ext.refl _).set' n_b1 _)) himg hs2 (hst h4)) ?_
    rintro v h1 - ⟨e1, f1⟩
    simp -implicitDefEqProofs only [go_sem, hb_b1]
    exact ⟨(((Ext.refl _).set' n_b1 _)).trans e1, f1.back ((Ext.refl _).set' n_b1 _)⟩
  rw [if_neg h4]
  simp -implicitDefEqProofs only [go_sem, h4, hb_b1]
  refine AC_of (cloneStrs_ac (sb.ext ((Ext.refl _).set' n_b1 _)) hs1) ?_
  rintro v h1 - ⟨e1, f1⟩
  simp -implicitDefEqProofs only [go_sem, hb_b1]
  exact ⟨(((Ext.refl _).set' n_b1 _)).trans e1, f1.back ((Ext.refl _).set' n_b1 _)⟩
/-- spec.l15View -/
def b_spec_l15View : C := (.seq (.ops [⟨(some 1), none, .box (.t 0)⟩, q 2 (.mv (.c nils))])
 (.seq (.seq (.ops [q 3 (.fld 0 (.t 1)), q 4 (.ld false 1 (.t 3)), q 5 (.bin .eql (.t 4) (.c (i64 4)))])
 (.cond (.t 5) (.seq (.ops [q 6 (.fld 7 (.t 1)), q 7 (.ld false 1 (.t 6)), q 8 (.fld 8 (.t 1)), q 9 (.ld false 1 (.t 8)), ⟨(some 10), none, .call (.c (.func (.func 96) #[] #[])) [(.t 7), (.t 9)]⟩, q 2 (.mv (.t 10))])
 .ret) .skip))
 (.seq (.ops [⟨(some 11), none, .bsl 0 [] []⟩, q 12 (.fld 7 (.t 1)), q 13 (.ld false 1 (.t 12)), ⟨(some 14), none, .app 1 16 (.t 11) (.t 13)⟩, q 2 (.mv (.t 14))])
 .ret)))
theorem w_spec_l15View {args : List Value} {h : H} {Q : Value → H → Prop} (hl : args.length ≤ 15) (hk : wpc Tryz.prog b_spec_l15View (retw [.tmp 2] Q) (argsFr args) h) : AC Tryz.prog 123 args h Q :=
  AC.of_wpc mixedOrders Tryz.func123 (by kernel_rfl) (by kernel_rfl : prepF Tryz.prog Tryz.f123 = some ⟨15, [.tmp 2], b_spec_l15View⟩) hl hk

theorem l15View_ac {h : H} {cs : List Value} {i : UIdeal} (hv : RepR h (spIdeal i) cs) (hs : i.small) (hok : idealOk i) : AC Tryz.prog 123 [.agg cs.toArray] h fun r h' => Ext h h' ∧ Fre h h' r 1 (strs (idealView i)) := by
  have himg := hok.2.1
  have hst : i.phase = 4 → ∀ s ∈ i.steps, stepOk s i.base.length := fun h4 => by
    have h5 := hok.2.2.2
    rw [if_neg (by omega)] at h5
    exact (code_zero h5.1.2.2.2.2.1).1.2.2
  obtain ⟨vb, vs, rfl, sb, ss⟩ := ideal_r.1 hv
  obtain ⟨hs1, hs2⟩ := hs
  unfold idealView
  refine w_spec_l15View (by simp) ?_
  unfold b_spec_l15View
  simp -implicitDefEqProofs only [go_sem, sb.one, ss.one]
  intro b1 hb_b1 n_b1
  by_cases h4 : i.phase = 4
  · rw [if_pos h4]
    simp -implicitDefEqProofs only [go_sem, decide_eq_true h4, hb_b1]
    refine AC_of (l07Apply_ac (sb.ext ((Ext.refl _).set' n_b1 _)) (ss.ext ((Ext.refl _).set' n_b1 _)) himg hs2 (hst h4)) ?_
    rintro v h1 - ⟨e1, f1⟩
    simp -implicitDefEqProofs only [go_sem, hb_b1]
    exact ⟨(((Ext.refl _).set' n_b1 _)).trans e1, f1.back ((Ext.refl _).set' n_b1 _)⟩
  rw [if_neg h4]
  simp -implicitDefEqProofs only [go_sem, h4, hb_b1]
  intro b3 hb3 n3
  have hsrc := src0 n3 (sb.ext ((Ext.refl _).set' n_b1 _)) (strs_wid _) (by decide)
  obtain ⟨z31, y31, n31⟩ := fne n3
  have o1 := sb.one
  simp -implicitDefEqProofs only [go_sem, hsrc, z31, y31, o1, hb_b1]
  refine app0 hb3 n3 rfl (strs_wid _) (strs_one _) (by simp; omega) ?_
  intro v1 h1 e1 w1
  simp -implicitDefEqProofs only [go_sem, hb_b1]
  exact ⟨(((Ext.refl _).set' n_b1 _)).trans e1, w1.fre.back ((Ext.refl _).set' n_b1 _)⟩
end Go.Proofs.YtdofcojbjcpikaaGreatDoor
