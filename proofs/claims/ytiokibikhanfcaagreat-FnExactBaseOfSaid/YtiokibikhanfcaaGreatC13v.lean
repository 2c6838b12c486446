/- A helper of this seat's claims (contracts of the functions): what it shows is shown for every input that its statements name, on no other condition. -/
import Derived.Test.YtiokibikhanfcaaGreatC13r
import Derived.Test.YtiokibikhanfcaaGreatC10t
set_option linter.unusedVariables false
set_option linter.unusedSimpArgs false
set_option maxRecDepth 100000
namespace Go.Proofs.YtiokibikhanfcaaGreat
open Go.KH

/-! ## The blocks of a machine -/
theorem right_of {m : UMach} (h : rightOut m = true) : ∃ s, stM m = some s ∧ machFit m ∧ stateOk s ∧ imageOk (baseOf m) ∧ soundM m s := by
  unfold rightOut at h
  cases hs : stM m with
  | none => rw [hs] at h; cases h
  | some s =>
    rw [hs] at h
    simp only [decide_eq_true_eq] at h
    exact ⟨s, rfl, (stM_ok hs).1, (stM_ok hs).2, h.1, h.2⟩
noncomputable def baseOut (m : UMach) : List (List UInt8) × Int := if rightOut m = true then (baseOf m, 0) else ([], 1)
theorem baseOut_len (m : UMach) : (baseOut m).1.length ≤ 8 := by
  unfold baseOut
  split
  · rename_i h
    obtain ⟨s, _, hf, _⟩ := right_of h
    exact (baseOf_len hf).1
  · simp
/-- impl.BaseOf -/
def b_impl_BaseOf : C := (.seq (.ops [⟨(some 1), none, .box (.t 0)⟩, ⟨(some 2), none, .alloc [nils, (i64 0)]⟩])
 (.seq (.seq (.ops [q 3 (.ld true 3 (.t 1)), ⟨(some 4), none, .call (.c (.func (.func 52) #[] #[])) [(.t 3)]⟩, q 5 (.un .not (.t 4))])
 (.cond (.t 5) (.seq (.ops [q 6 (.build [nils, (i64 0)] [(1, 1, (.c (i64 1)))]), ⟨none, none, .st 2 (.t 2) (.t 6)⟩])
 .ret) .skip))
 (.seq (.ops [q 7 (.ld true 3 (.t 1)), ⟨(some 8), none, .call (.c (.func (.func 53) #[] #[])) [(.t 7)]⟩, q 9 (.build [nils, (i64 0)] [(0, 1, (.t 8))]), ⟨none, none, .st 2 (.t 2) (.t 9)⟩])
 .ret)))
theorem w_impl_BaseOf {args : List Value} {h : H} {Q : Value → H → Prop} (hl : args.length ≤ 10) (hk : wpc Tryz.prog b_impl_BaseOf (retw [.cell 2 true 2] Q) (argsFr args) h) : AC Tryz.prog 19 args h Q :=
  AC.of_wpc mixedOrders Tryz.func19 (by kernel_rfl) (by kernel_rfl : prepF Tryz.prog Tryz.f19 = some ⟨10, [.cell 2 true 2], b_impl_BaseOf⟩) hl hk

theorem implBaseOf_ac {h : H} {cs : List Value} {m : UMach} (hv : RepR h (spMach m) cs) (hs : m.flash.fin1) : AC Tryz.prog 19 [.agg cs.toArray] h fun r h' => Ext h h' ∧ ∃ cs', r = .agg cs'.toArray ∧ RepF h h' (spImg (baseOut m)) cs' := by
  have l1 := hv.len
  simp only [List.length_cons, List.length_nil, Nat.reduceAdd] at l1
  have t1 := take_len l1
  have o1 := hv.one
  unfold baseOut
  skip
  refine w_impl_BaseOf (by simp) ?_
  unfold b_impl_BaseOf
  simp -implicitDefEqProofs only [go_sem, ↓reduceIte, reduceCtorEq, Int.reduceEq, Int.reduceLT, Int.reduceLE, Nat.reduceEqDiff, Nat.reduceAdd, Nat.reduceMul, Nat.reduceLeDiff, Nat.reduceSub, Int.reduceNeg, l1, t1, o1]
  intro b1 hb_b1 n_b1
  simp -implicitDefEqProofs only [go_sem, ↓reduceIte, reduceCtorEq, Int.reduceEq, Int.reduceLT, Int.reduceLE, Nat.reduceEqDiff, Nat.reduceAdd, Nat.reduceMul, Nat.reduceLeDiff, Nat.reduceSub, Int.reduceNeg, l1, t1, o1, hb_b1]
  intro b2 hb_b2 m0_b2
  obtain ⟨z_b2_b1, y_b2_b1, n_b2⟩ := fne m0_b2
  simp only [H.set_base] at hb_b2
  simp -implicitDefEqProofs only [go_sem, ↓reduceIte, reduceCtorEq, Int.reduceEq, Int.reduceLT, Int.reduceLE, Nat.reduceEqDiff, Nat.reduceAdd, Nat.reduceMul, Nat.reduceLeDiff, Nat.reduceSub, Int.reduceNeg, l1, t1, o1, hb_b1, hb_b2, z_b2_b1, y_b2_b1]
  refine (isMachine_pc (hv.ext (((Ext.refl _).set' n_b1 _).set' n_b2 _)) hs).use ?_
  cases hR : rightOut m with
  | false =>
    rw [if_neg (by simp)]
    simp -implicitDefEqProofs only [go_sem, ↓reduceIte, reduceCtorEq, Int.reduceEq, Int.reduceLT, Int.reduceLE, Nat.reduceEqDiff, Nat.reduceAdd, Nat.reduceMul, Nat.reduceLeDiff, Nat.reduceSub, Int.reduceNeg, l1, t1, o1, hb_b1, hb_b2, z_b2_b1, y_b2_b1]
    exact ⟨(((Ext.refl _).set' n_b1 _).set' n_b2 _), _, rfl, img_none⟩
  | true =>
    rw [if_pos rfl]
    obtain ⟨s, _, hf, _⟩ := right_of hR
    simp -implicitDefEqProofs only [go_sem, ↓reduceIte, reduceCtorEq, Int.reduceEq, Int.reduceLT, Int.reduceLE, Nat.reduceEqDiff, Nat.reduceAdd, Nat.reduceMul, Nat.reduceLeDiff, Nat.reduceSub, Int.reduceNeg, l1, t1, o1, hb_b1, hb_b2, z_b2_b1, y_b2_b1]
    refine AC_of (base_ac (hv.ext (((Ext.refl _).set' n_b1 _).set' n_b2 _)) hf) ?_
    rintro v3 h3 - ⟨e3, ow⟩
    have g2 := e3.2.g b2 _ (by simp -implicitDefEqProofs only [go_sem, ↓reduceIte, reduceCtorEq, Int.reduceEq, Int.reduceLT, Int.reduceLE, Nat.reduceEqDiff, Nat.reduceAdd, Nat.reduceMul, Nat.reduceLeDiff, Nat.reduceSub, Int.reduceNeg, l1, t1, o1, hb_b1, hb_b2, z_b2_b1, y_b2_b1]; rfl)
    have hbb := e3.1
    simp only [H.set_base] at hbb
    simp -implicitDefEqProofs only [go_sem, ↓reduceIte, reduceCtorEq, Int.reduceEq, Int.reduceLT, Int.reduceLE, Nat.reduceEqDiff, Nat.reduceAdd, Nat.reduceMul, Nat.reduceLeDiff, Nat.reduceSub, Int.reduceNeg, ow.sl.vcl, ow.sl.one, stc_get g2, hbb, l1, t1, o1, hb_b1, hb_b2, z_b2_b1, y_b2_b1]
    exact ⟨(((((Ext.refl _).set' n_b1 _).set' n_b2 _)).trans e3).set' n_b2 _, _, rfl, img_f.2 ⟨v3, rfl, (ow.fre.set (b := b2) (H.set_get_same _ _ _) _).back (((Ext.refl _).set' n_b1 _).set' n_b2 _)⟩⟩
/-- spec.BaseOf -/
def b_spec_BaseOf : C := (.seq (.ops [⟨(some 1), none, .box (.t 0)⟩, ⟨(some 2), none, .alloc [nils, (i64 0)]⟩])
 (.seq (.seq (.ops [q 3 (.ld true 3 (.t 1)), ⟨(some 4), none, .call (.c (.func (.func 49) #[] #[])) [(.t 3)]⟩, q 5 (.un .not (.t 4))])
 (.cond (.t 5) (.seq (.ops [⟨(some 6), none, .call (.c (.func (.func 50) #[] #[])) [(.c (i64 1))]⟩, ⟨none, none, .st 2 (.t 2) (.t 6)⟩])
 .ret) .skip))
 (.seq (.ops [q 7 (.ld true 3 (.t 1)), ⟨(some 8), none, .call (.c (.func (.func 51) #[] #[])) [(.t 7)]⟩, q 9 (.build [nils, (i64 0)] [(0, 1, (.t 8))]), ⟨none, none, .st 2 (.t 2) (.t 9)⟩])
 .ret)))
theorem w_spec_BaseOf {args : List Value} {h : H} {Q : Value → H → Prop} (hl : args.length ≤ 10) (hk : wpc Tryz.prog b_spec_BaseOf (retw [.cell 2 true 2] Q) (argsFr args) h) : AC Tryz.prog 18 args h Q :=
  AC.of_wpc mixedOrders Tryz.func18 (by kernel_rfl) (by kernel_rfl : prepF Tryz.prog Tryz.f18 = some ⟨10, [.cell 2 true 2], b_spec_BaseOf⟩) hl hk

theorem specBaseOf_ac {h : H} {cs : List Value} {m : UMach} (hv : RepR h (spMach m) cs) (hs : m.flash.fin1) : AC Tryz.prog 18 [.agg cs.toArray] h fun r h' => Ext h h' ∧ ∃ cs', r = .agg cs'.toArray ∧ RepF h h' (spImg (baseOut m)) cs' := by
  have l1 := hv.len
  simp only [List.length_cons, List.length_nil, Nat.reduceAdd] at l1
  have t1 := take_len l1
  have o1 := hv.one
  unfold baseOut
  skip
  refine w_spec_BaseOf (by simp) ?_
  unfold b_spec_BaseOf
  simp -implicitDefEqProofs only [go_sem, ↓reduceIte, reduceCtorEq, Int.reduceEq, Int.reduceLT, Int.reduceLE, Nat.reduceEqDiff, Nat.reduceAdd, Nat.reduceMul, Nat.reduceLeDiff, Nat.reduceSub, Int.reduceNeg, l1, t1, o1]
  intro b1 hb_b1 n_b1
  simp -implicitDefEqProofs only [go_sem, ↓reduceIte, reduceCtorEq, Int.reduceEq, Int.reduceLT, Int.reduceLE, Nat.reduceEqDiff, Nat.reduceAdd, Nat.reduceMul, Nat.reduceLeDiff, Nat.reduceSub, Int.reduceNeg, l1, t1, o1, hb_b1]
  intro b2 hb_b2 m0_b2
  obtain ⟨z_b2_b1, y_b2_b1, n_b2⟩ := fne m0_b2
  simp only [H.set_base] at hb_b2
  simp -implicitDefEqProofs only [go_sem, ↓reduceIte, reduceCtorEq, Int.reduceEq, Int.reduceLT, Int.reduceLE, Nat.reduceEqDiff, Nat.reduceAdd, Nat.reduceMul, Nat.reduceLeDiff, Nat.reduceSub, Int.reduceNeg, l1, t1, o1, hb_b1, hb_b2, z_b2_b1, y_b2_b1]
  refine (specMachineRight_pc (hv.ext (((Ext.refl _).set' n_b1 _).set' n_b2 _)) hs).use ?_
  cases hR : rightOut m with
  | false =>
    rw [if_neg (by simp)]
    simp -implicitDefEqProofs only [go_sem, ↓reduceIte, reduceCtorEq, Int.reduceEq, Int.reduceLT, Int.reduceLE, Nat.reduceEqDiff, Nat.reduceAdd, Nat.reduceMul, Nat.reduceLeDiff, Nat.reduceSub, Int.reduceNeg, l1, t1, o1, hb_b1, hb_b2, z_b2_b1, y_b2_b1]
    refine (l07Ill_pc _ _).use ?_
    simp -implicitDefEqProofs only [go_sem, ↓reduceIte, reduceCtorEq, Int.reduceEq, Int.reduceLT, Int.reduceLE, Nat.reduceEqDiff, Nat.reduceAdd, Nat.reduceMul, Nat.reduceLeDiff, Nat.reduceSub, Int.reduceNeg, l1, t1, o1, hb_b1, hb_b2, z_b2_b1, y_b2_b1]
    exact ⟨(((Ext.refl _).set' n_b1 _).set' n_b2 _), _, rfl, img_none⟩
  | true =>
    rw [if_pos rfl]
    obtain ⟨s, _, hf, _⟩ := right_of hR
    simp -implicitDefEqProofs only [go_sem, ↓reduceIte, reduceCtorEq, Int.reduceEq, Int.reduceLT, Int.reduceLE, Nat.reduceEqDiff, Nat.reduceAdd, Nat.reduceMul, Nat.reduceLeDiff, Nat.reduceSub, Int.reduceNeg, l1, t1, o1, hb_b1, hb_b2, z_b2_b1, y_b2_b1]
    refine AC_of (l13Base_ac (hv.ext (((Ext.refl _).set' n_b1 _).set' n_b2 _)) hf) ?_
    rintro v3 h3 - ⟨e3, ow⟩
    have g2 := e3.2.g b2 _ (by simp -implicitDefEqProofs only [go_sem, ↓reduceIte, reduceCtorEq, Int.reduceEq, Int.reduceLT, Int.reduceLE, Nat.reduceEqDiff, Nat.reduceAdd, Nat.reduceMul, Nat.reduceLeDiff, Nat.reduceSub, Int.reduceNeg, l1, t1, o1, hb_b1, hb_b2, z_b2_b1, y_b2_b1]; rfl)
    have hbb := e3.1
    simp only [H.set_base] at hbb
    simp -implicitDefEqProofs only [go_sem, ↓reduceIte, reduceCtorEq, Int.reduceEq, Int.reduceLT, Int.reduceLE, Nat.reduceEqDiff, Nat.reduceAdd, Nat.reduceMul, Nat.reduceLeDiff, Nat.reduceSub, Int.reduceNeg, ow.sl.vcl, ow.sl.one, stc_get g2, hbb, l1, t1, o1, hb_b1, hb_b2, z_b2_b1, y_b2_b1]
    exact ⟨(((((Ext.refl _).set' n_b1 _).set' n_b2 _)).trans e3).set' n_b2 _, _, rfl, img_f.2 ⟨v3, rfl, (ow.fre.set (b := b2) (H.set_get_same _ _ _) _).back (((Ext.refl _).set' n_b1 _).set' n_b2 _)⟩⟩
end Go.Proofs.YtiokibikhanfcaaGreat
