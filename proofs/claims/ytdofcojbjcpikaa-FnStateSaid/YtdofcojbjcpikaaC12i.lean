/- A helper of this seat's claims (contracts of the functions): what it shows is shown for every input that its statements name, on no other condition. -/
import Derived.Test.YtdofcojbjcpikaaC12h
set_option linter.unusedVariables false
set_option linter.unusedSimpArgs false
set_option maxRecDepth 100000
namespace Go.Proofs.Ytdofcojbjcpikaa
open Go.KH

/-! ## Copies of lists and states -/
theorem ints_one (l : List Int) : (ints l).flatten.all Value.oneCell' = true := by simp [ints, oneCell_int]
theorem ints_nil {h : H} {c n : Nat} {l : List Int} (hv : Sl h (.slice none n c) 1 (ints l)) : l = [] := List.map_eq_nil_iff.1 hv.none
/-- slices.Clone[[]int64,int64] -/
def b_slices_Clone_int64_int64 : C := (.seq (.ops [q 2 (.mv (.c nils))])
 (.seq (.seq (.ops [q 3 (.mv (.t 0)), q 4 (.eqs false (.t 3) (.c nils))])
 (.cond (.t 4) (.seq (.ops [q 2 (.mv (.c nils))])
 .ret) .skip))
 (.seq (.ops [⟨(some 5), none, .bsl 0 [] []⟩, q 6 (.mv (.t 0)), ⟨(some 7), none, .app 1 8 (.t 5) (.t 6)⟩, q 2 (.mv (.t 7))])
 .ret)))
theorem w_slices_Clone_int64_int64 {args : List Value} {h : H} {Q : Value → H → Prop} (hl : args.length ≤ 8) (hk : wpc Try.prog b_slices_Clone_int64_int64 (retw [.tmp 2] Q) (argsFr args) h) : AC Try.prog 49 args h Q :=
  AC.of_wpc mixedOrders Try.func49 (by kernel_rfl) (by kernel_rfl : prepF Try.prog Try.f49 = some ⟨8, [.tmp 2], b_slices_Clone_int64_int64⟩) hl hk

theorem cloneInts_ac {h : H} {v : Value} {l : List Int} (hv : Sl h v 1 (ints l)) (hb : l.length ≤ 1048576) : AC Try.prog 49 [v] h fun v' h' => Ext h h' ∧ Fre h h' v' 1 (ints l) := by
  obtain ⟨a, c, rfl⟩ := hv.shape
  have hl : (ints l).length = l.length := by simp
  refine w_slices_Clone_int64_int64 (by simp) ?_
  unfold b_slices_Clone_int64_int64
  simp -implicitDefEqProofs only [go_sem]
  cases a with
  | none =>
    simp -implicitDefEqProofs only [go_sem, Option.isNone_none]
    exact ⟨Ext.refl _, .inl ⟨none, 0, rfl, by rw [ints_nil hv]; rfl⟩⟩
  | some a =>
    simp -implicitDefEqProofs only [go_sem, Option.isNone_some]
    intro b1 hb1 hn1
    have hsrc := src0 hn1 hv (ints_wid l) (by decide)
    simp -implicitDefEqProofs only [go_sem, hsrc]
    refine app0 hb1 hn1 rfl (ints_wid l) (ints_one l) (by rw [hl]; omega) ?_
    intro v' h' e o
    simp -implicitDefEqProofs only [go_sem]
    exact ⟨e, o.fre⟩
/-- impl.cloneState -/
def b_impl_cloneState : C := (.seq (.ops [⟨(some 1), none, .box (.t 0)⟩, ⟨(some 2), none, .alloc [(i64 0), (i64 0), (i64 0), (i64 0), (i64 0), (str []), nils, nils]⟩])
 (.seq (.dops true (.tk (q 3 (.fld 6 (.t 1))) (.tk (q 4 (.ld false 1 (.t 3))) (.tk (q 6 (.fld 7 (.t 1))) (.tk (q 7 (.ld false 1 (.t 6))) (.sq (⟨(some 5), none, .call (.c (.func (.func 49) #[] #[])) [(.t 4)]⟩) (.tk (q 9 (.fld 6 (.t 1))) (.sq (⟨(some 8), none, .call (.c (.func (.func 49) #[] #[])) [(.t 7)]⟩) (.lt (⟨none, none, .st 1 (.t 9) (.t 5)⟩) (.tk (q 10 (.fld 7 (.t 1))) (.lt (⟨none, none, .st 1 (.t 10) (.t 8)⟩) .nil)))))))))))
 (.seq (.ops [q 11 (.ld true 8 (.t 1)), ⟨none, none, .st 8 (.t 2) (.t 11)⟩])
 .ret)))
theorem w_impl_cloneState {args : List Value} {h : H} {Q : Value → H → Prop} (hl : args.length ≤ 12) (hk : wpc Try.prog b_impl_cloneState (retw [.cell 2 true 8] Q) (argsFr args) h) : AC Try.prog 23 args h Q :=
  AC.of_wpc mixedOrders Try.func23 (by kernel_rfl) (by kernel_rfl : prepF Try.prog Try.f23 = some ⟨12, [.cell 2 true 8], b_impl_cloneState⟩) hl hk

theorem cloneState_ac {h : H} {cs : List Value} {s : UState} (hv : StR h cs s) (hs : s.small) : AC Try.prog 23 [.agg cs.toArray] h fun r h' => Ext h h' ∧ ∃ cs', r = .agg cs'.toArray ∧ StF h h' cs' s := by
  obtain ⟨vh, vm, rfl, a1, a2⟩ := hv
  refine w_impl_cloneState (by simp) ?_
  unfold b_impl_cloneState
  simp -implicitDefEqProofs only [go_sem]
  intro b1 hb_b1 n_b1
  simp -implicitDefEqProofs only [go_sem, hb_b1]
  intro b2 hb_b2 m0_b2
  obtain ⟨z_b2_b1, y_b2_b1, n_b2⟩ := fne m0_b2
  simp only [H.set_base] at hb_b2
  simp -implicitDefEqProofs only [go_sem, hb_b1, hb_b2, z_b2_b1, y_b2_b1]
  refine AC_of (cloneInts_ac (a1.ext (((Ext.refl _).set' n_b1 _).set' n_b2 _)) hs.1) ?_
  rintro v1 h1 - ⟨e1, f1⟩
  simp -implicitDefEqProofs only [go_sem, e1.2, hb_b1, hb_b2, z_b2_b1, y_b2_b1]
  have E1 := ((((Ext.refl _).set' n_b1 _).set' n_b2 _)).trans e1
  refine AC_of (cloneInts_ac (a2.ext E1) hs.2) ?_
  rintro v2 h2 - ⟨e2, f2⟩
  have g1 := (e1.trans e2).2.g b1 _ (by simp -implicitDefEqProofs only [go_sem, hb_b1, hb_b2, z_b2_b1, y_b2_b1]; rfl)
  have g2 := (e1.trans e2).2.g b2 _ (by simp -implicitDefEqProofs only [go_sem, hb_b1, hb_b2, z_b2_b1, y_b2_b1]; rfl)
  obtain ⟨av1, cv1, rfl⟩ := f1.shape
  obtain ⟨av2, cv2, rfl⟩ := f2.shape
  have hb4 := (e1.trans e2).1
  simp only [H.set_base] at hb4
  simp -implicitDefEqProofs only [go_sem, (e1.trans e2).2, ldc_get g1, ldc_get g2, stc_get g1, stc_get g2, hb4, hb_b1, hb_b2, z_b2_b1, y_b2_b1]
  have G1 : ∀ x y, ((h.set b1 x).set b2 y).get b1 = some x := fun x y => by simp -implicitDefEqProofs only [go_sem, hb_b1, hb_b2, z_b2_b1, y_b2_b1]
  have E2 := fun x y => ((E1.trans e2).set' n_b2 x).set' n_b1 y
  refine ⟨E2 _ _, _, rfl, _, _, rfl, ?_, ?_, ?_⟩
  · exact (((f1.ext e2).set (b := b2) (H.set_get_same _ _ _) _).set (b := b1) (G1 _ _) _).back (((Ext.refl _).set' n_b1 _).set' n_b2 _)
  · exact (((f2.set (b := b2) (e1.2.g b2 _ (H.set_get_same _ _ _)) _).set (b := b1) (e1.2.g b1 _ (G1 _ _)) _)).back E1
  · exact Dj.of f1.known f2.new
/-- spec.l12Copy -/
def b_spec_l12Copy : C := (.seq (.ops [⟨(some 1), none, .box (.t 0)⟩, ⟨(some 2), none, .alloc [(i64 0), (i64 0), (i64 0), (i64 0), (i64 0), (str []), nils, nils]⟩])
 (.seq (.ops [⟨(some 3), none, .bsl 0 [] []⟩, q 4 (.fld 6 (.t 1)), q 5 (.ld false 1 (.t 4)), ⟨(some 6), none, .app 1 8 (.t 3) (.t 5)⟩, q 7 (.fld 6 (.t 1)), ⟨none, none, .st 1 (.t 7) (.t 6)⟩])
 (.seq (.ops [⟨(some 8), none, .bsl 0 [] []⟩, q 9 (.fld 7 (.t 1)), q 10 (.ld false 1 (.t 9)), ⟨(some 11), none, .app 1 8 (.t 8) (.t 10)⟩, q 12 (.fld 7 (.t 1)), ⟨none, none, .st 1 (.t 12) (.t 11)⟩])
 (.seq (.ops [q 13 (.ld true 8 (.t 1)), ⟨none, none, .st 8 (.t 2) (.t 13)⟩])
 .ret))))
theorem w_spec_l12Copy {args : List Value} {h : H} {Q : Value → H → Prop} (hl : args.length ≤ 14) (hk : wpc Try.prog b_spec_l12Copy (retw [.cell 2 true 8] Q) (argsFr args) h) : AC Try.prog 29 args h Q :=
  AC.of_wpc mixedOrders Try.func29 (by kernel_rfl) (by kernel_rfl : prepF Try.prog Try.f29 = some ⟨14, [.cell 2 true 8], b_spec_l12Copy⟩) hl hk

theorem l12Copy_ac {h : H} {cs : List Value} {s : UState} (hv : StR h cs s) (hs : s.small) : AC Try.prog 29 [.agg cs.toArray] h fun r h' => Ext h h' ∧ ∃ cs', r = .agg cs'.toArray ∧ StF h h' cs' s := by
  obtain ⟨vh, vm, rfl, a1, a2⟩ := hv
  have l1 : (ints s.held).length = s.held.length := by simp
  have l2 : (ints s.mine).length = s.mine.length := by simp
  have := hs.1
  have := hs.2
  refine w_spec_l12Copy (by simp) ?_
  unfold b_spec_l12Copy
  simp -implicitDefEqProofs only [go_sem]
  intro b1 hb_b1 n_b1
  simp -implicitDefEqProofs only [go_sem, hb_b1]
  intro b2 hb_b2 m0_b2
  obtain ⟨z_b2_b1, y_b2_b1, n_b2⟩ := fne m0_b2
  simp only [H.set_base] at hb_b2
  simp -implicitDefEqProofs only [go_sem, hb_b1, hb_b2, z_b2_b1, y_b2_b1]
  intro b3 hb3 hn3
  have hsrc := src0 hn3 (a1.ext (((Ext.refl _).set' n_b1 _).set' n_b2 _)) (ints_wid _) (by decide)
  obtain ⟨z32, y32, n32⟩ := fne hn3
  obtain ⟨z31, y31, n31⟩ := fne n32
  simp -implicitDefEqProofs only [go_sem, hsrc, z31, y31, z32, y32, hb_b1, hb_b2, z_b2_b1, y_b2_b1]
  refine app0 hb3 hn3 rfl (ints_wid _) (ints_one _) (by omega) ?_
  intro v1 h1 e1 o1
  have g1 := e1.2.g b1 _ (by simp -implicitDefEqProofs only [go_sem, hb_b1, hb_b2, z_b2_b1, y_b2_b1]; rfl)
  have g2 := e1.2.g b2 _ (by simp -implicitDefEqProofs only [go_sem, hb_b1, hb_b2, z_b2_b1, y_b2_b1]; rfl)
  have hb4 := e1.1
  simp only [H.set_base] at hb4
  have f1 := o1.fre
  obtain ⟨av1, cv1, rfl⟩ := f1.shape
  simp -implicitDefEqProofs only [go_sem, ldc_get g1, ldc_get g2, stc_get g1, stc_get g2, hb4, hb_b1, hb_b2, z_b2_b1, y_b2_b1]
  have E1 := fun x => (((((Ext.refl _).set' n_b1 _).set' n_b2 _)).trans e1).set' n_b1 x
  have G1 : ∀ x y, ((h.set b1 x).set b2 y).get b1 = some x := fun x y => by simp -implicitDefEqProofs only [go_sem, hb_b1, hb_b2, z_b2_b1, y_b2_b1]
  have f1' := fun x => f1.set (b := b1) (G1 _ _) x
  intro b4 hb4' hn4
  have z41 : (b4 = b1) = False := eq_false fun e => by subst e; simp at hn4
  have z42 : (b4 = b2) = False := eq_false fun e => by subst e; rw [H.set_get_ne _ _ _ _ (of_eq_false z_b2_b1), g2] at hn4; cases hn4
  have y41 : (b1 = b4) = False := eq_false fun e => (of_eq_false z41) e.symm
  have y42 : (b2 = b4) = False := eq_false fun e => (of_eq_false z42) e.symm
  have hsrc2 := src0 hn4 (a2.ext (E1 _)) (ints_wid _) (by decide)
  simp -implicitDefEqProofs only [go_sem, hsrc2, z41, y41, z42, y42, hb_b1, hb_b2, z_b2_b1, y_b2_b1]
  refine app0 hb4' hn4 rfl (ints_wid _) (ints_one _) (by omega) ?_
  intro v2 h2 e2 o2
  have j1 := e2.2.g b1 _ (by simp -implicitDefEqProofs only [go_sem, hb_b1, hb_b2, z_b2_b1, y_b2_b1]; rfl)
  have j2 := e2.2.g b2 _ (by simp -implicitDefEqProofs only [go_sem, g2, hb_b1, hb_b2, z_b2_b1, y_b2_b1]; rfl)
  have hb5 := e2.1
  simp only [H.set_base, hb4] at hb5
  have f2 := o2.fre
  obtain ⟨av2, cv2, rfl⟩ := f2.shape
  simp -implicitDefEqProofs only [go_sem, ldc_get j1, ldc_get j2, stc_get j1, stc_get j2, hb5, hb_b1, hb_b2, z_b2_b1, y_b2_b1]
  refine ⟨(((E1 _).trans e2).set' n_b2 _).set' n_b1 _, _, rfl, _, _, rfl, ?_, ?_, ?_⟩
  · exact ((((f1' _).ext e2).set (b := b2) (H.set_get_same _ _ _) _).set (b := b1) (G1 _ _) _).back (((Ext.refl _).set' n_b1 _).set' n_b2 _)
  · exact ((f2.set (b := b2) (by simp -implicitDefEqProofs only [go_sem, g2, hb_b1, hb_b2, z_b2_b1, y_b2_b1]; rfl) _).set (b := b1) (H.set_get_same _ _ _) _).back (E1 _)
  · exact Dj.of (f1' _).known f2.new
def stateIdle (s : UState) : UState := if stateOk s then ⟨1, 0, 0, 0, 0, [], s.held, []⟩ else s
/-- impl.stateIdle -/
def b_impl_stateIdle : C := (.seq (.ops [⟨(some 1), none, .box (.t 0)⟩, ⟨(some 2), none, .alloc [(i64 0), (i64 0), (i64 0), (i64 0), (i64 0), (str []), nils, nils]⟩])
 (.seq (.ops [q 3 (.fld 6 (.t 1)), q 4 (.ld false 1 (.t 3)), ⟨(some 5), none, .call (.c (.func (.func 49) #[] #[])) [(.t 4)]⟩, q 6 (.build [(i64 0), (i64 0), (i64 0), (i64 0), (i64 0), (str []), nils, nils] [(0, 1, (.c (i64 1))), (6, 1, (.t 5))]), ⟨none, none, .st 8 (.t 2) (.t 6)⟩])
 .ret))
theorem w_impl_stateIdle {args : List Value} {h : H} {Q : Value → H → Prop} (hl : args.length ≤ 7) (hk : wpc Try.prog b_impl_stateIdle (retw [.cell 2 true 8] Q) (argsFr args) h) : AC Try.prog 24 args h Q :=
  AC.of_wpc mixedOrders Try.func24 (by kernel_rfl) (by kernel_rfl : prepF Try.prog Try.f24 = some ⟨7, [.cell 2 true 8], b_impl_stateIdle⟩) hl hk

theorem stateIdle_ac {h : H} {cs : List Value} {s : UState} (hv : StR h cs s) (hs : s.small) : AC Try.prog 24 [.agg cs.toArray] h fun r h' => Ext h h' ∧ ∃ cs', r = .agg cs'.toArray ∧ StF h h' cs' ⟨1, 0, 0, 0, 0, [], s.held, []⟩ := by
  obtain ⟨vh, vm, rfl, a1, a2⟩ := hv
  refine w_impl_stateIdle (by simp) ?_
  unfold b_impl_stateIdle
  simp -implicitDefEqProofs only [go_sem]
  intro b1 hb_b1 n_b1
  simp -implicitDefEqProofs only [go_sem, hb_b1]
  intro b2 hb_b2 m0_b2
  obtain ⟨z_b2_b1, y_b2_b1, n_b2⟩ := fne m0_b2
  simp only [H.set_base] at hb_b2
  simp -implicitDefEqProofs only [go_sem, hb_b1, hb_b2, z_b2_b1, y_b2_b1]
  refine AC_of (cloneInts_ac (a1.ext (((Ext.refl _).set' n_b1 _).set' n_b2 _)) hs.1) ?_
  rintro v1 h1 - ⟨e1, f1⟩
  have g2 := e1.2.g b2 _ (by simp -implicitDefEqProofs only [go_sem, hb_b1, hb_b2, z_b2_b1, y_b2_b1]; rfl)
  have hb4 := e1.1
  simp only [H.set_base] at hb4
  obtain ⟨av1, cv1, rfl⟩ := f1.shape
  simp -implicitDefEqProofs only [go_sem, ldc_get g2, stc_get g2, hb4, hb_b1, hb_b2, z_b2_b1, y_b2_b1]
  refine ⟨(((((Ext.refl _).set' n_b1 _).set' n_b2 _)).trans e1).set' n_b2 _, _, rfl, _, _, rfl, ?_, ?_, ?_⟩
  · exact (f1.set (b := b2) (H.set_get_same _ _ _) _).back (((Ext.refl _).set' n_b1 _).set' n_b2 _)
  · exact .inl ⟨none, 0, rfl, rfl⟩
  · exact fun _ _ h => by cases h
/-- spec.l12Idle -/
def b_spec_l12Idle : C := (.seq (.ops [⟨(some 1), none, .box (.t 0)⟩, ⟨(some 2), none, .alloc [(i64 0), (i64 0), (i64 0), (i64 0), (i64 0), (str []), nils, nils]⟩])
 (.seq (.ops [⟨(some 3), none, .bsl 0 [] []⟩, q 4 (.fld 6 (.t 1)), q 5 (.ld false 1 (.t 4)), ⟨(some 6), none, .app 1 8 (.t 3) (.t 5)⟩, q 7 (.build [(i64 0), (i64 0), (i64 0), (i64 0), (i64 0), (str []), nils, nils] [(0, 1, (.c (i64 1))), (6, 1, (.t 6))]), ⟨none, none, .st 8 (.t 2) (.t 7)⟩])
 .ret))
theorem w_spec_l12Idle {args : List Value} {h : H} {Q : Value → H → Prop} (hl : args.length ≤ 8) (hk : wpc Try.prog b_spec_l12Idle (retw [.cell 2 true 8] Q) (argsFr args) h) : AC Try.prog 30 args h Q :=
  AC.of_wpc mixedOrders Try.func30 (by kernel_rfl) (by kernel_rfl : prepF Try.prog Try.f30 = some ⟨8, [.cell 2 true 8], b_spec_l12Idle⟩) hl hk

theorem l12Idle_ac {h : H} {cs : List Value} {s : UState} (hv : StR h cs s) (hs : s.small) : AC Try.prog 30 [.agg cs.toArray] h fun r h' => Ext h h' ∧ ∃ cs', r = .agg cs'.toArray ∧ StF h h' cs' ⟨1, 0, 0, 0, 0, [], s.held, []⟩ := by
  obtain ⟨vh, vm, rfl, a1, a2⟩ := hv
  have l1 : (ints s.held).length = s.held.length := by simp
  have := hs.1
  refine w_spec_l12Idle (by simp) ?_
  unfold b_spec_l12Idle
  simp -implicitDefEqProofs only [go_sem]
  intro b1 hb_b1 n_b1
  simp -implicitDefEqProofs only [go_sem, hb_b1]
  intro b2 hb_b2 m0_b2
  obtain ⟨z_b2_b1, y_b2_b1, n_b2⟩ := fne m0_b2
  simp only [H.set_base] at hb_b2
  simp -implicitDefEqProofs only [go_sem, hb_b1, hb_b2, z_b2_b1, y_b2_b1]
  intro b3 hb3 hn3
  have hsrc := src0 hn3 (a1.ext (((Ext.refl _).set' n_b1 _).set' n_b2 _)) (ints_wid _) (by decide)
  obtain ⟨z32, y32, n32⟩ := fne hn3
  obtain ⟨z31, y31, n31⟩ := fne n32
  simp -implicitDefEqProofs only [go_sem, hsrc, z31, y31, z32, y32, hb_b1, hb_b2, z_b2_b1, y_b2_b1]
  refine app0 hb3 hn3 rfl (ints_wid _) (ints_one _) (by omega) ?_
  intro v1 h1 e1 o1
  have g2 := e1.2.g b2 _ (by simp -implicitDefEqProofs only [go_sem, hb_b1, hb_b2, z_b2_b1, y_b2_b1]; rfl)
  have hb4 := e1.1
  simp only [H.set_base] at hb4
  have f1 := o1.fre
  obtain ⟨av1, cv1, rfl⟩ := f1.shape
  simp -implicitDefEqProofs only [go_sem, ldc_get g2, stc_get g2, hb4, hb_b1, hb_b2, z_b2_b1, y_b2_b1]
  refine ⟨(((((Ext.refl _).set' n_b1 _).set' n_b2 _)).trans e1).set' n_b2 _, _, rfl, _, _, rfl, ?_, ?_, ?_⟩
  · exact (f1.set (b := b2) (H.set_get_same _ _ _) _).back (((Ext.refl _).set' n_b1 _).set' n_b2 _)
  · exact .inl ⟨none, 0, rfl, rfl⟩
  · exact fun _ _ h => by cases h
/-- impl.StateIdle -/
def b_impl_StateIdle : C := (.seq (.ops [⟨(some 1), none, .box (.t 0)⟩, ⟨(some 2), none, .alloc [(i64 0), (i64 0), (i64 0), (i64 0), (i64 0), (str []), nils, nils]⟩])
 (.seq (.seq (.ops [q 3 (.ld true 8 (.t 1)), ⟨(some 4), none, .call (.c (.func (.func 18) #[] #[])) [(.t 3)]⟩, q 5 (.un .not (.t 4))])
 (.cond (.t 5) (.seq (.ops [q 6 (.ld true 8 (.t 1)), ⟨(some 7), none, .call (.c (.func (.func 23) #[] #[])) [(.t 6)]⟩, ⟨none, none, .st 8 (.t 2) (.t 7)⟩])
 .ret) .skip))
 (.seq (.ops [q 8 (.ld true 8 (.t 1)), ⟨(some 9), none, .call (.c (.func (.func 24) #[] #[])) [(.t 8)]⟩, ⟨none, none, .st 8 (.t 2) (.t 9)⟩])
 .ret)))
theorem w_impl_StateIdle {args : List Value} {h : H} {Q : Value → H → Prop} (hl : args.length ≤ 10) (hk : wpc Try.prog b_impl_StateIdle (retw [.cell 2 true 8] Q) (argsFr args) h) : AC Try.prog 8 args h Q :=
  AC.of_wpc mixedOrders Try.func8 (by kernel_rfl) (by kernel_rfl : prepF Try.prog Try.f8 = some ⟨10, [.cell 2 true 8], b_impl_StateIdle⟩) hl hk

theorem implStateIdle_ac {h : H} {cs : List Value} {s : UState} (hv : StR h cs s) (hs : s.small) : AC Try.prog 8 [.agg cs.toArray] h fun r h' => Ext h h' ∧ ∃ cs', r = .agg cs'.toArray ∧ StF h h' cs' (stateIdle s) := by
  have R0 := hv
  obtain ⟨vh, vm, rfl, a1, a2⟩ := hv
  have hidle : stateIdle s = if stateOk s then ⟨1, 0, 0, 0, 0, [], s.held, []⟩ else s := rfl
  rw [hidle]
  refine w_impl_StateIdle (by simp) ?_
  unfold b_impl_StateIdle
  simp -implicitDefEqProofs only [go_sem]
  intro b1 hb_b1 n_b1
  simp -implicitDefEqProofs only [go_sem, hb_b1]
  intro b2 hb_b2 m0_b2
  obtain ⟨z_b2_b1, y_b2_b1, n_b2⟩ := fne m0_b2
  simp only [H.set_base] at hb_b2
  simp -implicitDefEqProofs only [go_sem, hb_b1, hb_b2, z_b2_b1, y_b2_b1]
  refine (isState_pc s (a1.ext (((Ext.refl _).set' n_b1 _).set' n_b2 _)) (a2.ext (((Ext.refl _).set' n_b1 _).set' n_b2 _)) hs).use ?_
  simp -implicitDefEqProofs only [go_sem, hb_b1, hb_b2, z_b2_b1, y_b2_b1]
  refine Br.of (fun hc => ?_) (fun hc => ?_)
  · simp -implicitDefEqProofs only [go_sem, hc, hb_b1, hb_b2, z_b2_b1, y_b2_b1]
    refine AC_of (stateIdle_ac (R0.ext (((Ext.refl _).set' n_b1 _).set' n_b2 _)) hs) ?_
    rintro _ h1 - ⟨e1, _, rfl, u1, u2, rfl, q1, q2, d⟩
    simp only [hc, if_true, if_false] at q1 q2 ⊢
    have g2 := e1.2.g b2 _ (by simp -implicitDefEqProofs only [go_sem, hb_b1, hb_b2, z_b2_b1, y_b2_b1]; rfl)
    have hb4 := e1.1
    simp only [H.set_base] at hb4
    simp -implicitDefEqProofs only [go_sem, ldc_get g2, stc_get g2, hb4, q1.sl.one, q2.sl.one, hc, hb_b1, hb_b2, z_b2_b1, y_b2_b1]
    refine ⟨(((((Ext.refl _).set' n_b1 _).set' n_b2 _)).trans e1).set' n_b2 _, _, rfl, _, _, rfl, ?_, ?_, d⟩
    · exact (q1.set (b := b2) (H.set_get_same _ _ _) _).back (((Ext.refl _).set' n_b1 _).set' n_b2 _)
    · exact (q2.set (b := b2) (H.set_get_same _ _ _) _).back (((Ext.refl _).set' n_b1 _).set' n_b2 _)
  · simp -implicitDefEqProofs only [go_sem, hc, hb_b1, hb_b2, z_b2_b1, y_b2_b1]
    refine AC_of (cloneState_ac (R0.ext (((Ext.refl _).set' n_b1 _).set' n_b2 _)) hs) ?_
    rintro _ h1 - ⟨e1, _, rfl, u1, u2, rfl, q1, q2, d⟩
    simp only [hc, if_true, if_false] at q1 q2 ⊢
    have g2 := e1.2.g b2 _ (by simp -implicitDefEqProofs only [go_sem, hb_b1, hb_b2, z_b2_b1, y_b2_b1]; rfl)
    have hb4 := e1.1
    simp only [H.set_base] at hb4
    simp -implicitDefEqProofs only [go_sem, ldc_get g2, stc_get g2, hb4, q1.sl.one, q2.sl.one, hc, hb_b1, hb_b2, z_b2_b1, y_b2_b1]
    refine ⟨(((((Ext.refl _).set' n_b1 _).set' n_b2 _)).trans e1).set' n_b2 _, _, rfl, _, _, rfl, ?_, ?_, d⟩
    · exact (q1.set (b := b2) (H.set_get_same _ _ _) _).back (((Ext.refl _).set' n_b1 _).set' n_b2 _)
    · exact (q2.set (b := b2) (H.set_get_same _ _ _) _).back (((Ext.refl _).set' n_b1 _).set' n_b2 _)
/-- spec.StateIdle -/
def b_spec_StateIdle : C := (.seq (.ops [⟨(some 1), none, .box (.t 0)⟩, ⟨(some 2), none, .alloc [(i64 0), (i64 0), (i64 0), (i64 0), (i64 0), (str []), nils, nils]⟩])
 (.seq (.seq (.ops [q 3 (.ld true 8 (.t 1)), ⟨(some 4), none, .call (.c (.func (.func 14) #[] #[])) [(.t 3)]⟩, q 5 (.un .not (.t 4))])
 (.cond (.t 5) (.seq (.ops [q 6 (.ld true 8 (.t 1)), ⟨(some 7), none, .call (.c (.func (.func 29) #[] #[])) [(.t 6)]⟩, ⟨none, none, .st 8 (.t 2) (.t 7)⟩])
 .ret) .skip))
 (.seq (.ops [q 8 (.ld true 8 (.t 1)), ⟨(some 9), none, .call (.c (.func (.func 30) #[] #[])) [(.t 8)]⟩, ⟨none, none, .st 8 (.t 2) (.t 9)⟩])
 .ret)))
theorem w_spec_StateIdle {args : List Value} {h : H} {Q : Value → H → Prop} (hl : args.length ≤ 10) (hk : wpc Try.prog b_spec_StateIdle (retw [.cell 2 true 8] Q) (argsFr args) h) : AC Try.prog 12 args h Q :=
  AC.of_wpc mixedOrders Try.func12 (by kernel_rfl) (by kernel_rfl : prepF Try.prog Try.f12 = some ⟨10, [.cell 2 true 8], b_spec_StateIdle⟩) hl hk

theorem specStateIdle_ac {h : H} {cs : List Value} {s : UState} (hv : StR h cs s) (hs : s.small) : AC Try.prog 12 [.agg cs.toArray] h fun r h' => Ext h h' ∧ ∃ cs', r = .agg cs'.toArray ∧ StF h h' cs' (stateIdle s) := by
  have R0 := hv
  obtain ⟨vh, vm, rfl, a1, a2⟩ := hv
  have hidle : stateIdle s = if stateOk s then ⟨1, 0, 0, 0, 0, [], s.held, []⟩ else s := rfl
  rw [hidle]
  refine w_spec_StateIdle (by simp) ?_
  unfold b_spec_StateIdle
  simp -implicitDefEqProofs only [go_sem]
  intro b1 hb_b1 n_b1
  simp -implicitDefEqProofs only [go_sem, hb_b1]
  intro b2 hb_b2 m0_b2
  obtain ⟨z_b2_b1, y_b2_b1, n_b2⟩ := fne m0_b2
  simp only [H.set_base] at hb_b2
  simp -implicitDefEqProofs only [go_sem, hb_b1, hb_b2, z_b2_b1, y_b2_b1]
  refine (specStateRight_pc s (a1.ext (((Ext.refl _).set' n_b1 _).set' n_b2 _)) (a2.ext (((Ext.refl _).set' n_b1 _).set' n_b2 _)) hs).use ?_
  simp -implicitDefEqProofs only [go_sem, hb_b1, hb_b2, z_b2_b1, y_b2_b1]
  refine Br.of (fun hc => ?_) (fun hc => ?_)
  · simp -implicitDefEqProofs only [go_sem, hc, hb_b1, hb_b2, z_b2_b1, y_b2_b1]
    refine AC_of (l12Idle_ac (R0.ext (((Ext.refl _).set' n_b1 _).set' n_b2 _)) hs) ?_
    rintro _ h1 - ⟨e1, _, rfl, u1, u2, rfl, q1, q2, d⟩
    simp only [hc, if_true, if_false] at q1 q2 ⊢
    have g2 := e1.2.g b2 _ (by simp -implicitDefEqProofs only [go_sem, hb_b1, hb_b2, z_b2_b1, y_b2_b1]; rfl)
    have hb4 := e1.1
    simp only [H.set_base] at hb4
    simp -implicitDefEqProofs only [go_sem, ldc_get g2, stc_get g2, hb4, q1.sl.one, q2.sl.one, hc, hb_b1, hb_b2, z_b2_b1, y_b2_b1]
    refine ⟨(((((Ext.refl _).set' n_b1 _).set' n_b2 _)).trans e1).set' n_b2 _, _, rfl, _, _, rfl, ?_, ?_, d⟩
    · exact (q1.set (b := b2) (H.set_get_same _ _ _) _).back (((Ext.refl _).set' n_b1 _).set' n_b2 _)
    · exact (q2.set (b := b2) (H.set_get_same _ _ _) _).back (((Ext.refl _).set' n_b1 _).set' n_b2 _)
  · simp -implicitDefEqProofs only [go_sem, hc, hb_b1, hb_b2, z_b2_b1, y_b2_b1]
    refine AC_of (l12Copy_ac (R0.ext (((Ext.refl _).set' n_b1 _).set' n_b2 _)) hs) ?_
    rintro _ h1 - ⟨e1, _, rfl, u1, u2, rfl, q1, q2, d⟩
    simp only [hc, if_true, if_false] at q1 q2 ⊢
    have g2 := e1.2.g b2 _ (by simp -implicitDefEqProofs only [go_sem, hb_b1, hb_b2, z_b2_b1, y_b2_b1]; rfl)
    have hb4 := e1.1
    simp only [H.set_base] at hb4
    simp -implicitDefEqProofs only [go_sem, ldc_get g2, stc_get g2, hb4, q1.sl.one, q2.sl.one, hc, hb_b1, hb_b2, z_b2_b1, y_b2_b1]
    refine ⟨(((((Ext.refl _).set' n_b1 _).set' n_b2 _)).trans e1).set' n_b2 _, _, rfl, _, _, rfl, ?_, ?_, d⟩
    · exact (q1.set (b := b2) (H.set_get_same _ _ _) _).back (((Ext.refl _).set' n_b1 _).set' n_b2 _)
    · exact (q2.set (b := b2) (H.set_get_same _ _ _) _).back (((Ext.refl _).set' n_b1 _).set' n_b2 _)
end Go.Proofs.Ytdofcojbjcpikaa
