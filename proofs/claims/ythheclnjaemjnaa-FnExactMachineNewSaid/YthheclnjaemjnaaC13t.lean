/- A helper of this seat's claims (contracts of the functions): what it shows is shown for every input that its statements name, on no other condition. -/
import Derived.Test.YthheclnjaemjnaaC13s
set_option linter.unusedVariables false
set_option linter.unusedSimpArgs false
set_option maxRecDepth 100000
namespace Go.Proofs.Ythheclnjaemjnaa
open Go.KH

/-! ## Machines that can be started: what is read -/
theorem stI_ok {t : List UInt8} {s : UState} (h : stI t = some s) : stateOk s := by
  unfold stI at h
  simp only at h
  split at h
  · rename_i hc
    simp only [Option.some.injEq] at h
    rw [← h]; exact hc.2.2.2.2
  · cases h
theorem stM_ok {m : UMach} {s : UState} (h : stM m = some s) : machFit m ∧ stateOk s := by
  unfold stM at h
  split at h
  · rename_i hc; exact ⟨hc.1, stI_ok h⟩
  · cases h
theorem stM_small (m : UMach) : ((stM m).getD zeroS).held.length ≤ 24 ∧ ((stM m).getD zeroS).mine.length ≤ 24 := by
  cases hs : stM m with
  | none => simp [zeroS]
  | some s =>
    have := (stM_ok hs).2
    exact ⟨listOk_le this.2.1, listOk_le this.2.2.1⟩
def fitOut (m : UMach) : Bool := (stM m).isSome
/-- impl.MachineFit -/
def b_impl_MachineFit : C := (.seq (.ops [⟨(some 1), none, .box (.t 0)⟩, q 2 (.mv (.c (.bool false)))])
 (.seq (.ops [q 6 (.ld true 3 (.t 1)), ⟨(some 7), none, .call (.c (.func (.func 114) #[] #[])) [(.t 6)]⟩, q 5 (.mv (.t 7)), q 8 (.ext 0 (.t 5)), q 9 (.ext 1 (.t 5)), ⟨(some 3), none, .alloc [(i64 0), (i64 0), (i64 0), (i64 0), (i64 0), (str []), nils, nils]⟩, ⟨none, none, .st 8 (.t 3) (.t 8)⟩, q 4 (.mv (.t 9))])
 (.seq (.ops [q 10 (.mv (.t 4)), q 2 (.mv (.t 10))])
 .ret)))
theorem w_impl_MachineFit {args : List Value} {h : H} {Q : Value → H → Prop} (hl : args.length ≤ 11) (hk : wpc Try.prog b_impl_MachineFit (retw [.tmp 2] Q) (argsFr args) h) : AC Try.prog 45 args h Q :=
  AC.of_wpc mixedOrders Try.func45 (by kernel_rfl) (by kernel_rfl : prepF Try.prog Try.f45 = some ⟨11, [.tmp 2], b_impl_MachineFit⟩) hl hk

theorem implMachineFit_pc {h : H} {cs : List Value} {m : UMach} (hv : RepR h (spMach m) cs) (hs : m.flash.fin1) : PC Try.prog 45 [.agg cs.toArray] h (.bool (fitOut m)) := by
  have l1 := hv.len
  simp only [List.length_cons, List.length_nil, Nat.reduceAdd] at l1
  have t1 := take_len l1
  have o1 := hv.one
  refine PC_of ?_
  skip
  refine w_impl_MachineFit (by simp) ?_
  unfold b_impl_MachineFit
  simp -implicitDefEqProofs only [go_sem, ↓reduceIte, reduceCtorEq, Int.reduceEq, Int.reduceLT, Int.reduceLE, Nat.reduceEqDiff, Nat.reduceAdd, Nat.reduceMul, Nat.reduceLeDiff, Nat.reduceSub, Int.reduceNeg, l1, t1, o1]
  intro b1 hb_b1 n_b1
  simp -implicitDefEqProofs only [go_sem, ↓reduceIte, reduceCtorEq, Int.reduceEq, Int.reduceLT, Int.reduceLE, Nat.reduceEqDiff, Nat.reduceAdd, Nat.reduceMul, Nat.reduceLeDiff, Nat.reduceSub, Int.reduceNeg, l1, t1, o1, hb_b1]
  refine AC_of (stateOf_ac (hv.ext ((Ext.refl _).set' n_b1 _)) hs) ?_
  rintro _ h2 - ⟨e2, cs2, rfl, F2⟩
  have l2 := F2.r.len
  have t2 := take_len l2
  have o2 := F2.r.one
  simp -implicitDefEqProofs only [go_sem, ↓reduceIte, reduceCtorEq, Int.reduceEq, Int.reduceLT, Int.reduceLE, Nat.reduceEqDiff, Nat.reduceAdd, Nat.reduceMul, Nat.reduceLeDiff, Nat.reduceSub, Int.reduceNeg, l2, t2, o2, l1, t1, o1, hb_b1]
  intro b3 hb3 n3
  simp -implicitDefEqProofs only [go_sem, ↓reduceIte, reduceCtorEq, Int.reduceEq, Int.reduceLT, Int.reduceLE, Nat.reduceEqDiff, Nat.reduceAdd, Nat.reduceMul, Nat.reduceLeDiff, Nat.reduceSub, Int.reduceNeg, l2, t2, o2, hb3, l1, t1, o1, hb_b1]
  exact ⟨((((Ext.refl _).set' n_b1 _)).trans e2).set n3 _, rfl⟩
/-- spec.MachineFit -/
def b_spec_MachineFit : C := (.seq (.ops [⟨(some 1), none, .box (.t 0)⟩, q 2 (.mv (.c (.bool false)))])
 (.seq (.ops [q 6 (.ld true 3 (.t 1)), ⟨(some 7), none, .call (.c (.func (.func 112) #[] #[])) [(.t 6)]⟩, q 5 (.mv (.t 7)), q 8 (.ext 0 (.t 5)), q 9 (.ext 1 (.t 5)), ⟨(some 3), none, .alloc [(i64 0), (i64 0), (i64 0), (i64 0), (i64 0), (str []), nils, nils]⟩, ⟨none, none, .st 8 (.t 3) (.t 8)⟩, q 4 (.mv (.t 9))])
 (.seq (.ops [q 10 (.mv (.t 4)), q 2 (.mv (.t 10))])
 .ret)))
theorem w_spec_MachineFit {args : List Value} {h : H} {Q : Value → H → Prop} (hl : args.length ≤ 11) (hk : wpc Try.prog b_spec_MachineFit (retw [.tmp 2] Q) (argsFr args) h) : AC Try.prog 43 args h Q :=
  AC.of_wpc mixedOrders Try.func43 (by kernel_rfl) (by kernel_rfl : prepF Try.prog Try.f43 = some ⟨11, [.tmp 2], b_spec_MachineFit⟩) hl hk

theorem specMachineFit_pc {h : H} {cs : List Value} {m : UMach} (hv : RepR h (spMach m) cs) (hs : m.flash.fin1) : PC Try.prog 43 [.agg cs.toArray] h (.bool (fitOut m)) := by
  have l1 := hv.len
  simp only [List.length_cons, List.length_nil, Nat.reduceAdd] at l1
  have t1 := take_len l1
  have o1 := hv.one
  refine PC_of ?_
  skip
  refine w_spec_MachineFit (by simp) ?_
  unfold b_spec_MachineFit
  simp -implicitDefEqProofs only [go_sem, ↓reduceIte, reduceCtorEq, Int.reduceEq, Int.reduceLT, Int.reduceLE, Nat.reduceEqDiff, Nat.reduceAdd, Nat.reduceMul, Nat.reduceLeDiff, Nat.reduceSub, Int.reduceNeg, l1, t1, o1]
  intro b1 hb_b1 n_b1
  simp -implicitDefEqProofs only [go_sem, ↓reduceIte, reduceCtorEq, Int.reduceEq, Int.reduceLT, Int.reduceLE, Nat.reduceEqDiff, Nat.reduceAdd, Nat.reduceMul, Nat.reduceLeDiff, Nat.reduceSub, Int.reduceNeg, l1, t1, o1, hb_b1]
  refine AC_of (l13State_ac (hv.ext ((Ext.refl _).set' n_b1 _)) hs) ?_
  rintro _ h2 - ⟨e2, cs2, rfl, F2⟩
  have l2 := F2.r.len
  have t2 := take_len l2
  have o2 := F2.r.one
  simp -implicitDefEqProofs only [go_sem, ↓reduceIte, reduceCtorEq, Int.reduceEq, Int.reduceLT, Int.reduceLE, Nat.reduceEqDiff, Nat.reduceAdd, Nat.reduceMul, Nat.reduceLeDiff, Nat.reduceSub, Int.reduceNeg, l2, t2, o2, l1, t1, o1, hb_b1]
  intro b3 hb3 n3
  simp -implicitDefEqProofs only [go_sem, ↓reduceIte, reduceCtorEq, Int.reduceEq, Int.reduceLT, Int.reduceLE, Nat.reduceEqDiff, Nat.reduceAdd, Nat.reduceMul, Nat.reduceLeDiff, Nat.reduceSub, Int.reduceNeg, l2, t2, o2, hb3, l1, t1, o1, hb_b1]
  exact ⟨((((Ext.refl _).set' n_b1 _)).trans e2).set n3 _, rfl⟩
def stateOfOut (m : UMach) : UState × Int := match stM m with | some s => (s, 0) | none => (zeroS, 1)
theorem stateOfOut_small (m : UMach) : (stateOfOut m).1.held.length ≤ 24 ∧ (stateOfOut m).1.mine.length ≤ 24 := by
  have := stM_small m
  unfold stateOfOut
  cases hs : stM m with
  | none => simp [zeroS]
  | some s => rw [hs] at this; exact this
/-- impl.StateOf -/
def b_impl_StateOf : C := (.seq (.ops [⟨(some 1), none, .box (.t 0)⟩, ⟨(some 2), none, .alloc [(i64 0), (i64 0), (i64 0), (i64 0), (i64 0), (str []), nils, nils, (i64 0)]⟩])
 (.seq (.ops [q 6 (.ld true 3 (.t 1)), ⟨(some 7), none, .call (.c (.func (.func 114) #[] #[])) [(.t 6)]⟩, q 5 (.mv (.t 7)), q 8 (.ext 0 (.t 5)), q 9 (.ext 1 (.t 5)), ⟨(some 3), none, .alloc [(i64 0), (i64 0), (i64 0), (i64 0), (i64 0), (str []), nils, nils]⟩, ⟨none, none, .st 8 (.t 3) (.t 8)⟩, q 4 (.mv (.t 9))])
 (.seq (.seq (.ops [q 10 (.mv (.t 4)), q 11 (.un .not (.t 10))])
 (.cond (.t 11) (.seq (.ops [q 12 (.build [(i64 0), (i64 0), (i64 0), (i64 0), (i64 0), (str []), nils, nils, (i64 0)] [(8, 1, (.c (i64 1)))]), ⟨none, none, .st 9 (.t 2) (.t 12)⟩])
 .ret) .skip))
 (.seq (.ops [q 13 (.ld true 8 (.t 3)), q 14 (.build [(i64 0), (i64 0), (i64 0), (i64 0), (i64 0), (str []), nils, nils, (i64 0)] [(0, 8, (.t 13))]), ⟨none, none, .st 9 (.t 2) (.t 14)⟩])
 .ret))))
theorem w_impl_StateOf {args : List Value} {h : H} {Q : Value → H → Prop} (hl : args.length ≤ 15) (hk : wpc Try.prog b_impl_StateOf (retw [.cell 2 true 9] Q) (argsFr args) h) : AC Try.prog 59 args h Q :=
  AC.of_wpc mixedOrders Try.func59 (by kernel_rfl) (by kernel_rfl : prepF Try.prog Try.f59 = some ⟨15, [.cell 2 true 9], b_impl_StateOf⟩) hl hk

theorem implStateOf_ac {h : H} {cs : List Value} {m : UMach} (hv : RepR h (spMach m) cs) (hs : m.flash.fin1) : AC Try.prog 59 [.agg cs.toArray] h fun r h' => Ext h h' ∧ ∃ cs', r = .agg cs'.toArray ∧ RepF h h' (spSto (stateOfOut m)) cs' := by
  have l1 := hv.len
  simp only [List.length_cons, List.length_nil, Nat.reduceAdd] at l1
  have t1 := take_len l1
  have o1 := hv.one
  unfold stateOfOut
  skip
  refine w_impl_StateOf (by simp) ?_
  unfold b_impl_StateOf
  simp -implicitDefEqProofs only [go_sem, ↓reduceIte, reduceCtorEq, Int.reduceEq, Int.reduceLT, Int.reduceLE, Nat.reduceEqDiff, Nat.reduceAdd, Nat.reduceMul, Nat.reduceLeDiff, Nat.reduceSub, Int.reduceNeg, l1, t1, o1]
  intro b1 hb_b1 n_b1
  simp -implicitDefEqProofs only [go_sem, ↓reduceIte, reduceCtorEq, Int.reduceEq, Int.reduceLT, Int.reduceLE, Nat.reduceEqDiff, Nat.reduceAdd, Nat.reduceMul, Nat.reduceLeDiff, Nat.reduceSub, Int.reduceNeg, l1, t1, o1, hb_b1]
  intro b2 hb_b2 m0_b2
  obtain ⟨z_b2_b1, y_b2_b1, n_b2⟩ := fne m0_b2
  simp only [H.set_base] at hb_b2
  simp -implicitDefEqProofs only [go_sem, ↓reduceIte, reduceCtorEq, Int.reduceEq, Int.reduceLT, Int.reduceLE, Nat.reduceEqDiff, Nat.reduceAdd, Nat.reduceMul, Nat.reduceLeDiff, Nat.reduceSub, Int.reduceNeg, l1, t1, o1, hb_b1, hb_b2, z_b2_b1, y_b2_b1]
  refine AC_of (stateOf_ac (hv.ext (((Ext.refl _).set' n_b1 _).set' n_b2 _)) hs) ?_
  rintro _ h2 - ⟨e2, cs2, rfl, F2⟩
  have l2 := F2.r.len
  have t2 := take_len l2
  have o2 := F2.r.one
  have g2 := e2.2.g b2 _ (by simp -implicitDefEqProofs only [go_sem, ↓reduceIte, reduceCtorEq, Int.reduceEq, Int.reduceLT, Int.reduceLE, Nat.reduceEqDiff, Nat.reduceAdd, Nat.reduceMul, Nat.reduceLeDiff, Nat.reduceSub, Int.reduceNeg, l1, t1, o1, hb_b1, hb_b2, z_b2_b1, y_b2_b1]; rfl)
  have hb5 := e2.1
  simp only [H.set_base] at hb5
  simp -implicitDefEqProofs only [go_sem, ↓reduceIte, reduceCtorEq, Int.reduceEq, Int.reduceLT, Int.reduceLE, Nat.reduceEqDiff, Nat.reduceAdd, Nat.reduceMul, Nat.reduceLeDiff, Nat.reduceSub, Int.reduceNeg, l2, t2, o2, l1, t1, o1, hb_b1, hb_b2, z_b2_b1, y_b2_b1]
  intro b3 hb3 n3
  have z32 : (b2 = b3) = False := eq_false fun e => by rw [← e, g2] at n3; cases n3
  have y32 : (b3 = b2) = False := eq_false fun e => (of_eq_false z32) e.symm
  have e3 := fun x => (Ext.refl h2).set n3 x
  have hb3' := hb3
  rw [hb5] at hb3'
  have E2 := ((((Ext.refl _).set' n_b1 _).set' n_b2 _)).trans e2
  have n3h := E2.none n3
  cases hst : stM m with
  | none =>
    simp -implicitDefEqProofs only [go_sem, ↓reduceIte, reduceCtorEq, Int.reduceEq, Int.reduceLT, Int.reduceLE, Nat.reduceEqDiff, Nat.reduceAdd, Nat.reduceMul, Nat.reduceLeDiff, Nat.reduceSub, Int.reduceNeg, l2, t2, o2, hb3, hb3', z32, y32, stc_get g2, hb5, Option.isSome_none, l1, t1, o1, hb_b1, hb_b2, z_b2_b1, y_b2_b1]
    exact ⟨(E2.set' n_b2 _).set' n3h _, _, rfl, sto_f.2 ⟨_, rfl, zero_f _ _⟩⟩
  | some s =>
    rw [hst] at F2
    obtain ⟨uh, um, rfl, p1, p2, d⟩ := F2
    have q1 := p1.sl.one
    have q2 := p2.sl.one
    simp -implicitDefEqProofs only [go_sem, ↓reduceIte, reduceCtorEq, Int.reduceEq, Int.reduceLT, Int.reduceLE, Nat.reduceEqDiff, Nat.reduceAdd, Nat.reduceMul, Nat.reduceLeDiff, Nat.reduceSub, Int.reduceNeg, q1, q2, l2, t2, hb3, hb3', z32, y32, stc_get g2, hb5, Option.isSome_some, Option.getD_some, l1, t1, o1, hb_b1, hb_b2, z_b2_b1, y_b2_b1]
    refine ⟨(E2.set' n_b2 _).set' n3h _, _, rfl, sto_f.2 ⟨_, rfl, uh, um, rfl, ?_, ?_, d⟩⟩
    · exact ((p1.set (b := b2) (H.set_get_same _ _ _) _).ext ((Ext.refl _).set (by rw [H.set_get_ne _ _ _ _ (of_eq_false y32)]; exact n3) _)).back (((Ext.refl _).set' n_b1 _).set' n_b2 _)
    · exact ((p2.set (b := b2) (H.set_get_same _ _ _) _).ext ((Ext.refl _).set (by rw [H.set_get_ne _ _ _ _ (of_eq_false y32)]; exact n3) _)).back (((Ext.refl _).set' n_b1 _).set' n_b2 _)
/-- spec.StateOf -/
def b_spec_StateOf : C := (.seq (.ops [⟨(some 1), none, .box (.t 0)⟩, ⟨(some 2), none, .alloc [(i64 0), (i64 0), (i64 0), (i64 0), (i64 0), (str []), nils, nils, (i64 0)]⟩])
 (.seq (.ops [q 6 (.ld true 3 (.t 1)), ⟨(some 7), none, .call (.c (.func (.func 112) #[] #[])) [(.t 6)]⟩, q 5 (.mv (.t 7)), q 8 (.ext 0 (.t 5)), q 9 (.ext 1 (.t 5)), ⟨(some 3), none, .alloc [(i64 0), (i64 0), (i64 0), (i64 0), (i64 0), (str []), nils, nils]⟩, ⟨none, none, .st 8 (.t 3) (.t 8)⟩, q 4 (.mv (.t 9))])
 (.seq (.seq (.ops [q 10 (.mv (.t 4)), q 11 (.un .not (.t 10))])
 (.cond (.t 11) (.seq (.ops [q 12 (.build [(i64 0), (i64 0), (i64 0), (i64 0), (i64 0), (str []), nils, nils, (i64 0)] [(8, 1, (.c (i64 1)))]), ⟨none, none, .st 9 (.t 2) (.t 12)⟩])
 .ret) .skip))
 (.seq (.ops [q 13 (.ld true 8 (.t 3)), q 14 (.build [(i64 0), (i64 0), (i64 0), (i64 0), (i64 0), (str []), nils, nils, (i64 0)] [(0, 8, (.t 13))]), ⟨none, none, .st 9 (.t 2) (.t 14)⟩])
 .ret))))
theorem w_spec_StateOf {args : List Value} {h : H} {Q : Value → H → Prop} (hl : args.length ≤ 15) (hk : wpc Try.prog b_spec_StateOf (retw [.cell 2 true 9] Q) (argsFr args) h) : AC Try.prog 58 args h Q :=
  AC.of_wpc mixedOrders Try.func58 (by kernel_rfl) (by kernel_rfl : prepF Try.prog Try.f58 = some ⟨15, [.cell 2 true 9], b_spec_StateOf⟩) hl hk

theorem specStateOf_ac {h : H} {cs : List Value} {m : UMach} (hv : RepR h (spMach m) cs) (hs : m.flash.fin1) : AC Try.prog 58 [.agg cs.toArray] h fun r h' => Ext h h' ∧ ∃ cs', r = .agg cs'.toArray ∧ RepF h h' (spSto (stateOfOut m)) cs' := by
  have l1 := hv.len
  simp only [List.length_cons, List.length_nil, Nat.reduceAdd] at l1
  have t1 := take_len l1
  have o1 := hv.one
  unfold stateOfOut
  skip
  refine w_spec_StateOf (by simp) ?_
  unfold b_spec_StateOf
  simp -implicitDefEqProofs only [go_sem, ↓reduceIte, reduceCtorEq, Int.reduceEq, Int.reduceLT, Int.reduceLE, Nat.reduceEqDiff, Nat.reduceAdd, Nat.reduceMul, Nat.reduceLeDiff, Nat.reduceSub, Int.reduceNeg, l1, t1, o1]
  intro b1 hb_b1 n_b1
  simp -implicitDefEqProofs only [go_sem, ↓reduceIte, reduceCtorEq, Int.reduceEq, Int.reduceLT, Int.reduceLE, Nat.reduceEqDiff, Nat.reduceAdd, Nat.reduceMul, Nat.reduceLeDiff, Nat.reduceSub, Int.reduceNeg, l1, t1, o1, hb_b1]
  intro b2 hb_b2 m0_b2
  obtain ⟨z_b2_b1, y_b2_b1, n_b2⟩ := fne m0_b2
  simp only [H.set_base] at hb_b2
  simp -implicitDefEqProofs only [go_sem, ↓reduceIte, reduceCtorEq, Int.reduceEq, Int.reduceLT, Int.reduceLE, Nat.reduceEqDiff, Nat.reduceAdd, Nat.reduceMul, Nat.reduceLeDiff, Nat.reduceSub, Int.reduceNeg, l1, t1, o1, hb_b1, hb_b2, z_b2_b1, y_b2_b1]
  refine AC_of (l13State_ac (hv.ext (((Ext.refl _).set' n_b1 _).set' n_b2 _)) hs) ?_
  rintro _ h2 - ⟨e2, cs2, rfl, F2⟩
  have l2 := F2.r.len
  have t2 := take_len l2
  have o2 := F2.r.one
  have g2 := e2.2.g b2 _ (by simp -implicitDefEqProofs only [go_sem, ↓reduceIte, reduceCtorEq, Int.reduceEq, Int.reduceLT, Int.reduceLE, Nat.reduceEqDiff, Nat.reduceAdd, Nat.reduceMul, Nat.reduceLeDiff, Nat.reduceSub, Int.reduceNeg, l1, t1, o1, hb_b1, hb_b2, z_b2_b1, y_b2_b1]; rfl)
  have hb5 := e2.1
  simp only [H.set_base] at hb5
  simp -implicitDefEqProofs only [go_sem, ↓reduceIte, reduceCtorEq, Int.reduceEq, Int.reduceLT, Int.reduceLE, Nat.reduceEqDiff, Nat.reduceAdd, Nat.reduceMul, Nat.reduceLeDiff, Nat.reduceSub, Int.reduceNeg, l2, t2, o2, l1, t1, o1, hb_b1, hb_b2, z_b2_b1, y_b2_b1]
  intro b3 hb3 n3
  have z32 : (b2 = b3) = False := eq_false fun e => by rw [← e, g2] at n3; cases n3
  have y32 : (b3 = b2) = False := eq_false fun e => (of_eq_false z32) e.symm
  have e3 := fun x => (Ext.refl h2).set n3 x
  have hb3' := hb3
  rw [hb5] at hb3'
  have E2 := ((((Ext.refl _).set' n_b1 _).set' n_b2 _)).trans e2
  have n3h := E2.none n3
  cases hst : stM m with
  | none =>
    simp -implicitDefEqProofs only [go_sem, ↓reduceIte, reduceCtorEq, Int.reduceEq, Int.reduceLT, Int.reduceLE, Nat.reduceEqDiff, Nat.reduceAdd, Nat.reduceMul, Nat.reduceLeDiff, Nat.reduceSub, Int.reduceNeg, l2, t2, o2, hb3, hb3', z32, y32, stc_get g2, hb5, Option.isSome_none, l1, t1, o1, hb_b1, hb_b2, z_b2_b1, y_b2_b1]
    exact ⟨(E2.set' n_b2 _).set' n3h _, _, rfl, sto_f.2 ⟨_, rfl, zero_f _ _⟩⟩
  | some s =>
    rw [hst] at F2
    obtain ⟨uh, um, rfl, p1, p2, d⟩ := F2
    have q1 := p1.sl.one
    have q2 := p2.sl.one
    simp -implicitDefEqProofs only [go_sem, ↓reduceIte, reduceCtorEq, Int.reduceEq, Int.reduceLT, Int.reduceLE, Nat.reduceEqDiff, Nat.reduceAdd, Nat.reduceMul, Nat.reduceLeDiff, Nat.reduceSub, Int.reduceNeg, q1, q2, l2, t2, hb3, hb3', z32, y32, stc_get g2, hb5, Option.isSome_some, Option.getD_some, l1, t1, o1, hb_b1, hb_b2, z_b2_b1, y_b2_b1]
    refine ⟨(E2.set' n_b2 _).set' n3h _, _, rfl, sto_f.2 ⟨_, rfl, uh, um, rfl, ?_, ?_, d⟩⟩
    · exact ((p1.set (b := b2) (H.set_get_same _ _ _) _).ext ((Ext.refl _).set (by rw [H.set_get_ne _ _ _ _ (of_eq_false y32)]; exact n3) _)).back (((Ext.refl _).set' n_b1 _).set' n_b2 _)
    · exact ((p2.set (b := b2) (H.set_get_same _ _ _) _).ext ((Ext.refl _).set (by rw [H.set_get_ne _ _ _ _ (of_eq_false y32)]; exact n3) _)).back (((Ext.refl _).set' n_b1 _).set' n_b2 _)
def areaOf (m : UMach) (n : Int) : List UInt8 := flashGet m.flash (3 + m.blocks + n)
theorem areaOf_len {m : UMach} (hf : machFit m) (n : Int) : (areaOf m n).length ≤ 96 := flashGet_len hf.2.1 _
/-- (impl.Machine).areaAt -/
def b_impl_Machine_areaAt : C := (.seq (.ops [⟨(some 2), none, .box (.t 0)⟩, q 4 (.mv (.c (i64 0)))])
 (.seq (.ops [q 5 (.fld 0 (.t 2)), q 6 (.ld false 1 (.t 5)), q 7 (.bin .add (.c (i64 3)) (.t 6)), q 8 (.mv (.t 1)), q 9 (.bin .add (.t 7) (.t 8)), q 4 (.mv (.t 9))])
 .ret))
theorem w_impl_Machine_areaAt {args : List Value} {h : H} {Q : Value → H → Prop} (hl : args.length ≤ 10) (hk : wpc Try.prog b_impl_Machine_areaAt (retw [.tmp 4] Q) (argsFr args) h) : AC Try.prog 185 args h Q :=
  AC.of_wpc mixedOrders Try.func185 (by kernel_rfl) (by kernel_rfl : prepF Try.prog Try.f185 = some ⟨10, [.tmp 4], b_impl_Machine_areaAt⟩) hl hk

theorem areaAt_pc {h : H} {cs : List Value} {m : UMach} {n : Int} (hv : RepR h (spMach m) cs) (hb : 1 ≤ m.blocks ∧ m.blocks ≤ 8) (hn : 0 ≤ n ∧ n ≤ 100) : PC Try.prog 185 [.agg cs.toArray, i64 n] h (i64 (3 + m.blocks + n)) := by
  obtain ⟨vs, vd, rfl, r⟩ := mach_r.1 hv
  have o1 := r.1.one
  have o2 := r.2.one
  refine PC_of ?_
  skip
  refine w_impl_Machine_areaAt (by simp) ?_
  unfold b_impl_Machine_areaAt
  simp -implicitDefEqProofs only [go_sem, ↓reduceIte, reduceCtorEq, Int.reduceEq, Int.reduceLT, Int.reduceLE, Nat.reduceEqDiff, Nat.reduceAdd, Nat.reduceMul, Nat.reduceLeDiff, Nat.reduceSub, Int.reduceNeg, o1, o2]
  intro b1 hb_b1 n_b1
  simp -implicitDefEqProofs only [go_sem, ↓reduceIte, reduceCtorEq, Int.reduceEq, Int.reduceLT, Int.reduceLE, Nat.reduceEqDiff, Nat.reduceAdd, Nat.reduceMul, Nat.reduceLeDiff, Nat.reduceSub, Int.reduceNeg, wrap_i64 (show -(9223372036854775808 : Int) ≤ (3 + m.blocks) by omega) (show (3 + m.blocks) < 9223372036854775808 by omega), wrap_i64 (show -(9223372036854775808 : Int) ≤ (3 + m.blocks + n) by omega) (show (3 + m.blocks + n) < 9223372036854775808 by omega), o1, o2, hb_b1]
  exact ((Ext.refl _).set' n_b1 _)
/-- spec.l13Area -/
def b_spec_l13Area : C := (.seq (.ops [⟨(some 2), none, .box (.t 0)⟩, q 4 (.mv (.c (i64 0)))])
 (.seq (.ops [q 5 (.fld 0 (.t 2)), q 6 (.ld false 1 (.t 5)), q 7 (.bin .add (.c (i64 3)) (.t 6)), q 8 (.mv (.t 1)), q 9 (.bin .add (.t 7) (.t 8)), q 4 (.mv (.t 9))])
 .ret))
theorem w_spec_l13Area {args : List Value} {h : H} {Q : Value → H → Prop} (hl : args.length ≤ 10) (hk : wpc Try.prog b_spec_l13Area (retw [.tmp 4] Q) (argsFr args) h) : AC Try.prog 183 args h Q :=
  AC.of_wpc mixedOrders Try.func183 (by kernel_rfl) (by kernel_rfl : prepF Try.prog Try.f183 = some ⟨10, [.tmp 4], b_spec_l13Area⟩) hl hk

theorem l13Area_pc {h : H} {cs : List Value} {m : UMach} {n : Int} (hv : RepR h (spMach m) cs) (hb : 1 ≤ m.blocks ∧ m.blocks ≤ 8) (hn : 0 ≤ n ∧ n ≤ 100) : PC Try.prog 183 [.agg cs.toArray, i64 n] h (i64 (3 + m.blocks + n)) := by
  obtain ⟨vs, vd, rfl, r⟩ := mach_r.1 hv
  have o1 := r.1.one
  have o2 := r.2.one
  refine PC_of ?_
  skip
  refine w_spec_l13Area (by simp) ?_
  unfold b_spec_l13Area
  simp -implicitDefEqProofs only [go_sem, ↓reduceIte, reduceCtorEq, Int.reduceEq, Int.reduceLT, Int.reduceLE, Nat.reduceEqDiff, Nat.reduceAdd, Nat.reduceMul, Nat.reduceLeDiff, Nat.reduceSub, Int.reduceNeg, o1, o2]
  intro b1 hb_b1 n_b1
  simp -implicitDefEqProofs only [go_sem, ↓reduceIte, reduceCtorEq, Int.reduceEq, Int.reduceLT, Int.reduceLE, Nat.reduceEqDiff, Nat.reduceAdd, Nat.reduceMul, Nat.reduceLeDiff, Nat.reduceSub, Int.reduceNeg, wrap_i64 (show -(9223372036854775808 : Int) ≤ (3 + m.blocks) by omega) (show (3 + m.blocks) < 9223372036854775808 by omega), wrap_i64 (show -(9223372036854775808 : Int) ≤ (3 + m.blocks + n) by omega) (show (3 + m.blocks + n) < 9223372036854775808 by omega), o1, o2, hb_b1]
  exact ((Ext.refl _).set' n_b1 _)
/-- (impl.Machine).area -/
def b_impl_Machine_area : C := (.seq (.ops [⟨(some 2), none, .box (.t 0)⟩, q 4 (.mv (.c (str [])))])
 (.seq (.dops true (.tk (q 5 (.fld 1 (.t 2))) (.tk (q 6 (.ld true 2 (.t 5))) (.tk (q 7 (.ld true 3 (.t 2))) (.tk (q 8 (.mv (.t 1))) (.sq (⟨(some 9), none, .call (.c (.func (.func 185) #[] #[])) [(.t 7), (.t 8)]⟩) (.sq (⟨(some 10), none, .call (.c (.func (.func 184) #[] #[])) [(.t 6), (.t 9)]⟩) (.tk (q 4 (.mv (.t 10))) .nil))))))))
 .ret))
theorem w_impl_Machine_area {args : List Value} {h : H} {Q : Value → H → Prop} (hl : args.length ≤ 11) (hk : wpc Try.prog b_impl_Machine_area (retw [.tmp 4] Q) (argsFr args) h) : AC Try.prog 118 args h Q :=
  AC.of_wpc mixedOrders Try.func118 (by kernel_rfl) (by kernel_rfl : prepF Try.prog Try.f118 = some ⟨11, [.tmp 4], b_impl_Machine_area⟩) hl hk

theorem area_pc {h : H} {cs : List Value} {m : UMach} {n : Int} (hv : RepR h (spMach m) cs) (hf : machFit m) (hn : 0 ≤ n ∧ n ≤ 23) : PC Try.prog 118 [.agg cs.toArray, i64 n] h (str (areaOf m n)) := by
  have hv0 := hv
  obtain ⟨vs, vd, rfl, r⟩ := mach_r.1 hv
  have o1 := r.1.one
  have o2 := r.2.one
  have hd := flashOk_small hf.2.1
  have h27 := hf.2.2
  have hb := hf.1
  refine PC_of ?_
  skip
  refine w_impl_Machine_area (by simp) ?_
  unfold b_impl_Machine_area
  simp -implicitDefEqProofs only [go_sem, ↓reduceIte, reduceCtorEq, Int.reduceEq, Int.reduceLT, Int.reduceLE, Nat.reduceEqDiff, Nat.reduceAdd, Nat.reduceMul, Nat.reduceLeDiff, Nat.reduceSub, Int.reduceNeg, o1, o2]
  intro b1 hb_b1 n_b1
  simp -implicitDefEqProofs only [go_sem, ↓reduceIte, reduceCtorEq, Int.reduceEq, Int.reduceLT, Int.reduceLE, Nat.reduceEqDiff, Nat.reduceAdd, Nat.reduceMul, Nat.reduceLeDiff, Nat.reduceSub, Int.reduceNeg, o1, o2, hb_b1]
  refine (areaAt_pc (hv0.ext ((Ext.refl _).set' n_b1 _)) hb (by omega)).use ?_
  simp -implicitDefEqProofs only [go_sem, ↓reduceIte, reduceCtorEq, Int.reduceEq, Int.reduceLT, Int.reduceLE, Nat.reduceEqDiff, Nat.reduceAdd, Nat.reduceMul, Nat.reduceLeDiff, Nat.reduceSub, Int.reduceNeg, Sub.refl, o1, o2, hb_b1]
  refine (read_pc (r.ext ((Ext.refl _).set' n_b1 _)) (by omega) (by omega)).use ?_
  simp -implicitDefEqProofs only [go_sem, ↓reduceIte, reduceCtorEq, Int.reduceEq, Int.reduceLT, Int.reduceLE, Nat.reduceEqDiff, Nat.reduceAdd, Nat.reduceMul, Nat.reduceLeDiff, Nat.reduceSub, Int.reduceNeg, Sub.refl, o1, o2, hb_b1]
  exact ⟨((Ext.refl _).set' n_b1 _), rfl⟩
/-- spec.l13Stash -/
def b_spec_l13Stash : C := (.seq (.ops [⟨(some 3), none, .box (.t 0)⟩, ⟨(some 4), none, .box (.t 1)⟩, q 6 (.mv (.c (str [])))])
 (.seq (.dops true (.tk (q 7 (.fld 1 (.t 3))) (.tk (q 8 (.ld true 2 (.t 7))) (.tk (q 9 (.ld true 3 (.t 3))) (.tk (q 10 (.fld 7 (.t 4))) (.tk (q 11 (.ld false 1 (.t 10))) (.tk (q 12 (.mv (.t 2))) (.tk (q 13 (.idx 1 (.t 11) (.t 12))) (.tk (q 14 (.ld false 1 (.t 13))) (.sq (⟨(some 15), none, .call (.c (.func (.func 183) #[] #[])) [(.t 9), (.t 14)]⟩) (.sq (⟨(some 16), none, .call (.c (.func (.func 182) #[] #[])) [(.t 8), (.t 15)]⟩) (.tk (q 6 (.mv (.t 16))) .nil))))))))))))
 .ret))
theorem w_spec_l13Stash {args : List Value} {h : H} {Q : Value → H → Prop} (hl : args.length ≤ 17) (hk : wpc Try.prog b_spec_l13Stash (retw [.tmp 6] Q) (argsFr args) h) : AC Try.prog 116 args h Q :=
  AC.of_wpc mixedOrders Try.func116 (by kernel_rfl) (by kernel_rfl : prepF Try.prog Try.f116 = some ⟨17, [.tmp 6], b_spec_l13Stash⟩) hl hk

theorem l13Stash_pc {h : H} {cs c2 : List Value} {m : UMach} {s : UState} {k : Nat} (hv : RepR h (spMach m) cs) (hf : machFit m) (hst : StR h c2 s) (hok : stateOk s) (hk : k < s.mine.length) : PC Try.prog 116 [.agg cs.toArray, .agg c2.toArray, i64 k] h (str (areaOf m s.mine[k])) := by
  have hv0 := hv
  have hm := listOk_mem hok.2.2.1 _ (List.getElem_mem hk)
  obtain ⟨vs, vd, rfl, r⟩ := mach_r.1 hv
  obtain ⟨uh, um, rfl, sh, ⟨_, c, b, o, rfl, hc, r2, r3⟩⟩ := hst
  have l2 : (ints s.mine).length = s.mine.length := by simp
  rw [l2] at r2
  have o1 := r.1.one
  have o2 := r.2.one
  have o3 := sh.one
  have hd := flashOk_small hf.2.1
  have h27 := hf.2.2
  have hb := hf.1
  have d1 := r3 k [i64 s.mine[k]] (by simp [hk])
  refine PC_of ?_
  skip
  refine w_spec_l13Stash (by simp) ?_
  unfold b_spec_l13Stash
  simp -implicitDefEqProofs only [go_sem, ↓reduceIte, reduceCtorEq, Int.reduceEq, Int.reduceLT, Int.reduceLE, Nat.reduceEqDiff, Nat.reduceAdd, Nat.reduceMul, Nat.reduceLeDiff, Nat.reduceSub, Int.reduceNeg, o1, o2, o3, l2]
  intro b1 hb_b1 n_b1
  simp -implicitDefEqProofs only [go_sem, ↓reduceIte, reduceCtorEq, Int.reduceEq, Int.reduceLT, Int.reduceLE, Nat.reduceEqDiff, Nat.reduceAdd, Nat.reduceMul, Nat.reduceLeDiff, Nat.reduceSub, Int.reduceNeg, o1, o2, o3, l2, hb_b1]
  intro b2 hb_b2 m0_b2
  obtain ⟨z_b2_b1, y_b2_b1, n_b2⟩ := fne m0_b2
  simp only [H.set_base] at hb_b2
  have d2 : ∀ x y, ldc ((h.set b1 x).set b2 y) b (o + k * 1) 1 = some [i64 s.mine[k]] := fun x y => ldc_sub (Ext.set' (Ext.set' (Ext.refl h) n_b1 x) n_b2 y).2 d1
  simp -implicitDefEqProofs only [go_sem, ↓reduceIte, reduceCtorEq, Int.reduceEq, Int.reduceLT, Int.reduceLE, Nat.reduceEqDiff, Nat.reduceAdd, Nat.reduceMul, Nat.reduceLeDiff, Nat.reduceSub, Int.reduceNeg, r2, d2, Int.natCast_nonneg, Int.ofNat_lt, hk, o1, o2, o3, l2, hb_b1, hb_b2, z_b2_b1, y_b2_b1]
  refine (l13Area_pc (hv0.ext (((Ext.refl _).set' n_b1 _).set' n_b2 _)) hb (by omega)).use ?_
  simp -implicitDefEqProofs only [go_sem, ↓reduceIte, reduceCtorEq, Int.reduceEq, Int.reduceLT, Int.reduceLE, Nat.reduceEqDiff, Nat.reduceAdd, Nat.reduceMul, Nat.reduceLeDiff, Nat.reduceSub, Int.reduceNeg, Sub.refl, o1, o2, o3, l2, hb_b1, hb_b2, z_b2_b1, y_b2_b1]
  refine (l03Get_pc (r.ext (((Ext.refl _).set' n_b1 _).set' n_b2 _)) (by omega) (by omega)).use ?_
  simp -implicitDefEqProofs only [go_sem, ↓reduceIte, reduceCtorEq, Int.reduceEq, Int.reduceLT, Int.reduceLE, Nat.reduceEqDiff, Nat.reduceAdd, Nat.reduceMul, Nat.reduceLeDiff, Nat.reduceSub, Int.reduceNeg, Sub.refl, o1, o2, o3, l2, hb_b1, hb_b2, z_b2_b1, y_b2_b1]
  exact ⟨(((Ext.refl _).set' n_b1 _).set' n_b2 _), rfl⟩
def stashOut (m : UMach) (k : Int) : List UInt8 := match stM m with | some s => (if 0 ≤ k ∧ k ≤ s.stash - 1 then areaOf m (s.mine.getD k.toNat 0) else []) | none => []
theorem stash_lt {s : UState} {k : Int} (hok : stateOk s) (h : 0 ≤ k ∧ k ≤ s.stash - 1) : k.toNat < s.mine.length ∧ k.toNat = k := by
  have h5 := hok.2.2.2.2
  by_cases p : s.phase = 1
  · rw [if_pos p] at h5; omega
  · rw [if_neg p] at h5; omega
theorem stateOk_stash {s : UState} (hok : stateOk s) : 0 ≤ s.stash ∧ s.stash ≤ 4 := by
  have h5 := hok.2.2.2.2
  by_cases p : s.phase = 1
  · rw [if_pos p] at h5; omega
  · rw [if_neg p] at h5; omega
/-- impl.StashOf -/
def b_impl_StashOf : C := (.seq (.ops [⟨(some 2), none, .box (.t 0)⟩, q 4 (.mv (.c (str [])))])
 (.seq (.ops [q 8 (.ld true 3 (.t 2)), ⟨(some 9), none, .call (.c (.func (.func 114) #[] #[])) [(.t 8)]⟩, q 7 (.mv (.t 9)), q 10 (.ext 0 (.t 7)), q 11 (.ext 1 (.t 7)), ⟨(some 5), none, .alloc [(i64 0), (i64 0), (i64 0), (i64 0), (i64 0), (str []), nils, nils]⟩, ⟨none, none, .st 8 (.t 5) (.t 10)⟩, q 6 (.mv (.t 11))])
 (.seq (.seq (.ops [q 12 (.mv (.t 6)), q 13 (.un .not (.t 12)), q 14 (.mv (.t 13)), qg 15 14 false (.mv (.t 1)), qg 16 14 false (.fld 3 (.t 5)), qg 17 14 false (.ld false 1 (.t 16)), qg 18 14 false (.bin .sub (.t 17) (.c (i64 1))), ⟨(some 19), (some (14, false)), .call (.c (.func (.func 117) #[] #[])) [(.t 15), (.c (i64 0)), (.t 18)]⟩, qg 20 14 false (.un .not (.t 19)), q 21 (.pick (.t 14) (.c (.bool true)) (.t 20))])
 (.cond (.t 21) (.seq (.ops [q 4 (.mv (.c (str [])))])
 .ret) .skip))
 (.seq (.dops true (.tk (q 22 (.ld true 3 (.t 2))) (.tk (q 23 (.fld 7 (.t 5))) (.tk (q 24 (.ld false 1 (.t 23))) (.tk (q 25 (.mv (.t 1))) (.tk (q 26 (.idx 1 (.t 24) (.t 25))) (.tk (q 27 (.ld false 1 (.t 26))) (.sq (⟨(some 28), none, .call (.c (.func (.func 118) #[] #[])) [(.t 22), (.t 27)]⟩) (.tk (q 4 (.mv (.t 28))) .nil)))))))))
 .ret))))
theorem w_impl_StashOf {args : List Value} {h : H} {Q : Value → H → Prop} (hl : args.length ≤ 29) (hk : wpc Try.prog b_impl_StashOf (retw [.tmp 4] Q) (argsFr args) h) : AC Try.prog 48 args h Q :=
  AC.of_wpc mixedOrders Try.func48 (by kernel_rfl) (by kernel_rfl : prepF Try.prog Try.f48 = some ⟨29, [.tmp 4], b_impl_StashOf⟩) hl hk

theorem implStashOf_pc {h : H} {cs : List Value} {m : UMach} {k : Int} (hv : RepR h (spMach m) cs) (hs : m.flash.fin1) : PC Try.prog 48 [.agg cs.toArray, i64 k] h (str (stashOut m k)) := by
  have l1 := hv.len
  simp only [List.length_cons, List.length_nil, Nat.reduceAdd] at l1
  have t1 := take_len l1
  have o1 := hv.one
  refine PC_of ?_
  obtain ⟨R, hR⟩ : ∃ R, R = stashOut m k := ⟨_, rfl⟩
  rw [← hR]
  unfold stashOut at hR
  skip
  refine w_impl_StashOf (by simp) ?_
  unfold b_impl_StashOf
  simp -implicitDefEqProofs only [go_sem, ↓reduceIte, reduceCtorEq, Int.reduceEq, Int.reduceLT, Int.reduceLE, Nat.reduceEqDiff, Nat.reduceAdd, Nat.reduceMul, Nat.reduceLeDiff, Nat.reduceSub, Int.reduceNeg, l1, t1, o1]
  intro b1 hb_b1 n_b1
  simp -implicitDefEqProofs only [go_sem, ↓reduceIte, reduceCtorEq, Int.reduceEq, Int.reduceLT, Int.reduceLE, Nat.reduceEqDiff, Nat.reduceAdd, Nat.reduceMul, Nat.reduceLeDiff, Nat.reduceSub, Int.reduceNeg, l1, t1, o1, hb_b1]
  refine AC_of (stateOf_ac (hv.ext ((Ext.refl _).set' n_b1 _)) hs) ?_
  rintro _ h2 - ⟨e2, cs2, rfl, F2⟩
  have g1 := e2.2.g b1 _ (by simp -implicitDefEqProofs only [go_sem, ↓reduceIte, reduceCtorEq, Int.reduceEq, Int.reduceLT, Int.reduceLE, Nat.reduceEqDiff, Nat.reduceAdd, Nat.reduceMul, Nat.reduceLeDiff, Nat.reduceSub, Int.reduceNeg, l1, t1, o1, hb_b1]; rfl)
  have E2 := (((Ext.refl _).set' n_b1 _)).trans e2
  obtain ⟨uh, um, rfl, sh, sm⟩ := F2.r
  have o2 := sh.one
  have o3 := sm.one
  skip
  simp -implicitDefEqProofs only [go_sem, ↓reduceIte, reduceCtorEq, Int.reduceEq, Int.reduceLT, Int.reduceLE, Nat.reduceEqDiff, Nat.reduceAdd, Nat.reduceMul, Nat.reduceLeDiff, Nat.reduceSub, Int.reduceNeg, l1, t1, o1, hb_b1, o2, o3]
  intro b5 hb5 n5
  have z15 : (b1 = b5) = False := eq_false fun e => by rw [← e, g1] at n5; cases n5
  have e5 := fun x => (Ext.refl h2).set n5 x
  cases hst : stM m with
  | none =>
    simp -implicitDefEqProofs only [go_sem, ↓reduceIte, reduceCtorEq, Int.reduceEq, Int.reduceLT, Int.reduceLE, Nat.reduceEqDiff, Nat.reduceAdd, Nat.reduceMul, Nat.reduceLeDiff, Nat.reduceSub, Int.reduceNeg, hb5, z15, Option.isSome_none, l1, t1, o1, hb_b1, o2, o3]
    exact ⟨E2.trans (e5 _), by rw [hR, hst]⟩
  | some s =>
    rw [hst] at sh sm
    simp only [Option.getD_some] at sh sm
    have hok := (stM_ok hst).2
    have hs4 := stateOk_stash hok
    simp -implicitDefEqProofs only [go_sem, ↓reduceIte, reduceCtorEq, Int.reduceEq, Int.reduceLT, Int.reduceLE, Nat.reduceEqDiff, Nat.reduceAdd, Nat.reduceMul, Nat.reduceLeDiff, Nat.reduceSub, Int.reduceNeg, hb5, z15, Option.isSome_some, Option.getD_some, wrap_i64 (show -(9223372036854775808 : Int) ≤ (s.stash - 1) by omega) (show (s.stash - 1) < 9223372036854775808 by omega), l1, t1, o1, hb_b1, o2, o3]
    refine (within_pc _ _ _ _).use ?_
    by_cases p1 : 0 ≤ k ∧ k ≤ s.stash - 1
    rotate_left
    · simp -implicitDefEqProofs only [go_sem, ↓reduceIte, reduceCtorEq, Int.reduceEq, Int.reduceLT, Int.reduceLE, Nat.reduceEqDiff, Nat.reduceAdd, Nat.reduceMul, Nat.reduceLeDiff, Nat.reduceSub, Int.reduceNeg, p1, l1, t1, o1, hb_b1, o2, o3]
      exact ⟨E2.trans (e5 _), by rw [hR, hst]; simp only; rw [if_neg p1]⟩
    obtain ⟨q1, q2⟩ := stash_lt hok p1
    obtain ⟨j, rfl⟩ : ∃ j : Nat, k = j := ⟨k.toNat, q2.symm⟩
    rw [Int.toNat_natCast] at q1
    have l2 : (ints s.mine).length = s.mine.length := by simp
    obtain ⟨_, c, b, o, rfl, hc, r2, r3⟩ := sm
    rw [l2] at r2
    have d1 := r3 j [i64 s.mine[j]] (by simp [q1])
    have hm := listOk_mem hok.2.2.1 _ (List.getElem_mem q1)
    have d2 : ∀ x, ldc (h2.set b5 x) b (o + j * 1) 1 = some [i64 s.mine[j]] := fun x => ldc_sub (e5 x).2 d1
    simp -implicitDefEqProofs only [go_sem, ↓reduceIte, reduceCtorEq, Int.reduceEq, Int.reduceLT, Int.reduceLE, Nat.reduceEqDiff, Nat.reduceAdd, Nat.reduceMul, Nat.reduceLeDiff, Nat.reduceSub, Int.reduceNeg, p1, z15, l2, ldc_get g1, r2, d2, q1, Int.natCast_nonneg, Int.ofNat_lt, l1, t1, o1, hb_b1, o2, o3]
    refine (area_pc (hv.ext (E2.trans (e5 _))) (stM_ok hst).1 hm).use ?_
    simp -implicitDefEqProofs only [go_sem, ↓reduceIte, reduceCtorEq, Int.reduceEq, Int.reduceLT, Int.reduceLE, Nat.reduceEqDiff, Nat.reduceAdd, Nat.reduceMul, Nat.reduceLeDiff, Nat.reduceSub, Int.reduceNeg, Sub.refl, l1, t1, o1, hb_b1, o2, o3]
    exact ⟨E2.trans (e5 _), by rw [hR, hst]; simp only; rw [if_pos p1]; simp [q1]⟩
/-- spec.StashOf -/
def b_spec_StashOf : C := (.seq (.ops [⟨(some 2), none, .box (.t 0)⟩, q 4 (.mv (.c (str [])))])
 (.seq (.ops [q 8 (.ld true 3 (.t 2)), ⟨(some 9), none, .call (.c (.func (.func 112) #[] #[])) [(.t 8)]⟩, q 7 (.mv (.t 9)), q 10 (.ext 0 (.t 7)), q 11 (.ext 1 (.t 7)), ⟨(some 5), none, .alloc [(i64 0), (i64 0), (i64 0), (i64 0), (i64 0), (str []), nils, nils]⟩, ⟨none, none, .st 8 (.t 5) (.t 10)⟩, q 6 (.mv (.t 11))])
 (.seq (.seq (.ops [q 12 (.mv (.t 6)), q 13 (.un .not (.t 12)), q 14 (.mv (.t 13)), qg 15 14 false (.mv (.t 1)), qg 16 14 false (.fld 3 (.t 5)), qg 17 14 false (.ld false 1 (.t 16)), qg 18 14 false (.bin .sub (.t 17) (.c (i64 1))), ⟨(some 19), (some (14, false)), .call (.c (.func (.func 79) #[] #[])) [(.t 15), (.c (i64 0)), (.t 18)]⟩, qg 20 14 false (.un .not (.t 19)), q 21 (.pick (.t 14) (.c (.bool true)) (.t 20))])
 (.cond (.t 21) (.seq (.ops [q 4 (.mv (.c (str [])))])
 .ret) .skip))
 (.seq (.ops [q 22 (.ld true 3 (.t 2)), q 23 (.ld true 8 (.t 5)), q 24 (.mv (.t 1)), ⟨(some 25), none, .call (.c (.func (.func 116) #[] #[])) [(.t 22), (.t 23), (.t 24)]⟩, q 4 (.mv (.t 25))])
 .ret))))
theorem w_spec_StashOf {args : List Value} {h : H} {Q : Value → H → Prop} (hl : args.length ≤ 26) (hk : wpc Try.prog b_spec_StashOf (retw [.tmp 4] Q) (argsFr args) h) : AC Try.prog 47 args h Q :=
  AC.of_wpc mixedOrders Try.func47 (by kernel_rfl) (by kernel_rfl : prepF Try.prog Try.f47 = some ⟨26, [.tmp 4], b_spec_StashOf⟩) hl hk

theorem specStashOf_pc {h : H} {cs : List Value} {m : UMach} {k : Int} (hv : RepR h (spMach m) cs) (hs : m.flash.fin1) : PC Try.prog 47 [.agg cs.toArray, i64 k] h (str (stashOut m k)) := by
  have l1 := hv.len
  simp only [List.length_cons, List.length_nil, Nat.reduceAdd] at l1
  have t1 := take_len l1
  have o1 := hv.one
  refine PC_of ?_
  obtain ⟨R, hR⟩ : ∃ R, R = stashOut m k := ⟨_, rfl⟩
  rw [← hR]
  unfold stashOut at hR
  skip
  refine w_spec_StashOf (by simp) ?_
  unfold b_spec_StashOf
  simp -implicitDefEqProofs only [go_sem, ↓reduceIte, reduceCtorEq, Int.reduceEq, Int.reduceLT, Int.reduceLE, Nat.reduceEqDiff, Nat.reduceAdd, Nat.reduceMul, Nat.reduceLeDiff, Nat.reduceSub, Int.reduceNeg, l1, t1, o1]
  intro b1 hb_b1 n_b1
  simp -implicitDefEqProofs only [go_sem, ↓reduceIte, reduceCtorEq, Int.reduceEq, Int.reduceLT, Int.reduceLE, Nat.reduceEqDiff, Nat.reduceAdd, Nat.reduceMul, Nat.reduceLeDiff, Nat.reduceSub, Int.reduceNeg, l1, t1, o1, hb_b1]
  refine AC_of (l13State_ac (hv.ext ((Ext.refl _).set' n_b1 _)) hs) ?_
  rintro _ h2 - ⟨e2, cs2, rfl, F2⟩
  have F2' := F2.r
  have l2 := F2.r.len
  have t2 := take_len l2
  have o2 := F2.r.one
  have g1 := e2.2.g b1 _ (by simp -implicitDefEqProofs only [go_sem, ↓reduceIte, reduceCtorEq, Int.reduceEq, Int.reduceLT, Int.reduceLE, Nat.reduceEqDiff, Nat.reduceAdd, Nat.reduceMul, Nat.reduceLeDiff, Nat.reduceSub, Int.reduceNeg, l1, t1, o1, hb_b1]; rfl)
  have E2 := (((Ext.refl _).set' n_b1 _)).trans e2
  skip
  simp -implicitDefEqProofs only [go_sem, ↓reduceIte, reduceCtorEq, Int.reduceEq, Int.reduceLT, Int.reduceLE, Nat.reduceEqDiff, Nat.reduceAdd, Nat.reduceMul, Nat.reduceLeDiff, Nat.reduceSub, Int.reduceNeg, l1, t1, o1, hb_b1, l2, t2, o2]
  intro b5 hb5 n5
  have z15 : (b1 = b5) = False := eq_false fun e => by rw [← e, g1] at n5; cases n5
  have e5 := fun x => (Ext.refl h2).set n5 x
  cases hst : stM m with
  | none =>
    simp -implicitDefEqProofs only [go_sem, ↓reduceIte, reduceCtorEq, Int.reduceEq, Int.reduceLT, Int.reduceLE, Nat.reduceEqDiff, Nat.reduceAdd, Nat.reduceMul, Nat.reduceLeDiff, Nat.reduceSub, Int.reduceNeg, hb5, z15, Option.isSome_none, l1, t1, o1, hb_b1, l2, t2, o2]
    exact ⟨E2.trans (e5 _), by rw [hR, hst]⟩
  | some s =>
    rw [hst] at F2'
    simp only [Option.getD_some] at F2'
    have hok := (stM_ok hst).2
    have hs4 := stateOk_stash hok
    obtain ⟨uh, um, rfl, sh, sm⟩ := F2'
    have F2'' : StR h2 (s.cells uh um) s := ⟨uh, um, rfl, sh, sm⟩
    simp -implicitDefEqProofs only [go_sem, ↓reduceIte, reduceCtorEq, Int.reduceEq, Int.reduceLT, Int.reduceLE, Nat.reduceEqDiff, Nat.reduceAdd, Nat.reduceMul, Nat.reduceLeDiff, Nat.reduceSub, Int.reduceNeg, hb5, z15, Option.isSome_some, Option.getD_some, wrap_i64 (show -(9223372036854775808 : Int) ≤ (s.stash - 1) by omega) (show (s.stash - 1) < 9223372036854775808 by omega), l1, t1, o1, hb_b1, l2, t2, o2]
    refine (l03Is_pc _ _ _ _).use ?_
    by_cases p1 : 0 ≤ k ∧ k ≤ s.stash - 1
    rotate_left
    · simp -implicitDefEqProofs only [go_sem, ↓reduceIte, reduceCtorEq, Int.reduceEq, Int.reduceLT, Int.reduceLE, Nat.reduceEqDiff, Nat.reduceAdd, Nat.reduceMul, Nat.reduceLeDiff, Nat.reduceSub, Int.reduceNeg, p1, l1, t1, o1, hb_b1, l2, t2, o2]
      exact ⟨E2.trans (e5 _), by rw [hR, hst]; simp only; rw [if_neg p1]⟩
    obtain ⟨q1, q2⟩ := stash_lt hok p1
    obtain ⟨j, rfl⟩ : ∃ j : Nat, k = j := ⟨k.toNat, q2.symm⟩
    rw [Int.toNat_natCast] at q1
    simp -implicitDefEqProofs only [go_sem, ↓reduceIte, reduceCtorEq, Int.reduceEq, Int.reduceLT, Int.reduceLE, Nat.reduceEqDiff, Nat.reduceAdd, Nat.reduceMul, Nat.reduceLeDiff, Nat.reduceSub, Int.reduceNeg, p1, z15, ldc_get g1, l1, t1, o1, hb_b1, l2, t2, o2]
    refine (l13Stash_pc (hv.ext (E2.trans (e5 _))) (stM_ok hst).1 (F2''.ext (e5 _)) hok q1).use ?_
    simp -implicitDefEqProofs only [go_sem, ↓reduceIte, reduceCtorEq, Int.reduceEq, Int.reduceLT, Int.reduceLE, Nat.reduceEqDiff, Nat.reduceAdd, Nat.reduceMul, Nat.reduceLeDiff, Nat.reduceSub, Int.reduceNeg, l1, t1, o1, hb_b1, l2, t2, o2]
    exact ⟨E2.trans (e5 _), by rw [hR, hst]; simp only; rw [if_pos p1]; simp [q1]⟩
end Go.Proofs.Ythheclnjaemjnaa
