/- A helper of this seat's claims (contracts of the functions): what it shows is shown for every input that its statements name, on no other condition. -/
import Derived.Test.YtiokibikhanfcaaGreatC13r
set_option linter.unusedVariables false
set_option linter.unusedSimpArgs false
set_option maxRecDepth 100000
namespace Go.Proofs.YtiokibikhanfcaaGreat
open Go.KH

/-! ## The moves of a machine -/
noncomputable def movesOf (m : UMach) (s : UState) : List UMove := if codeOf (logOf m s) m.blocks = 0 then movesM m s else []
noncomputable def movesOfOut (m : UMach) : List UMove := match stM m with | some s => if s.phase = 5 then movesOf m s else [] | none => []
theorem movesOf_len (m : UMach) (s : UState) : (movesOf m s).length ≤ 28 := by
  unfold movesOf
  split
  · rename_i h; exact moves_28 h
  · simp
theorem movesOfOut_len (m : UMach) : (movesOfOut m).length ≤ 28 := by
  unfold movesOfOut
  cases stM m with
  | none => simp
  | some s =>
    simp only
    split
    · exact movesOf_len m s
    · simp
theorem moves_plan {m : UMach} {s : UState} (h : stateOk s) : (planOut (logOf m s) m.blocks).1 = movesOf m s := by
  have h20 := logOf_len m h
  unfold planOut movesOf movesM
  rw [if_neg (by omega)]
  split <;> rfl
/-- (impl.Machine).moves -/
def b_impl_Machine_moves : C := (.seq (.ops [⟨(some 2), none, .box (.t 0)⟩, ⟨(some 3), none, .box (.t 1)⟩, q 4 (.mv (.c nils))])
 (.seq (.ops [q 6 (.ld true 3 (.t 2)), q 7 (.ld true 8 (.t 3)), ⟨(some 8), none, .call (.c (.func (.func 88) #[] #[])) [(.t 6), (.t 7)]⟩, q 5 (.mv (.t 8))])
 (.seq (.seq (.ops [q 9 (.mv (.t 5)), q 10 (.fld 0 (.t 2)), q 11 (.ld false 1 (.t 10)), ⟨(some 12), none, .call (.c (.func (.func 89) #[] #[])) [(.t 9), (.t 11)]⟩, q 13 (.bin .neq (.t 12) (.c (i64 0)))])
 (.cond (.t 13) (.seq (.ops [q 4 (.mv (.c nils))])
 .ret) .skip))
 (.seq (.ops [q 14 (.mv (.t 5)), ⟨(some 15), none, .call (.c (.func (.func 90) #[] #[])) [(.t 14)]⟩, q 4 (.mv (.t 15))])
 .ret))))
theorem w_impl_Machine_moves {args : List Value} {h : H} {Q : Value → H → Prop} (hl : args.length ≤ 16) (hk : wpc Tryz.prog b_impl_Machine_moves (retw [.tmp 4] Q) (argsFr args) h) : AC Tryz.prog 45 args h Q :=
  AC.of_wpc mixedOrders Tryz.func45 (by kernel_rfl) (by kernel_rfl : prepF Tryz.prog Tryz.f45 = some ⟨16, [.tmp 4], b_impl_Machine_moves⟩) hl hk

theorem moves_ac {h : H} {cs c2 : List Value} {m : UMach} {s : UState} (hv : RepR h (spMach m) cs) (hf : machFit m) (hst : StR h c2 s) (hok : stateOk s) : AC Tryz.prog 45 [.agg cs.toArray, .agg c2.toArray] h fun r h' => Ext h h' ∧ Fre h h' r 4 ((movesOf m s).map UMove.cells) := by
  have hv0 := hv
  have h20 := logOf_len m hok
  obtain ⟨vs, vd, rfl, fr⟩ := mach_r.1 hv
  have o4 := fr.1.one
  have o5 := fr.2.one
  have c4 : vcl vs = [vs] := fr.1.vcl
  have c5 : vcl vd = [vd] := fr.2.vcl
  have l2 := hst.len
  have t2 := take_len l2
  have o2 := hst.one
  unfold movesOf
  skip
  refine w_impl_Machine_moves (by simp) ?_
  unfold b_impl_Machine_moves
  simp -implicitDefEqProofs only [go_sem, ↓reduceIte, reduceCtorEq, Int.reduceEq, Int.reduceLT, Int.reduceLE, Nat.reduceEqDiff, Nat.reduceAdd, Nat.reduceMul, Nat.reduceLeDiff, Nat.reduceSub, Int.reduceNeg, o4, o5, c4, c5, l2, t2, o2]
  intro b2 hb_b2 n_b2
  simp -implicitDefEqProofs only [go_sem, ↓reduceIte, reduceCtorEq, Int.reduceEq, Int.reduceLT, Int.reduceLE, Nat.reduceEqDiff, Nat.reduceAdd, Nat.reduceMul, Nat.reduceLeDiff, Nat.reduceSub, Int.reduceNeg, o4, o5, c4, c5, l2, t2, o2, hb_b2]
  intro b3 hb_b3 m0_b3
  obtain ⟨z_b3_b2, y_b3_b2, n_b3⟩ := fne m0_b3
  simp only [H.set_base] at hb_b3
  simp -implicitDefEqProofs only [go_sem, ↓reduceIte, reduceCtorEq, Int.reduceEq, Int.reduceLT, Int.reduceLE, Nat.reduceEqDiff, Nat.reduceAdd, Nat.reduceMul, Nat.reduceLeDiff, Nat.reduceSub, Int.reduceNeg, o4, o5, c4, c5, l2, t2, o2, hb_b2, hb_b3, z_b3_b2, y_b3_b2]
  refine AC_of (log_ac (hv0.ext (((Ext.refl _).set' n_b2 _).set' n_b3 _)) hf (hst.ext (((Ext.refl _).set' n_b2 _).set' n_b3 _)) hok) ?_
  rintro v5 h5 - ⟨e5, f5⟩
  have E5 := ((((Ext.refl _).set' n_b2 _).set' n_b3 _)).trans e5
  have G2 := e5.2.g b2 _ (by simp -implicitDefEqProofs only [go_sem, ↓reduceIte, reduceCtorEq, Int.reduceEq, Int.reduceLT, Int.reduceLE, Nat.reduceEqDiff, Nat.reduceAdd, Nat.reduceMul, Nat.reduceLeDiff, Nat.reduceSub, Int.reduceNeg, o4, o5, c4, c5, l2, t2, o2, hb_b2, hb_b3, z_b3_b2, y_b3_b2]; rfl)
  skip
  simp -implicitDefEqProofs only [go_sem, ↓reduceIte, reduceCtorEq, Int.reduceEq, Int.reduceLT, Int.reduceLE, Nat.reduceEqDiff, Nat.reduceAdd, Nat.reduceMul, Nat.reduceLeDiff, Nat.reduceSub, Int.reduceNeg, f5.sl.vcl, ldc_get G2, o4, o5, c4, c5, l2, t2, o2]
  refine (stepsCode_pc f5.sl (by omega)).use ?_
  by_cases hc : codeOf (logOf m s) m.blocks = 0
  rotate_left
  · rw [if_neg hc]
    simp -implicitDefEqProofs only [go_sem, ↓reduceIte, reduceCtorEq, Int.reduceEq, Int.reduceLT, Int.reduceLE, Nat.reduceEqDiff, Nat.reduceAdd, Nat.reduceMul, Nat.reduceLeDiff, Nat.reduceSub, Int.reduceNeg, hc, o4, o5, c4, c5, l2, t2, o2]
    exact ⟨E5, (Own.nil _ _ _).fre⟩
  rw [if_pos hc]
  have hco := (code_zero hc).1
  simp -implicitDefEqProofs only [go_sem, ↓reduceIte, reduceCtorEq, Int.reduceEq, Int.reduceLT, Int.reduceLE, Nat.reduceEqDiff, Nat.reduceAdd, Nat.reduceMul, Nat.reduceLeDiff, Nat.reduceSub, Int.reduceNeg, hc, o4, o5, c4, c5, l2, t2, o2]
  refine AC_of (planOf_ac f5.sl h20 (steps_dst hco)) ?_
  rintro v6 h6 - ⟨e6, f6⟩
  simp -implicitDefEqProofs only [go_sem, ↓reduceIte, reduceCtorEq, Int.reduceEq, Int.reduceLT, Int.reduceLE, Nat.reduceEqDiff, Nat.reduceAdd, Nat.reduceMul, Nat.reduceLeDiff, Nat.reduceSub, Int.reduceNeg, f6.sl.vcl, o4, o5, c4, c5, l2, t2, o2]
  exact ⟨E5.trans e6, f6.back E5⟩
/-- spec.l14Moves -/
def b_spec_l14Moves : C := (.seq (.ops [⟨(some 2), none, .box (.t 0)⟩, ⟨(some 3), none, .box (.t 1)⟩, q 4 (.mv (.c nils))])
 (.seq (.dops true (.tk (q 5 (.ld true 3 (.t 2))) (.tk (q 6 (.ld true 8 (.t 3))) (.tk (q 8 (.fld 0 (.t 2))) (.tk (q 9 (.ld false 1 (.t 8))) (.sq (⟨(some 7), none, .call (.c (.func (.func 68) #[] #[])) [(.t 5), (.t 6)]⟩) (.sq (⟨(some 10), none, .call (.c (.func (.func 80) #[] #[])) [(.t 7), (.t 9)]⟩) (.tk (q 11 (.part false 0 1 (.t 10))) (.tk (q 4 (.mv (.t 11))) .nil)))))))))
 .ret))
theorem w_spec_l14Moves {args : List Value} {h : H} {Q : Value → H → Prop} (hl : args.length ≤ 12) (hk : wpc Tryz.prog b_spec_l14Moves (retw [.tmp 4] Q) (argsFr args) h) : AC Tryz.prog 42 args h Q :=
  AC.of_wpc mixedOrders Tryz.func42 (by kernel_rfl) (by kernel_rfl : prepF Tryz.prog Tryz.f42 = some ⟨12, [.tmp 4], b_spec_l14Moves⟩) hl hk

theorem l14Moves_ac {h : H} {cs c2 : List Value} {m : UMach} {s : UState} (hv : RepR h (spMach m) cs) (hf : machFit m) (hst : StR h c2 s) (hok : stateOk s) : AC Tryz.prog 42 [.agg cs.toArray, .agg c2.toArray] h fun r h' => Ext h h' ∧ Own h h' r 4 ((movesOf m s).map UMove.cells) := by
  have hv0 := hv
  have h20 := logOf_len m hok
  obtain ⟨vs, vd, rfl, fr⟩ := mach_r.1 hv
  have o4 := fr.1.one
  have o5 := fr.2.one
  have c4 : vcl vs = [vs] := fr.1.vcl
  have c5 : vcl vd = [vd] := fr.2.vcl
  have l2 := hst.len
  have t2 := take_len l2
  have o2 := hst.one
  rw [← moves_plan hok]
  skip
  refine w_spec_l14Moves (by simp) ?_
  unfold b_spec_l14Moves
  simp -implicitDefEqProofs only [go_sem, ↓reduceIte, reduceCtorEq, Int.reduceEq, Int.reduceLT, Int.reduceLE, Nat.reduceEqDiff, Nat.reduceAdd, Nat.reduceMul, Nat.reduceLeDiff, Nat.reduceSub, Int.reduceNeg, o4, o5, c4, c5, l2, t2, o2]
  intro b2 hb_b2 n_b2
  simp -implicitDefEqProofs only [go_sem, ↓reduceIte, reduceCtorEq, Int.reduceEq, Int.reduceLT, Int.reduceLE, Nat.reduceEqDiff, Nat.reduceAdd, Nat.reduceMul, Nat.reduceLeDiff, Nat.reduceSub, Int.reduceNeg, o4, o5, c4, c5, l2, t2, o2, hb_b2]
  intro b3 hb_b3 m0_b3
  obtain ⟨z_b3_b2, y_b3_b2, n_b3⟩ := fne m0_b3
  simp only [H.set_base] at hb_b3
  simp -implicitDefEqProofs only [go_sem, ↓reduceIte, reduceCtorEq, Int.reduceEq, Int.reduceLT, Int.reduceLE, Nat.reduceEqDiff, Nat.reduceAdd, Nat.reduceMul, Nat.reduceLeDiff, Nat.reduceSub, Int.reduceNeg, o4, o5, c4, c5, l2, t2, o2, hb_b2, hb_b3, z_b3_b2, y_b3_b2]
  refine AC_of (l13Log_ac (hv0.ext (((Ext.refl _).set' n_b2 _).set' n_b3 _)) hf (hst.ext (((Ext.refl _).set' n_b2 _).set' n_b3 _)) hok) ?_
  rintro v5 h5 - ⟨e5, f5⟩
  have E5 := ((((Ext.refl _).set' n_b2 _).set' n_b3 _)).trans e5
  skip
  simp -implicitDefEqProofs only [go_sem, ↓reduceIte, reduceCtorEq, Int.reduceEq, Int.reduceLT, Int.reduceLE, Nat.reduceEqDiff, Nat.reduceAdd, Nat.reduceMul, Nat.reduceLeDiff, Nat.reduceSub, Int.reduceNeg, f5.sl.vcl, e5.2, o4, o5, c4, c5, l2, t2, o2]
  refine AC_of (specPlanOf_own f5.sl (by omega)) ?_
  rintro _ h6 - ⟨e6, w, rfl, ow⟩
  simp -implicitDefEqProofs only [go_sem, ↓reduceIte, reduceCtorEq, Int.reduceEq, Int.reduceLT, Int.reduceLE, Nat.reduceEqDiff, Nat.reduceAdd, Nat.reduceMul, Nat.reduceLeDiff, Nat.reduceSub, Int.reduceNeg, ow.sl.vcl, (e5.trans e6).2, o4, o5, c4, c5, l2, t2, o2]
  exact ⟨E5.trans e6, ow.back E5⟩
/-- impl.MovesOf -/
def b_impl_MovesOf : C := (.seq (.ops [⟨(some 1), none, .box (.t 0)⟩, q 2 (.mv (.c nils))])
 (.seq (.ops [q 6 (.ld true 3 (.t 1)), ⟨(some 7), none, .call (.c (.func (.func 44) #[] #[])) [(.t 6)]⟩, q 5 (.mv (.t 7)), q 8 (.ext 0 (.t 5)), q 9 (.ext 1 (.t 5)), ⟨(some 3), none, .alloc [(i64 0), (i64 0), (i64 0), (i64 0), (i64 0), (str []), nils, nils]⟩, ⟨none, none, .st 8 (.t 3) (.t 8)⟩, q 4 (.mv (.t 9))])
 (.seq (.seq (.ops [q 10 (.mv (.t 4)), q 11 (.un .not (.t 10)), q 12 (.mv (.t 11)), qg 13 12 false (.fld 0 (.t 3)), qg 14 12 false (.ld false 1 (.t 13)), qg 15 12 false (.bin .neq (.t 14) (.c (i64 5))), q 16 (.pick (.t 12) (.c (.bool true)) (.t 15))])
 (.cond (.t 16) (.seq (.ops [q 2 (.mv (.c nils))])
 .ret) .skip))
 (.seq (.ops [q 17 (.ld true 3 (.t 1)), q 18 (.ld true 8 (.t 3)), ⟨(some 19), none, .call (.c (.func (.func 45) #[] #[])) [(.t 17), (.t 18)]⟩, q 2 (.mv (.t 19))])
 .ret))))
theorem w_impl_MovesOf {args : List Value} {h : H} {Q : Value → H → Prop} (hl : args.length ≤ 20) (hk : wpc Tryz.prog b_impl_MovesOf (retw [.tmp 2] Q) (argsFr args) h) : AC Tryz.prog 12 args h Q :=
  AC.of_wpc mixedOrders Tryz.func12 (by kernel_rfl) (by kernel_rfl : prepF Tryz.prog Tryz.f12 = some ⟨20, [.tmp 2], b_impl_MovesOf⟩) hl hk

theorem implMovesOf_ac {h : H} {cs : List Value} {m : UMach} (hv : RepR h (spMach m) cs) (hs : m.flash.fin1) : AC Tryz.prog 12 [.agg cs.toArray] h fun r h' => Ext h h' ∧ Fre h h' r 4 ((movesOfOut m).map UMove.cells) := by
  have l1 := hv.len
  simp only [List.length_cons, List.length_nil, Nat.reduceAdd] at l1
  have t1 := take_len l1
  have o1 := hv.one
  unfold movesOfOut
  skip
  refine w_impl_MovesOf (by simp) ?_
  unfold b_impl_MovesOf
  simp -implicitDefEqProofs only [go_sem, ↓reduceIte, reduceCtorEq, Int.reduceEq, Int.reduceLT, Int.reduceLE, Nat.reduceEqDiff, Nat.reduceAdd, Nat.reduceMul, Nat.reduceLeDiff, Nat.reduceSub, Int.reduceNeg, l1, t1, o1]
  intro b1 hb_b1 n_b1
  simp -implicitDefEqProofs only [go_sem, ↓reduceIte, reduceCtorEq, Int.reduceEq, Int.reduceLT, Int.reduceLE, Nat.reduceEqDiff, Nat.reduceAdd, Nat.reduceMul, Nat.reduceLeDiff, Nat.reduceSub, Int.reduceNeg, l1, t1, o1, hb_b1]
  refine AC_of (stateOf_ac (hv.ext ((Ext.refl _).set' n_b1 _)) hs) ?_
  rintro _ h2 - ⟨e2, cs2, rfl, F2⟩
  have l2 := F2.r.len
  have t2 := take_len l2
  have o2 := F2.r.one
  have g1 := e2.2.g b1 _ (by simp -implicitDefEqProofs only [go_sem, ↓reduceIte, reduceCtorEq, Int.reduceEq, Int.reduceLT, Int.reduceLE, Nat.reduceEqDiff, Nat.reduceAdd, Nat.reduceMul, Nat.reduceLeDiff, Nat.reduceSub, Int.reduceNeg, l1, t1, o1, hb_b1]; rfl)
  have E2 := (((Ext.refl _).set' n_b1 _)).trans e2
  skip
  simp -implicitDefEqProofs only [go_sem, ↓reduceIte, reduceCtorEq, Int.reduceEq, Int.reduceLT, Int.reduceLE, Nat.reduceEqDiff, Nat.reduceAdd, Nat.reduceMul, Nat.reduceLeDiff, Nat.reduceSub, Int.reduceNeg, l2, t2, o2, l1, t1, o1]
  intro b3 hb3 n3
  have z31 : (b1 = b3) = False := eq_false fun e => by rw [← e, g1] at n3; cases n3
  have e3 := (Ext.refl h2).set n3 ⟨cs2, 8⟩
  have E3 := E2.trans e3
  cases hst : stM m with
  | none =>
    simp -implicitDefEqProofs only [go_sem, ↓reduceIte, reduceCtorEq, Int.reduceEq, Int.reduceLT, Int.reduceLE, Nat.reduceEqDiff, Nat.reduceAdd, Nat.reduceMul, Nat.reduceLeDiff, Nat.reduceSub, Int.reduceNeg, l2, t2, o2, hb3, Option.isSome_none, l1, t1, o1]
    exact ⟨E3, (Own.nil _ _ _).fre⟩
  | some s =>
    rw [hst] at F2
    simp only [Option.getD_some] at F2
    have hok := stM_ok hst
    have FR := F2.r
    obtain ⟨uh, um, rfl, sh, sm⟩ := F2.r
    have o6 := sh.vcl
    have o7 := sm.vcl
    have o8 := sh.one
    have o9 := sm.one
    simp only
    by_cases p5 : s.phase = 5
    rotate_left
    · rw [if_neg p5]
      simp -implicitDefEqProofs only [go_sem, ↓reduceIte, reduceCtorEq, Int.reduceEq, Int.reduceLT, Int.reduceLE, Nat.reduceEqDiff, Nat.reduceAdd, Nat.reduceMul, Nat.reduceLeDiff, Nat.reduceSub, Int.reduceNeg, o6, o7, o8, o9, hb3, z31, ldc_get g1, Option.isSome_some, eq_false p5, l1, t1, o1]
      exact ⟨E3, (Own.nil _ _ _).fre⟩
    rw [if_pos p5]
    simp -implicitDefEqProofs only [go_sem, ↓reduceIte, reduceCtorEq, Int.reduceEq, Int.reduceLT, Int.reduceLE, Nat.reduceEqDiff, Nat.reduceAdd, Nat.reduceMul, Nat.reduceLeDiff, Nat.reduceSub, Int.reduceNeg, o6, o7, o8, o9, hb3, z31, ldc_get g1, Option.isSome_some, eq_true p5, l1, t1, o1]
    refine AC_of (moves_ac (hv.ext E3) hok.1 (FR.ext e3) hok.2) ?_
    rintro v6 h6 - ⟨e6, f6⟩
    simp -implicitDefEqProofs only [go_sem, ↓reduceIte, reduceCtorEq, Int.reduceEq, Int.reduceLT, Int.reduceLE, Nat.reduceEqDiff, Nat.reduceAdd, Nat.reduceMul, Nat.reduceLeDiff, Nat.reduceSub, Int.reduceNeg, f6.sl.vcl, l1, t1, o1]
    exact ⟨E3.trans e6, f6.back E3⟩
/-- spec.MovesOf -/
def b_spec_MovesOf : C := (.seq (.ops [⟨(some 1), none, .box (.t 0)⟩, q 2 (.mv (.c nils))])
 (.seq (.ops [q 6 (.ld true 3 (.t 1)), ⟨(some 7), none, .call (.c (.func (.func 41) #[] #[])) [(.t 6)]⟩, q 5 (.mv (.t 7)), q 8 (.ext 0 (.t 5)), q 9 (.ext 1 (.t 5)), ⟨(some 3), none, .alloc [(i64 0), (i64 0), (i64 0), (i64 0), (i64 0), (str []), nils, nils]⟩, ⟨none, none, .st 8 (.t 3) (.t 8)⟩, q 4 (.mv (.t 9))])
 (.seq (.seq (.ops [q 10 (.mv (.t 4)), q 11 (.un .not (.t 10)), q 12 (.mv (.t 11)), qg 13 12 false (.fld 0 (.t 3)), qg 14 12 false (.ld false 1 (.t 13)), qg 15 12 false (.bin .neq (.t 14) (.c (i64 5))), q 16 (.pick (.t 12) (.c (.bool true)) (.t 15))])
 (.cond (.t 16) (.seq (.ops [⟨(some 17), none, .bsl 0 [] []⟩, q 2 (.mv (.t 17))])
 .ret) .skip))
 (.seq (.ops [q 18 (.ld true 3 (.t 1)), q 19 (.ld true 8 (.t 3)), ⟨(some 20), none, .call (.c (.func (.func 42) #[] #[])) [(.t 18), (.t 19)]⟩, q 2 (.mv (.t 20))])
 .ret))))
theorem w_spec_MovesOf {args : List Value} {h : H} {Q : Value → H → Prop} (hl : args.length ≤ 21) (hk : wpc Tryz.prog b_spec_MovesOf (retw [.tmp 2] Q) (argsFr args) h) : AC Tryz.prog 10 args h Q :=
  AC.of_wpc mixedOrders Tryz.func10 (by kernel_rfl) (by kernel_rfl : prepF Tryz.prog Tryz.f10 = some ⟨21, [.tmp 2], b_spec_MovesOf⟩) hl hk

theorem specMovesOf_ac {h : H} {cs : List Value} {m : UMach} (hv : RepR h (spMach m) cs) (hs : m.flash.fin1) : AC Tryz.prog 10 [.agg cs.toArray] h fun r h' => Ext h h' ∧ Fre h h' r 4 ((movesOfOut m).map UMove.cells) := by
  have l1 := hv.len
  simp only [List.length_cons, List.length_nil, Nat.reduceAdd] at l1
  have t1 := take_len l1
  have o1 := hv.one
  unfold movesOfOut
  skip
  refine w_spec_MovesOf (by simp) ?_
  unfold b_spec_MovesOf
  simp -implicitDefEqProofs only [go_sem, ↓reduceIte, reduceCtorEq, Int.reduceEq, Int.reduceLT, Int.reduceLE, Nat.reduceEqDiff, Nat.reduceAdd, Nat.reduceMul, Nat.reduceLeDiff, Nat.reduceSub, Int.reduceNeg, l1, t1, o1]
  intro b1 hb_b1 n_b1
  simp -implicitDefEqProofs only [go_sem, ↓reduceIte, reduceCtorEq, Int.reduceEq, Int.reduceLT, Int.reduceLE, Nat.reduceEqDiff, Nat.reduceAdd, Nat.reduceMul, Nat.reduceLeDiff, Nat.reduceSub, Int.reduceNeg, l1, t1, o1, hb_b1]
  refine AC_of (l13State_ac (hv.ext ((Ext.refl _).set' n_b1 _)) hs) ?_
  rintro _ h2 - ⟨e2, cs2, rfl, F2⟩
  have l2 := F2.r.len
  have t2 := take_len l2
  have o2 := F2.r.one
  have g1 := e2.2.g b1 _ (by simp -implicitDefEqProofs only [go_sem, ↓reduceIte, reduceCtorEq, Int.reduceEq, Int.reduceLT, Int.reduceLE, Nat.reduceEqDiff, Nat.reduceAdd, Nat.reduceMul, Nat.reduceLeDiff, Nat.reduceSub, Int.reduceNeg, l1, t1, o1, hb_b1]; rfl)
  have E2 := (((Ext.refl _).set' n_b1 _)).trans e2
  skip
  simp -implicitDefEqProofs only [go_sem, ↓reduceIte, reduceCtorEq, Int.reduceEq, Int.reduceLT, Int.reduceLE, Nat.reduceEqDiff, Nat.reduceAdd, Nat.reduceMul, Nat.reduceLeDiff, Nat.reduceSub, Int.reduceNeg, l2, t2, o2, l1, t1, o1]
  intro b3 hb3 n3
  have z31 : (b1 = b3) = False := eq_false fun e => by rw [← e, g1] at n3; cases n3
  have e3 := (Ext.refl h2).set n3 ⟨cs2, 8⟩
  have E3 := E2.trans e3
  have nil : ∀ {b9 : Nat}, (h2.set b3 ⟨cs2, 8⟩).base ≤ b9 → (h2.set b3 ⟨cs2, 8⟩).get b9 = none → Ext h ((h2.set b3 ⟨cs2, 8⟩).set b9 ⟨[], 0⟩) ∧ Fre h ((h2.set b3 ⟨cs2, 8⟩).set b9 ⟨[], 0⟩) (sl b9 0 0 0) 4 [] := fun hb9 n9 => ⟨E3.set n9 _, Own.fre (.inr ⟨_, 0, 0, rfl, Nat.le_refl _, hb9, E3.none n9, H.set_get_same _ _ _, by simp, Wid.nil 4⟩)⟩
  cases hst : stM m with
  | none =>
    simp -implicitDefEqProofs only [go_sem, ↓reduceIte, reduceCtorEq, Int.reduceEq, Int.reduceLT, Int.reduceLE, Nat.reduceEqDiff, Nat.reduceAdd, Nat.reduceMul, Nat.reduceLeDiff, Nat.reduceSub, Int.reduceNeg, l2, t2, o2, hb3, Option.isSome_none, l1, t1, o1]
    intro b9 hb9 n9
    simp -implicitDefEqProofs only [go_sem, ↓reduceIte, reduceCtorEq, Int.reduceEq, Int.reduceLT, Int.reduceLE, Nat.reduceEqDiff, Nat.reduceAdd, Nat.reduceMul, Nat.reduceLeDiff, Nat.reduceSub, Int.reduceNeg, l1, t1, o1]
    exact nil hb9 n9
  | some s =>
    rw [hst] at F2
    simp only [Option.getD_some] at F2
    have hok := stM_ok hst
    have FR := F2.r
    obtain ⟨uh, um, rfl, sh, sm⟩ := F2.r
    have o6 := sh.vcl
    have o7 := sm.vcl
    have o8 := sh.one
    have o9 := sm.one
    simp only
    by_cases p5 : s.phase = 5
    rotate_left
    · rw [if_neg p5]
      simp -implicitDefEqProofs only [go_sem, ↓reduceIte, reduceCtorEq, Int.reduceEq, Int.reduceLT, Int.reduceLE, Nat.reduceEqDiff, Nat.reduceAdd, Nat.reduceMul, Nat.reduceLeDiff, Nat.reduceSub, Int.reduceNeg, o6, o7, o8, o9, hb3, z31, ldc_get g1, Option.isSome_some, eq_false p5, l1, t1, o1]
      intro b9 hb9 n9
      simp -implicitDefEqProofs only [go_sem, ↓reduceIte, reduceCtorEq, Int.reduceEq, Int.reduceLT, Int.reduceLE, Nat.reduceEqDiff, Nat.reduceAdd, Nat.reduceMul, Nat.reduceLeDiff, Nat.reduceSub, Int.reduceNeg, l1, t1, o1]
      exact nil hb9 n9
    rw [if_pos p5]
    simp -implicitDefEqProofs only [go_sem, ↓reduceIte, reduceCtorEq, Int.reduceEq, Int.reduceLT, Int.reduceLE, Nat.reduceEqDiff, Nat.reduceAdd, Nat.reduceMul, Nat.reduceLeDiff, Nat.reduceSub, Int.reduceNeg, o6, o7, o8, o9, hb3, z31, ldc_get g1, Option.isSome_some, eq_true p5, l1, t1, o1]
    refine AC_of (l14Moves_ac (hv.ext E3) hok.1 (FR.ext e3) hok.2) ?_
    rintro v6 h6 - ⟨e6, ow⟩
    simp -implicitDefEqProofs only [go_sem, ↓reduceIte, reduceCtorEq, Int.reduceEq, Int.reduceLT, Int.reduceLE, Nat.reduceEqDiff, Nat.reduceAdd, Nat.reduceMul, Nat.reduceLeDiff, Nat.reduceSub, Int.reduceNeg, ow.sl.vcl, l1, t1, o1]
    exact ⟨E3.trans e6, (ow.back E3).fre⟩
end Go.Proofs.YtiokibikhanfcaaGreat
