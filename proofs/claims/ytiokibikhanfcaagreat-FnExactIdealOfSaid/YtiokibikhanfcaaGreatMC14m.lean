/- A helper of this seat's claims (contracts of the functions): what it shows is shown for every input that its statements name, on no other condition. -/
import Derived.Test.YtiokibikhanfcaaGreatC13r
import Derived.Test.YtiokibikhanfcaaGreatMC10t
import Derived.Test.YtiokibikhanfcaaGreatC11
import Derived.Test.YtiokibikhanfcaaGreatKD
import Derived.Test.YtiokibikhanfcaaGreatC10s
set_option linter.unusedVariables false
set_option linter.unusedSimpArgs false
set_option maxRecDepth 100000
namespace Go.Proofs.YtiokibikhanfcaaGreat
open Go.KH

/-! ## The moves of a machine -/
noncomputable def movesOf (m : UMach) (s : UState) : List UMove := if codeOf (logOf m s) m.blocks = 0 then movesM m s else []
theorem moves_plan {m : UMach} {s : UState} (h : stateOk s) : (planOut (logOf m s) m.blocks).1 = movesOf m s := by
  have h20 := logOf_len m h
  unfold planOut movesOf movesM
  rw [if_neg (by omega)]
  split <;> rfl
/-- (impl.Machine).moves -/
def b_impl_Machine_moves : C := (.seq (.ops [⟨(some 2), none, .box (.t 0)⟩, ⟨(some 3), none, .box (.t 1)⟩, q 4 (.mv (.c nils))])
 (.seq (.ops [q 6 (.ld true 3 (.t 2)), q 7 (.ld true 8 (.t 3)), ⟨(some 8), none, .call (.c (.func (.func 88) #[] #[])) [(.t 6), (.t 7)]⟩, q 5 (.mv (.t 8))])
 (.seq (.seq (.ops [q 9 (.mv (.t 5)), q 10 (.fld 0 (.t 2)), q 11 (.ld false 1 (.t 10)), ⟨(some 12), none, .call (.c (.func (.func 89) #[] #[])) [(.t 9), (.t 11)]⟩, q 13 (.bin .neq (.t 12) (.c (i64 0)))])
 (.cond (.t 13) (.seq (.ops [q 4 (.mv (.c nils))])
 .ret) .skip))
 (.seq (.ops [q 14 (.mv (.t 5)), ⟨(some 15), none, .call (.c (.func (.func 90) #[] #[])) [(.t 14)]⟩, q 4 (.mv (.t 15))])
 .ret))))
theorem w_impl_Machine_moves {args : List Value} {h : H} {Q : Value → H → Prop} (hl : args.length ≤ 16) (hk : wpc Tryz.prog b_impl_Machine_moves (retw [.tmp 4] Q) (argsFr args) h) : AC Tryz.prog 45 args h Q :=
  AC.of_wpc mixedOrders Tryz.func45 (by kernel_rfl) (by kernel_rfl : prepF Tryz.prog Tryz.f45 = some ⟨16, [.tmp 4], b_impl_Machine_moves⟩) hl hk

theorem moves_ac {h : H} {cs c2 : List Value} {m : UMach} {s : UState} (hv : RepR h (spMach m) cs) (hf : machFit m) (hst : StR h c2 s) (hok : stateOk s) : AC Tryz.prog 45 [.agg cs.toArray, .agg c2.toArray] h fun r h' => Ext h h' ∧ Fre h h' r 4 ((movesOf m s).map UMove.cells) := by
  have hv0 := hv
  have h20 := logOf_len m hok
  obtain ⟨vs, vd, rfl, fr⟩ := mach_r.1 hv
  have o4 := fr.1.one
  have o5 := fr.2.one
  have c4 : vcl vs = [vs] := fr.1.vcl
  have c5 : vcl vd = [vd] := fr.2.vcl
  have l2 := hst.len
  have t2 := take_len l2
  have o2 := hst.one
  unfold movesOf
  skip
  refine w_impl_Machine_moves (by simp) ?_
  unfold b_impl_Machine_moves
  simp -implicitDefEqProofs only [go_sem, o4, o5, c4, c5, l2, t2, o2]
  intro b2 hb_b2 n_b2
  simp -implicitDefEqProofs only [go_sem, o4, o5, c4, c5, l2, t2, o2, hb_b2]
  intro b3 hb_b3 m0_b3
  obtain ⟨z_b3_b2, y_b3_b2, n_b3⟩ := fne m0_b3
  simp only [H.set_base] at hb_b3
  simp -implicitDefEqProofs only [go_sem, o4, o5, c4, c5, l2, t2, o2, hb_b2, hb_b3, z_b3_b2, y_b3_b2]
  refine AC_of (log_ac (hv0.ext (((Ext.refl _).set' n_b2 _).set' n_b3 _)) hf (hst.ext (((Ext.refl _).set' n_b2 _).set' n_b3 _)) hok) ?_
  rintro v5 h5 - ⟨e5, f5⟩
  have E5 := ((((Ext.refl _).set' n_b2 _).set' n_b3 _)).trans e5
  have G2 := e5.2.g b2 _ (by simp -implicitDefEqProofs only [go_sem, o4, o5, c4, c5, l2, t2, o2, hb_b2, hb_b3, z_b3_b2, y_b3_b2]; rfl)
  skip
  simp -implicitDefEqProofs only [go_sem, f5.sl.vcl, ldc_get G2, o4, o5, c4, c5, l2, t2, o2]
  refine (stepsCode_pc f5.sl (by omega)).use ?_
  by_cases hc : codeOf (logOf m s) m.blocks = 0
  rotate_left
  · rw [if_neg hc]
    simp -implicitDefEqProofs only [go_sem, hc, o4, o5, c4, c5, l2, t2, o2]
    exact ⟨E5, (Own.nil _ _ _).fre⟩
  rw [if_pos hc]
  have hco := (code_zero hc).1
  simp -implicitDefEqProofs only [go_sem, hc, o4, o5, c4, c5, l2, t2, o2]
  refine AC_of (planOf_ac f5.sl h20 (steps_dst hco)) ?_
  rintro v6 h6 - ⟨e6, f6⟩
  simp -implicitDefEqProofs only [go_sem, f6.sl.vcl, o4, o5, c4, c5, l2, t2, o2]
  exact ⟨E5.trans e6, f6.back E5⟩
/-- spec.l14Moves -/
def b_spec_l14Moves : C := (.seq (.ops [⟨(some 2), none, .box (.t 0)⟩, ⟨(some 3), none, .box (.t 1)⟩, q 4 (.mv (.c nils))])
 (.seq (.dops true (.tk (q 5 (.ld true 3 (.t 2))) (.tk (q 6 (.ld true 8 (.t 3))) (.tk (q 8 (.fld 0 (.t 2))) (.tk (q 9 (.ld false 1 (.t 8))) (.sq (⟨(some 7), none, .call (.c (.func (.func 68) #[] #[])) [(.t 5), (.t 6)]⟩) (.sq (⟨(some 10), none, .call (.c (.func (.func 80) #[] #[])) [(.t 7), (.t 9)]⟩) (.tk (q 11 (.part false 0 1 (.t 10))) (.tk (q 4 (.mv (.t 11))) .nil)))))))))
 .ret))
theorem w_spec_l14Moves {args : List Value} {h : H} {Q : Value → H → Prop} (hl : args.length ≤ 12) (hk : wpc Tryz.prog b_spec_l14Moves (retw [.tmp 4] Q) (argsFr args) h) : AC Tryz.prog 42 args h Q :=
  AC.of_wpc mixedOrders Tryz.func42 (by kernel_rfl) (by kernel_rfl : prepF Tryz.prog Tryz.f42 = some ⟨12, [.tmp 4], b_spec_l14Moves⟩) hl hk

theorem l14Moves_ac {h : H} {cs c2 : List Value} {m : UMach} {s : UState} (hv : RepR h (spMach m) cs) (hf : machFit m) (hst : StR h c2 s) (hok : stateOk s) : AC Tryz.prog 42 [.agg cs.toArray, .agg c2.toArray] h fun r h' => Ext h h' ∧ Own h h' r 4 ((movesOf m s).map UMove.cells) := by
  have hv0 := hv
  have h20 := logOf_len m hok
  obtain ⟨vs, vd, rfl, fr⟩ := mach_r.1 hv
  have o4 := fr.1.one
  have o5 := fr.2.one
  have c4 : vcl vs = [vs] := fr.1.vcl
  have c5 : vcl vd = [vd] := fr.2.vcl
  have l2 := hst.len
  have t2 := take_len l2
  have o2 := hst.one
  rw [← moves_plan hok]
  skip
  refine w_spec_l14Moves (by simp) ?_
  unfold b_spec_l14Moves
  simp -implicitDefEqProofs only [go_sem, o4, o5, c4, c5, l2, t2, o2]
  intro b2 hb_b2 n_b2
  simp -implicitDefEqProofs only [go_sem, o4, o5, c4, c5, l2, t2, o2, hb_b2]
  intro b3 hb_b3 m0_b3
  obtain ⟨z_b3_b2, y_b3_b2, n_b3⟩ := fne m0_b3
  simp only [H.set_base] at hb_b3
  simp -implicitDefEqProofs only [go_sem, o4, o5, c4, c5, l2, t2, o2, hb_b2, hb_b3, z_b3_b2, y_b3_b2]
  refine AC_of (l13Log_ac (hv0.ext (((Ext.refl _).set' n_b2 _).set' n_b3 _)) hf (hst.ext (((Ext.refl _).set' n_b2 _).set' n_b3 _)) hok) ?_
  rintro v5 h5 - ⟨e5, f5⟩
  have E5 := ((((Ext.refl _).set' n_b2 _).set' n_b3 _)).trans e5
  skip
  simp -implicitDefEqProofs only [go_sem, f5.sl.vcl, e5.2, o4, o5, c4, c5, l2, t2, o2]
  refine AC_of (specPlanOf_own f5.sl (by omega)) ?_
  rintro _ h6 - ⟨e6, w, rfl, ow⟩
  simp -implicitDefEqProofs only [go_sem, ow.sl.vcl, (e5.trans e6).2, o4, o5, c4, c5, l2, t2, o2]
  exact ⟨E5.trans e6, ow.back E5⟩
end Go.Proofs.YtiokibikhanfcaaGreat

set_option linter.unusedVariables false
set_option linter.unusedSimpArgs false
set_option maxRecDepth 100000
namespace Go.Proofs.YtiokibikhanfcaaGreat
open Go.KH

/-! ## The blocks of a machine -/
theorem right_of {m : UMach} (h : rightOut m = true) : ∃ s, stM m = some s ∧ machFit m ∧ stateOk s ∧ imageOk (baseOf m) ∧ soundM m s := by
  unfold rightOut at h
  cases hs : stM m with
  | none => rw [hs] at h; cases h
  | some s =>
    rw [hs] at h
    simp only [decide_eq_true_eq] at h
    exact ⟨s, rfl, (stM_ok hs).1, (stM_ok hs).2, h.1, h.2⟩
end Go.Proofs.YtiokibikhanfcaaGreat

set_option linter.unusedVariables false
set_option linter.unusedSimpArgs false
namespace Go.Proofs.YtiokibikhanfcaaGreat
open Go.KH

/-! ## A plan that runs in the place -/
/-- Steps that may be run on an image. -/
structure Runs (w : List UStep) (n : Nat) : Prop where
  dst : ∀ s ∈ w, 0 ≤ s.dst ∧ s.dst < n ∧ s.dst ≤ 7
  src : ∀ s ∈ w, 0 ≤ s.src
  kind : ∀ s ∈ w, 1 ≤ s.kind ∧ s.kind ≤ 4
  apart : w.Pairwise (fun x y => x.dst ≠ y.dst)
theorem Runs.ne {w : List UStep} {n i j : Nat} (r : Runs w n) (hi : i < w.length) (hj : j < w.length) (h : i ≠ j) : (stAt w i).dst ≠ (stAt w j).dst := by
  have := List.pairwise_iff_getElem.1 r.apart
  rw [stAt_get hi, stAt_get hj]
  by_cases hl : i < j
  · exact this i j hi hj hl
  · exact fun e => this j i hj hi (by omega) e.symm
end Go.Proofs.YtiokibikhanfcaaGreat

set_option linter.unusedVariables false
set_option linter.unusedSimpArgs false
namespace Go.Proofs.YtiokibikhanfcaaGreat
open Go.KH

/-! ## Each move of a plan may be made -/
theorem runs_of {im : List (List UInt8)} {l : List UStep} (hi : imageOk im) (ht : ¬ twice l) (hs : ∀ s ∈ l, stepOk s im.length) : Runs (l.filter isW) im.length ∧ ∀ s ∈ l.filter isW, s.src < im.length ∧ makeOk s (at8 im s.src) := by
  have h0 : ∀ s ∈ l.filter isW, stepOk s im.length ∧ s.kind ≠ 5 := fun s h => by
    rw [List.mem_filter] at h
    exact ⟨hs s h.1, by simpa [isW] using h.2⟩
  have hi1 := hi.1
  refine ⟨⟨fun s h => ?_, fun s h => ?_, fun s h => ?_, writes_apart ht⟩, fun s h => ?_⟩
  · obtain ⟨⟨h1, h2, h3, h4⟩, h5⟩ := h0 s h
    rw [if_neg h5] at h2
    omega
  · obtain ⟨⟨h1, h2, h3, h4⟩, h5⟩ := h0 s h
    rw [if_neg h5] at h3
    split at h3 <;> omega
  · obtain ⟨⟨h1, h2, h3, h4⟩, h5⟩ := h0 s h
    omega
  · obtain ⟨h1, h5⟩ := h0 s h
    obtain ⟨-, ⟨s1, s2⟩, hmk⟩ := step_in hi h1 h5
    exact ⟨by omega, hmk⟩
end Go.Proofs.YtiokibikhanfcaaGreat
