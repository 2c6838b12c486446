/- A helper of this seat's claims (contracts of the functions): what it shows is shown for every input that its statements name, on no other condition. -/
import Derived.Test.YtdofcojbjcpikaaGreatDoorMC10t
import Derived.Test.YtdofcojbjcpikaaGreatDoorC11t
set_option linter.unusedVariables false
set_option linter.unusedSimpArgs false
set_option maxRecDepth 100000
namespace Go.Proofs.YtdofcojbjcpikaaGreatDoor
open Go.KH

/-! ## Plans -/
noncomputable def planOut (l : List UStep) (b : Int) : List UMove × Int := if 400 < l.length then ([], 2) else if codeOf l b = 0 then (planB (l.filter isW), 0) else ([], codeOf l b)
theorem plan_none {h0 h : H} {c : Int} : RepF h0 h (spPlan ([], c)) [nils, i64 c] := plan_f.2 ⟨nils, rfl, .inl ⟨none, 0, rfl, rfl⟩⟩
theorem steps_dst {l : List UStep} {b : Int} (h : stepsOk l b) : ∀ s ∈ l.filter isW, 0 ≤ s.dst ∧ s.dst ≤ 7 := by
  intro s hs
  rw [List.mem_filter] at hs
  have h1 := h.2.2 s hs.1
  have h5 : s.kind ≠ 5 := by simpa [isW] using hs.2
  have := h1.2.1
  rw [if_neg h5] at this
  have := h.2.1
  omega
theorem planOut_small (l : List UStep) (b : Int) : (planOut l b).1.length ≤ 28 := by
  unfold planOut
  split
  · simp
  split
  · rename_i h
    have hok := (code_zero h).1
    have := planB_len (steps_dst hok)
    have := List.length_filter_le isW l
    have := hok.1
    simp only; omega
  · simp
/-- spec.PlanOf -/
def b_spec_PlanOf : C := (.seq (.ops [⟨(some 4), none, .alloc [nils, (i64 0)]⟩])
 (.seq (.seq (.ops [q 6 (.mv (.t 0)), q 7 (.len (.t 6)), q 8 (.bin .gtr (.t 7) (.c (i64 400)))])
 (.cond (.t 8) (.seq (.ops [q 9 (.build [nils, (i64 0)] [(1, 1, (.c (i64 2)))]), ⟨none, none, .st 2 (.t 4) (.t 9)⟩])
 .ret) .skip))
 (.seq (.ops [q 10 (.mv (.t 0)), q 11 (.mv (.t 1)), ⟨(some 12), none, .call (.c (.func (.func 97) #[] #[])) [(.t 10), (.t 11)]⟩, q 5 (.mv (.t 12))])
 (.seq (.seq (.ops [q 13 (.mv (.t 5)), q 14 (.bin .neq (.t 13) (.c (i64 0)))])
 (.cond (.t 14) (.seq (.ops [q 15 (.mv (.t 5)), q 16 (.build [nils, (i64 0)] [(1, 1, (.t 15))]), ⟨none, none, .st 2 (.t 4) (.t 16)⟩])
 .ret) .skip))
 (.seq (.ops [q 17 (.mv (.t 0)), ⟨(some 18), none, .call (.c (.func (.func 276) #[] #[])) [(.t 17)]⟩, q 19 (.build [nils, (i64 0)] [(0, 1, (.t 18))]), ⟨none, none, .st 2 (.t 4) (.t 19)⟩])
 .ret)))))
theorem w_spec_PlanOf {args : List Value} {h : H} {Q : Value → H → Prop} (hl : args.length ≤ 20) (hk : wpc Tryz.prog b_spec_PlanOf (retw [.cell 4 true 2] Q) (argsFr args) h) : AC Tryz.prog 224 args h Q :=
  AC.of_wpc mixedOrders Tryz.func224 (by kernel_rfl) (by kernel_rfl : prepF Tryz.prog Tryz.f224 = some ⟨20, [.cell 4 true 2], b_spec_PlanOf⟩) hl hk

theorem specPlanOf_own {h : H} {u : Value} {l : List UStep} {b : Int} (hu : Sl h u 4 (l.map UStep.cells)) (hn : l.length ≤ 1048576) :
    AC Tryz.prog 224 [u, i64 b] h fun r h' => Ext h h' ∧ ∃ w, r = .agg #[w, i64 (planOut l b).2] ∧ Own h h' w 4 ((planOut l b).1.map UMove.cells) := by
  obtain ⟨au, cu, rfl⟩ := hu.shape
  have hll : (l.map UStep.cells).length = l.length := by simp
  rw [hll] at hu
  skip
  refine w_spec_PlanOf (by simp) ?_
  unfold b_spec_PlanOf
  simp -implicitDefEqProofs only [go_sem, hll]
  intro b4 hb_b4 n_b4
  unfold planOut
  by_cases h2 : 400 < l.length
  · rw [if_pos h2]
    simp -implicitDefEqProofs only [go_sem, show (400 : Int) < (l.length : Int) by omega, hll, hb_b4]
    exact ⟨((Ext.refl _).set' n_b4 _), _, rfl, Own.nil _ _ _⟩
  rw [if_neg h2]
  simp -implicitDefEqProofs only [go_sem, show ¬ (400 : Int) < (l.length : Int) by omega, hll, hb_b4]
  refine (specStepsCode_pc (hu.ext ((Ext.refl _).set' n_b4 _)) hn).use ?_
  simp -implicitDefEqProofs only [go_sem, hll, hb_b4]
  by_cases h4 : codeOf l b = 0
  rotate_left
  · rw [if_neg h4]
    simp -implicitDefEqProofs only [go_sem, h4, hll, hb_b4]
    exact ⟨((Ext.refl _).set' n_b4 _), _, rfl, Own.nil _ _ _⟩
  rw [if_pos h4]
  have hok := (code_zero h4).1
  simp -implicitDefEqProofs only [go_sem, h4, hll, hb_b4]
  refine AC_of (l11Plan_ac (hu.ext ((Ext.refl _).set' n_b4 _)) hok.1 (steps_dst hok)) ?_
  rintro w h5 - ⟨e1, f1⟩
  have g2 := e1.2.g b4 _ (H.set_get_same _ _ _)
  have hb4 := e1.1
  simp only [H.set_base] at hb4
  simp -implicitDefEqProofs only [go_sem, f1.sl.vcl, f1.sl.one, ldc_get g2, stc_get g2, hb4, hll, hb_b4]
  exact ⟨((((Ext.refl _).set' n_b4 _)).trans e1).set' n_b4 _, w, rfl, (f1.set0 (b := b4) (by rw [H.set_get_same]; simp) _).back ((Ext.refl _).set' n_b4 _)⟩
theorem specPlanOf_ac {h : H} {u : Value} {l : List UStep} {b : Int} (hu : Sl h u 4 (l.map UStep.cells)) (hn : l.length ≤ 1048576) :
    AC Tryz.prog 224 [u, i64 b] h fun r h' => Ext h h' ∧ ∃ cs, r = .agg cs.toArray ∧ RepF h h' (spPlan (planOut l b)) cs :=
  (specPlanOf_own hu hn).mono fun r h' _ ⟨e, w, hr, o⟩ => ⟨e, _, hr, plan_f.2 ⟨w, rfl, o.fre⟩⟩
end Go.Proofs.YtdofcojbjcpikaaGreatDoor
