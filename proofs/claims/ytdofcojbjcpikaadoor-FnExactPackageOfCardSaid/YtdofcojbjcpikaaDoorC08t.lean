/- A helper of this seat's claims (contracts of the functions): what it shows is shown for every input that its statements name, on no other condition. -/
import Derived.Test.YtdofcojbjcpikaaDoorC08o
import Derived.Test.YtdofcojbjcpikaaDoorCM
set_option linter.unusedVariables false
set_option linter.unusedSimpArgs false
set_option maxRecDepth 100000
namespace Go.Proofs.YtdofcojbjcpikaaDoor
open Go.KH

/-! ## The laws' helpers for packages read -/
/-- laws.eqPackageOut -/
def b_laws_eqPackageOut : C := (.seq (.ops [⟨(some 2), none, .box (.t 0)⟩, ⟨(some 3), none, .box (.t 1)⟩, q 4 (.mv (.c (.bool false)))])
 (.seq (.seq (.ops [q 5 (.fld 0 (.t 2)), q 6 (.ld true 3 (.t 5)), q 7 (.fld 0 (.t 3)), q 8 (.ld true 3 (.t 7)), ⟨(some 9), none, .call (.c (.func (.func 11) #[] #[])) [(.t 6), (.t 8)]⟩, q 10 (.un .not (.t 9))])
 (.cond (.t 10) (.seq (.ops [q 4 (.mv (.c (.bool false)))])
 .ret) .skip))
 (.seq (.seq (.ops [q 11 (.fld 3 (.t 2)), q 12 (.ld false 1 (.t 11)), q 13 (.fld 3 (.t 3)), q 14 (.ld false 1 (.t 13)), q 15 (.bin .neq (.t 12) (.t 14))])
 (.cond (.t 15) (.seq (.ops [q 4 (.mv (.c (.bool false)))])
 .ret) .skip))
 (.seq (.ops [q 4 (.mv (.c (.bool true)))])
 .ret))))
theorem w_laws_eqPackageOut {args : List Value} {h : H} {Q : Value → H → Prop} (hl : args.length ≤ 16) (hk : wpc Tryd.prog b_laws_eqPackageOut (retw [.tmp 4] Q) (argsFr args) h) : AC Tryd.prog 15 args h Q :=
  AC.of_wpc mixedOrders Tryd.func15 (by kernel_rfl) (by kernel_rfl : prepF Tryd.prog Tryd.f15 = some ⟨16, [.tmp 4], b_laws_eqPackageOut⟩) hl hk

theorem eqPackageOut_pc {h : H} {c1 c2 : List Value} {a b : UPkg × Int} (ha : RepR h (spPo a) c1) (hb : RepR h (spPo b) c2) (hn : a.1.fin) : PC Tryd.prog 15 [.agg c1.toArray, .agg c2.toArray] h (.bool (decide (a = b))) := by
  obtain ⟨v1, rfl, p1⟩ := po_r.1 ha
  obtain ⟨u1, rfl, q1⟩ := po_r.1 hb
  refine PC_of ?_
  refine w_laws_eqPackageOut (by simp) ?_
  unfold b_laws_eqPackageOut
  simp -implicitDefEqProofs only [go_sem, p1.one, q1.one]
  intro b2 hb_b2 n_b2
  simp -implicitDefEqProofs only [go_sem, p1.one, q1.one, hb_b2]
  intro b3 hb_b3 m0_b3
  obtain ⟨z_b3_b2, y_b3_b2, n_b3⟩ := fne m0_b3
  simp only [H.set_base] at hb_b3
  simp -implicitDefEqProofs only [go_sem, p1.one, q1.one, hb_b2, hb_b3, z_b3_b2, y_b3_b2]
  refine PC.use (eqPackage_pc (a := a.1) (b := b.1) (pkg_r.2 ⟨v1, rfl, p1.ext (((Ext.refl _).set' n_b2 _).set' n_b3 _)⟩) (pkg_r.2 ⟨u1, rfl, q1.ext (((Ext.refl _).set' n_b2 _).set' n_b3 _)⟩) hn) ?_
  obtain ⟨x1, x2⟩ := a
  obtain ⟨w1, w2⟩ := b
  simp only
  by_cases h1 : x1 = w1
  rotate_left
  · simp -implicitDefEqProofs only [go_sem, h1, hb_b2, hb_b3, z_b3_b2, y_b3_b2]
    exact ⟨(((Ext.refl _).set' n_b2 _).set' n_b3 _), dec_f fun h => h1 (by injection h)⟩
  · subst h1
    by_cases h2 : x2 = w2
    · subst h2
      simp -implicitDefEqProofs only [go_sem, p1.one, q1.one, hb_b2, hb_b3, z_b3_b2, y_b3_b2]
      exact (((Ext.refl _).set' n_b2 _).set' n_b3 _)
    · simp -implicitDefEqProofs only [go_sem, p1.one, q1.one, h2, hb_b2, hb_b3, z_b3_b2, y_b3_b2]
      exact ⟨(((Ext.refl _).set' n_b2 _).set' n_b3 _), dec_f fun h => h2 (by injection h)⟩
/-- laws.markPackage -/
def b_laws_markPackage : C := (.seq (.ops [⟨(some 2), none, .box (.t 0)⟩, q 4 (.mv (.c (i64 0)))])
 (.seq (.ops [q 5 (.fld 2 (.t 2)), q 6 (.ld false 1 (.t 5)), q 7 (.mv (.t 1)), ⟨(some 8), none, .call (.c (.func (.func 56) #[] #[])) [(.t 6), (.t 7)]⟩, q 1 (.mv (.t 8))])
 (.seq (.ops [q 9 (.mv (.t 1)), q 4 (.mv (.t 9))])
 .ret)))
theorem w_laws_markPackage {args : List Value} {h : H} {Q : Value → H → Prop} (hl : args.length ≤ 10) (hk : wpc Tryd.prog b_laws_markPackage (retw [.tmp 4] Q) (argsFr args) h) : AC Tryd.prog 34 args h Q :=
  AC.of_wpc mixedOrders Tryd.func34 (by kernel_rfl) (by kernel_rfl : prepF Tryd.prog Tryd.f34 = some ⟨10, [.tmp 4], b_laws_markPackage⟩) hl hk

/-- laws.markPackageOut -/
def b_laws_markPackageOut : C := (.seq (.ops [⟨(some 2), none, .box (.t 0)⟩, q 4 (.mv (.c (i64 0)))])
 (.seq (.ops [q 5 (.fld 0 (.t 2)), q 6 (.ld true 3 (.t 5)), q 7 (.mv (.t 1)), ⟨(some 8), none, .call (.c (.func (.func 34) #[] #[])) [(.t 6), (.t 7)]⟩, q 1 (.mv (.t 8))])
 (.seq (.ops [q 9 (.mv (.t 1)), q 4 (.mv (.t 9))])
 .ret)))
theorem w_laws_markPackageOut {args : List Value} {h : H} {Q : Value → H → Prop} (hl : args.length ≤ 10) (hk : wpc Tryd.prog b_laws_markPackageOut (retw [.tmp 4] Q) (argsFr args) h) : AC Tryd.prog 17 args h Q :=
  AC.of_wpc mixedOrders Tryd.func17 (by kernel_rfl) (by kernel_rfl : prepF Tryd.prog Tryd.f17 = some ⟨10, [.tmp 4], b_laws_markPackageOut⟩) hl hk

theorem markPackage_ac {h0 h : H} {p : UPkg} {v : Value} {k0 : Int} (f1 : Fre h0 h v 4 (p.steps.map UStep.cells)) (hs : p.steps.length ≤ 1048576) (hk : 1 ≤ k0 ∧ k0 ≤ 8388608) :
    AC Tryd.prog 34 [.agg #[i64 p.blocks, str p.digest, v], i64 k0] h fun r h' => r = i64 (k0 + (4 * p.steps.length : Nat)) ∧ Keep (blks [v]) h h' ∧ Sl h' v 4 (mks gStep 4 k0 p.steps.length) := by
  have o1 := f1.sl.one
  refine w_laws_markPackage (by simp) ?_
  unfold b_laws_markPackage
  simp -implicitDefEqProofs only [go_sem, o1]
  intro b1 hb_b1 n_b1
  simp -implicitDefEqProofs only [go_sem, o1, hb_b1]
  refine AC_of (markStepS_ac (f1.ext ((Ext.refl _).set' n_b1 _)) (by omega) (by omega)) ?_
  rintro r h1 - ⟨rfl, k1, m1⟩
  simp -implicitDefEqProofs only [go_sem, hb_b1]
  exact ⟨((((Ext.refl _).set' n_b1 _)).keep _).trans (k1.mono fun b hb => ⟨v, by simp, hb⟩), m1.sl⟩
theorem markPackageOut_ac {h0 h : H} {o : UPkg × Int} {cs : List Value} {k0 : Int} (hv : RepF h0 h (spPo o) cs) (hs : o.1.steps.length ≤ 1048576) (hk : 1 ≤ k0 ∧ k0 ≤ 2097152) :
    AC Tryd.prog 17 [.agg cs.toArray, i64 k0] h fun r h' => r = i64 (k0 + (4 * o.1.steps.length : Nat)) ∧ Keep (blks cs) h h' ∧ RepR h' (spMPo o k0) cs := by
  obtain ⟨v, rfl, f1⟩ := po_f.1 hv
  have o1 := f1.sl.one
  refine w_laws_markPackageOut (by simp) ?_
  unfold b_laws_markPackageOut
  simp -implicitDefEqProofs only [go_sem, o1]
  intro b1 hb_b1 n_b1
  simp -implicitDefEqProofs only [go_sem, o1, hb_b1]
  refine AC_of (markPackage_ac (p := o.1) (f1.ext ((Ext.refl _).set' n_b1 _)) hs (by omega)) ?_
  rintro r h1 - ⟨rfl, k1, m1⟩
  simp -implicitDefEqProofs only [go_sem, hb_b1]
  refine ⟨((((Ext.refl _).set' n_b1 _)).keep _).trans (k1.mono ?_), po_m.2 ⟨v, rfl, m1⟩⟩
  rintro b ⟨x, hx, e⟩
  simp only [List.mem_cons, List.not_mem_nil, or_false] at hx
  subst hx
  exact ⟨x, by simp, e⟩
/-- laws.heldPackage -/
def b_laws_heldPackage : C := (.seq (.ops [⟨(some 2), none, .box (.t 0)⟩, q 4 (.mv (.c (i64 0)))])
 (.seq (.ops [q 5 (.fld 2 (.t 2)), q 6 (.ld false 1 (.t 5)), q 7 (.mv (.t 1)), ⟨(some 8), none, .call (.c (.func (.func 57) #[] #[])) [(.t 6), (.t 7)]⟩, q 1 (.mv (.t 8))])
 (.seq (.seq (.ops [q 9 (.mv (.t 1)), q 10 (.bin .lss (.t 9) (.c (i64 0)))])
 (.cond (.t 10) (.seq (.ops [q 4 (.mv (.c (i64 (-1))))])
 .ret) .skip))
 (.seq (.ops [q 11 (.mv (.t 1)), q 4 (.mv (.t 11))])
 .ret))))
theorem w_laws_heldPackage {args : List Value} {h : H} {Q : Value → H → Prop} (hl : args.length ≤ 12) (hk : wpc Tryd.prog b_laws_heldPackage (retw [.tmp 4] Q) (argsFr args) h) : AC Tryd.prog 35 args h Q :=
  AC.of_wpc mixedOrders Tryd.func35 (by kernel_rfl) (by kernel_rfl : prepF Tryd.prog Tryd.f35 = some ⟨12, [.tmp 4], b_laws_heldPackage⟩) hl hk

/-- laws.heldPackageOut -/
def b_laws_heldPackageOut : C := (.seq (.ops [⟨(some 2), none, .box (.t 0)⟩, q 4 (.mv (.c (i64 0)))])
 (.seq (.ops [q 5 (.fld 0 (.t 2)), q 6 (.ld true 3 (.t 5)), q 7 (.mv (.t 1)), ⟨(some 8), none, .call (.c (.func (.func 35) #[] #[])) [(.t 6), (.t 7)]⟩, q 1 (.mv (.t 8))])
 (.seq (.seq (.ops [q 9 (.mv (.t 1)), q 10 (.bin .lss (.t 9) (.c (i64 0)))])
 (.cond (.t 10) (.seq (.ops [q 4 (.mv (.c (i64 (-1))))])
 .ret) .skip))
 (.seq (.ops [q 11 (.mv (.t 1)), q 4 (.mv (.t 11))])
 .ret))))
theorem w_laws_heldPackageOut {args : List Value} {h : H} {Q : Value → H → Prop} (hl : args.length ≤ 12) (hk : wpc Tryd.prog b_laws_heldPackageOut (retw [.tmp 4] Q) (argsFr args) h) : AC Tryd.prog 18 args h Q :=
  AC.of_wpc mixedOrders Tryd.func18 (by kernel_rfl) (by kernel_rfl : prepF Tryd.prog Tryd.f18 = some ⟨12, [.tmp 4], b_laws_heldPackageOut⟩) hl hk

theorem heldPackageOut_pc {h : H} {o : UPkg × Int} {cs : List Value} {k0 : Int} (hv : RepR h (spMPo o k0) cs) (hs : o.1.steps.length ≤ 1048576) (hk : 1 ≤ k0 ∧ k0 ≤ 2097152) :
    PC Tryd.prog 18 [.agg cs.toArray, i64 k0] h (i64 (k0 + (4 * o.1.steps.length : Nat))) := by
  obtain ⟨v, rfl, f1⟩ := po_m.1 hv
  have o1 := f1.one
  have hp : ∀ {h : H}, Sl h v 4 (mks gStep 4 k0 o.1.steps.length) → PC Tryd.prog 35 [.agg #[i64 o.1.blocks, str o.1.digest, v], i64 k0] h (i64 (k0 + (4 * o.1.steps.length : Nat))) := fun {h} f1 => by
    refine PC_of ?_
    refine w_laws_heldPackage (by simp) ?_
    unfold b_laws_heldPackage
    simp -implicitDefEqProofs only [go_sem, o1]
    intro b1 hb1 n1
    simp -implicitDefEqProofs only [go_sem, o1]
    refine PC.use (heldStepS_pc (f1.ext ((Ext.refl _).set n1 _)) (by omega) (by omega)) ?_
    simp -implicitDefEqProofs only [go_sem, show ¬ (k0 + ((4 * o.1.steps.length : Nat) : Int) < 0) by omega]
    exact (Ext.refl _).set n1 _
  refine PC_of ?_
  refine w_laws_heldPackageOut (by simp) ?_
  unfold b_laws_heldPackageOut
  simp -implicitDefEqProofs only [go_sem, o1]
  intro b1 hb_b1 n_b1
  simp -implicitDefEqProofs only [go_sem, o1, hb_b1]
  refine PC.use (hp (f1.ext ((Ext.refl _).set' n_b1 _))) ?_
  simp -implicitDefEqProofs only [go_sem, show ¬ (k0 + ((4 * o.1.steps.length : Nat) : Int) < 0) by omega, hb_b1]
  exact ((Ext.refl _).set' n_b1 _)
end Go.Proofs.YtdofcojbjcpikaaDoor
