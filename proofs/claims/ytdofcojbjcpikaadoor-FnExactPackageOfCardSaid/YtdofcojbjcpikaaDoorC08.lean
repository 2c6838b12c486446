/- A helper of this seat's claims (contracts of the functions): what it shows is shown for every input that its statements name, on no other condition. -/
import Derived.Test.YtdofcojbjcpikaaDoorC06c
import Derived.Test.YtdofcojbjcpikaaDoorC09b
set_option linter.unusedVariables false
set_option linter.unusedSimpArgs false
set_option maxRecDepth 100000
namespace Go.Proofs.YtdofcojbjcpikaaDoor
open Go.KH

/-! ## Packages -/
structure UPkg where
  blocks : Int
  digest : List UInt8
  steps : List UStep
deriving DecidableEq
abbrev UPkg.cells (p : UPkg) (v : Value) : List Value := [i64 p.blocks, str p.digest, v]
abbrev spPkg (p : UPkg) : List Sp := [.v (i64 p.blocks), .v (str p.digest), .s 4 (p.steps.map UStep.cells)]
theorem pkg_r {h : H} {p : UPkg} {cs : List Value} : RepR h (spPkg p) cs ↔ ∃ v, cs = p.cells v ∧ Sl h v 4 (p.steps.map UStep.cells) := by
  simp only [spPkg, RepR_i, RepR_str, RepR_s, RepR_nil]
  constructor
  · rintro ⟨_, rfl, _, rfl, v, _, rfl, h1, rfl⟩; exact ⟨v, rfl, h1⟩
  · rintro ⟨v, rfl, h1⟩; exact ⟨_, rfl, _, rfl, v, _, rfl, h1, rfl⟩
theorem pkg_f {h0 h : H} {p : UPkg} {cs : List Value} : RepF h0 h (spPkg p) cs ↔ ∃ v, cs = p.cells v ∧ Fre h0 h v 4 (p.steps.map UStep.cells) := by
  simp only [spPkg, RepF_i, RepF_str, RepF_s, RepF_nil]
  constructor
  · rintro ⟨_, rfl, _, rfl, v, _, rfl, h1, _, rfl⟩; exact ⟨v, rfl, h1⟩
  · rintro ⟨v, rfl, h1⟩; exact ⟨_, rfl, _, rfl, v, _, rfl, h1, by simp, rfl⟩
def pkgOk (p : UPkg) : Prop := codeOf p.steps p.blocks = 0 ∧ p.digest.length = 32
noncomputable instance (p : UPkg) : Decidable (pkgOk p) := inferInstanceAs (Decidable (_ ∧ _))
def pkgI (p : UPkg) (k : Nat) : List UInt8 := putNum p.blocks ++ putText p.digest ++ putNum p.steps.length ++ (p.steps.take k).flatMap fun s => putText (stepB s)
def pkgB (p : UPkg) : List UInt8 := sealB (pkgI p p.steps.length)
noncomputable def pkgBytes (p : UPkg) : List UInt8 := if pkgOk p then pkgB p else []
def UPkg.fin (p : UPkg) : Prop := p.steps.length ≤ maxLen
def UPkg.ok (p : UPkg) : Prop := in64 p.blocks ∧ p.digest.length ≤ maxLen ∧ p.steps.length ≤ maxLen ∧ ∀ s ∈ p.steps, s.ok
theorem pkgOk_steps {p : UPkg} (h : pkgOk p) : stepsOk p.steps p.blocks := by
  have h1 := h.1
  unfold codeOf at h1
  split at h1
  · assumption
  · omega
theorem stepB_60 {s : UStep} {b : Int} (hs : s.ok) (h : stepOk s b) : (stepB s).length ≤ 60 := by
  have hd := stepOk_data h
  have l1 := putNum_le hs.1
  have l2 := putNum_le hs.2.1
  have l3 := putNum_le hs.2.2.1
  have l4 := putText_le (t := s.data) (by omega)
  unfold stepB
  simp only [List.length_append]; omega
theorem pkgI_le {p : UPkg} (h : pkgOk p) (hok : p.ok) : ∀ k, k ≤ p.steps.length → (pkgI p k).length ≤ 62 + 70 * k
  | 0, _ => by
    have l1 := putNum_le hok.1
    have l2 := putText_le (t := p.digest) (by have := h.2; omega)
    have l3 := putNum_le (n := (p.steps.length : Int)) ⟨by omega, by have := (pkgOk_steps h).1; omega⟩
    have := h.2
    unfold pkgI
    simp only [List.take_zero, List.flatMap_nil, List.length_append, List.length_nil]; omega
  | k + 1, hk => by
    have ih := pkgI_le h hok k (by omega)
    have hs := List.getElem_mem (l := p.steps) (n := k) (by omega)
    have l1 := stepB_60 (hok.2.2.2 _ hs) ((pkgOk_steps h).2.2 _ hs)
    have l2 := putText_le (t := stepB p.steps[k]) (by omega)
    unfold pkgI at ih ⊢
    rw [List.take_succ_eq_append_getElem (by omega), List.flatMap_append]
    simp only [List.length_append, List.flatMap_cons, List.flatMap_nil, List.append_nil] at ih ⊢
    omega
theorem pkgI_succ {p : UPkg} {k : Nat} (hk : k < p.steps.length) : pkgI p (k + 1) = pkgI p k ++ putText (stepB p.steps[k]) := by
  unfold pkgI
  rw [List.take_succ_eq_append_getElem hk, List.flatMap_append]
  simp
theorem putNum_pos (n : Int) : 0 < (putNum n).length := by
  unfold putNum
  by_cases h : zig n < 128
  · rw [leb_lt h]; simp
  · rw [leb_ge h]; simp
/-- laws.szPackage -/
def b_laws_szPackage : C := (.seq (.ops [⟨(some 2), none, .box (.t 0)⟩, q 4 (.mv (.c (i64 0)))])
 (.seq (.ops [q 5 (.mv (.t 1)), q 6 (.fld 1 (.t 2)), q 7 (.ld false 1 (.t 6)), q 8 (.slen (.t 7)), q 9 (.bin .sub (.t 5) (.t 8)), q 1 (.mv (.t 9))])
 (.seq (.seq (.ops [q 10 (.mv (.t 1)), q 11 (.bin .lss (.t 10) (.c (i64 0)))])
 (.cond (.t 11) (.seq (.ops [q 4 (.mv (.c (i64 (-1))))])
 .ret) .skip))
 (.seq (.ops [q 12 (.fld 2 (.t 2)), q 13 (.ld false 1 (.t 12)), q 14 (.mv (.t 1)), ⟨(some 15), none, .call (.c (.func (.func 19) #[] #[])) [(.t 13), (.t 14)]⟩, q 1 (.mv (.t 15))])
 (.seq (.seq (.ops [q 16 (.mv (.t 1)), q 17 (.bin .lss (.t 16) (.c (i64 0)))])
 (.cond (.t 17) (.seq (.ops [q 4 (.mv (.c (i64 (-1))))])
 .ret) .skip))
 (.seq (.ops [q 18 (.mv (.t 1)), q 4 (.mv (.t 18))])
 .ret))))))
theorem w_laws_szPackage {args : List Value} {h : H} {Q : Value → H → Prop} (hl : args.length ≤ 19) (hk : wpc Tryd.prog b_laws_szPackage (retw [.tmp 4] Q) (argsFr args) h) : AC Tryd.prog 5 args h Q :=
  AC.of_wpc mixedOrders Tryd.func5 (by kernel_rfl) (by kernel_rfl : prepF Tryd.prog Tryd.f5 = some ⟨19, [.tmp 4], b_laws_szPackage⟩) hl hk

theorem szPackage_pc {h : H} {cs : List Value} {p : UPkg} {left : Int} (hv : RepR h (spPkg p) cs) (hok : p.ok) (hl : 0 ≤ left ∧ left ≤ 1048576) :
    PC Tryd.prog 5 [.agg cs.toArray, i64 left] h (i64 (lessn left (p.digest.length + (p.steps.length + sumn (fun s : UStep => s.data.length) p.steps) : Nat))) := by
  obtain ⟨v, rfl, hs⟩ := pkg_r.1 hv
  obtain ⟨o1, o2, o3, o4⟩ := hok
  refine PC_of ?_
  have := show maxLen = 9223372036854775807 from rfl
  refine w_laws_szPackage (by simp) ?_
  unfold b_laws_szPackage
  simp -implicitDefEqProofs only [go_sem]
  intro b1 hb_b1 n_b1
  simp -implicitDefEqProofs only [go_sem, wrap_i64 (show -(9223372036854775808 : Int) ≤ (left - (p.digest.length : Nat)) by omega) (show (left - (p.digest.length : Nat)) < 9223372036854775808 by omega), hb_b1]
  have e1 : left - (p.digest.length : Nat) < 0 ↔ lessn left p.digest.length < 0 := by unfold lessn; split <;> omega
  refine Br.of (fun h1 => ?_) (fun h1 => ?_)
  · simp -implicitDefEqProofs only [go_sem, h1, hb_b1]
    exact ⟨((Ext.refl _).set' n_b1 _), by unfold lessn; rw [if_pos (by omega)]⟩
  simp -implicitDefEqProofs only [go_sem, h1, hb_b1]
  refine (szStepS_pc (hs.ext ((Ext.refl _).set' n_b1 _)) o3 o4 (by omega)).use ?_
  simp -implicitDefEqProofs only [go_sem, hb_b1]
  refine Br.of (fun h2 => ?_) (fun h2 => ?_)
  · simp -implicitDefEqProofs only [go_sem, h2, hb_b1]
    exact ⟨((Ext.refl _).set' n_b1 _), by unfold lessn at h2 ⊢; rw [if_pos]; split at h2 <;> omega⟩
  · simp -implicitDefEqProofs only [go_sem, h2, hb_b1]
    exact ⟨((Ext.refl _).set' n_b1 _), by have h3 := lessn_nn h2; rw [h3.2]; unfold lessn; rw [if_neg (by omega)]; congr 1; omega⟩
/-- laws.eqPackage -/
def b_laws_eqPackage : C := (.seq (.ops [⟨(some 2), none, .box (.t 0)⟩, ⟨(some 3), none, .box (.t 1)⟩, q 4 (.mv (.c (.bool false)))])
 (.seq (.seq (.ops [q 5 (.fld 0 (.t 2)), q 6 (.ld false 1 (.t 5)), q 7 (.fld 0 (.t 3)), q 8 (.ld false 1 (.t 7)), q 9 (.bin .neq (.t 6) (.t 8))])
 (.cond (.t 9) (.seq (.ops [q 4 (.mv (.c (.bool false)))])
 .ret) .skip))
 (.seq (.seq (.ops [q 10 (.fld 1 (.t 2)), q 11 (.ld false 1 (.t 10)), q 12 (.fld 1 (.t 3)), q 13 (.ld false 1 (.t 12)), q 14 (.bin .neq (.t 11) (.t 13))])
 (.cond (.t 14) (.seq (.ops [q 4 (.mv (.c (.bool false)))])
 .ret) .skip))
 (.seq (.seq (.ops [q 15 (.fld 2 (.t 2)), q 16 (.ld false 1 (.t 15)), q 17 (.fld 2 (.t 3)), q 18 (.ld false 1 (.t 17)), ⟨(some 19), none, .call (.c (.func (.func 26) #[] #[])) [(.t 16), (.t 18)]⟩, q 20 (.un .not (.t 19))])
 (.cond (.t 20) (.seq (.ops [q 4 (.mv (.c (.bool false)))])
 .ret) .skip))
 (.seq (.ops [q 4 (.mv (.c (.bool true)))])
 .ret)))))
theorem w_laws_eqPackage {args : List Value} {h : H} {Q : Value → H → Prop} (hl : args.length ≤ 21) (hk : wpc Tryd.prog b_laws_eqPackage (retw [.tmp 4] Q) (argsFr args) h) : AC Tryd.prog 11 args h Q :=
  AC.of_wpc mixedOrders Tryd.func11 (by kernel_rfl) (by kernel_rfl : prepF Tryd.prog Tryd.f11 = some ⟨21, [.tmp 4], b_laws_eqPackage⟩) hl hk

theorem eqPackage_pc {h : H} {c1 c2 : List Value} {a b : UPkg} (ha : RepR h (spPkg a) c1) (hb : RepR h (spPkg b) c2) (hn : a.fin) : PC Tryd.prog 11 [.agg c1.toArray, .agg c2.toArray] h (.bool (decide (a = b))) := by
  obtain ⟨v1, rfl, p1⟩ := pkg_r.1 ha
  obtain ⟨u1, rfl, q1⟩ := pkg_r.1 hb
  obtain ⟨x1, x2, x3⟩ := a
  obtain ⟨w1, w2, w3⟩ := b
  refine PC_of ?_
  refine w_laws_eqPackage (by simp) ?_
  unfold b_laws_eqPackage
  simp -implicitDefEqProofs only [go_sem]
  intro b1 hb_b1 n_b1
  simp -implicitDefEqProofs only [go_sem, hb_b1]
  intro b2 hb_b2 m0_b2
  obtain ⟨z_b2_b1, y_b2_b1, n_b2⟩ := fne m0_b2
  simp only [H.set_base] at hb_b2
  simp -implicitDefEqProofs only [go_sem, hb_b1, hb_b2, z_b2_b1, y_b2_b1]
  repeat' first | (refine Br.of (fun hc => ?_) (fun hc => ?_) <;> simp -implicitDefEqProofs only [go_sem, hc, hb_b1, hb_b2, z_b2_b1, y_b2_b1]) | (refine PC.use (eqStepS_pc (p1.ext (((Ext.refl _).set' n_b1 _).set' n_b2 _)) (q1.ext (((Ext.refl _).set' n_b1 _).set' n_b2 _)) hn) ?_; simp -implicitDefEqProofs only [go_sem, hc, hb_b1, hb_b2, z_b2_b1, y_b2_b1])
  all_goals exact ⟨(((Ext.refl _).set' n_b1 _).set' n_b2 _), by simp_all⟩
/-- laws.toPackage -/
def b_laws_toPackage : C := (.seq (.ops [⟨(some 1), none, .box (.t 0)⟩, ⟨(some 2), none, .alloc [(i64 0), (str []), nils]⟩])
 (.seq (.ops [⟨(some 3), none, .alloc [(i64 0), (str []), nils]⟩])
 (.seq (.ops [q 4 (.fld 0 (.t 1)), q 5 (.ld false 1 (.t 4)), q 6 (.fld 0 (.t 3)), ⟨none, none, .st 1 (.t 6) (.t 5)⟩])
 (.seq (.ops [q 7 (.fld 1 (.t 1)), q 8 (.ld false 1 (.t 7)), q 9 (.fld 1 (.t 3)), ⟨none, none, .st 1 (.t 9) (.t 8)⟩])
 (.seq (.ops [q 10 (.fld 2 (.t 1)), q 11 (.ld false 1 (.t 10)), ⟨(some 12), none, .call (.c (.func (.func 24) #[] #[])) [(.t 11)]⟩, q 13 (.fld 2 (.t 3)), ⟨none, none, .st 1 (.t 13) (.t 12)⟩])
 (.seq (.ops [q 14 (.ld true 3 (.t 3)), ⟨none, none, .st 3 (.t 2) (.t 14)⟩])
 .ret))))))
theorem w_laws_toPackage {args : List Value} {h : H} {Q : Value → H → Prop} (hl : args.length ≤ 15) (hk : wpc Tryd.prog b_laws_toPackage (retw [.cell 2 true 3] Q) (argsFr args) h) : AC Tryd.prog 8 args h Q :=
  AC.of_wpc mixedOrders Tryd.func8 (by kernel_rfl) (by kernel_rfl : prepF Tryd.prog Tryd.f8 = some ⟨15, [.cell 2 true 3], b_laws_toPackage⟩) hl hk

theorem toPackage_ac {h : H} {cs : List Value} {p : UPkg} (hv : RepR h (spPkg p) cs) (hs : p.steps.length ≤ 1048576) : AC Tryd.prog 8 [.agg cs.toArray] h fun r h' => Ext h h' ∧ ∃ cs', r = .agg cs'.toArray ∧ RepF h h' (spPkg p) cs' := by
  obtain ⟨v, rfl, a1⟩ := pkg_r.1 hv
  refine w_laws_toPackage (by simp) ?_
  unfold b_laws_toPackage
  simp -implicitDefEqProofs only [go_sem]
  intro b1 hb_b1 n_b1
  simp -implicitDefEqProofs only [go_sem, hb_b1]
  intro b2 hb_b2 m0_b2
  obtain ⟨z_b2_b1, y_b2_b1, n_b2⟩ := fne m0_b2
  simp only [H.set_base] at hb_b2
  simp -implicitDefEqProofs only [go_sem, hb_b1, hb_b2, z_b2_b1, y_b2_b1]
  intro b3 hb_b3 m0_b3
  obtain ⟨z_b3_b2, y_b3_b2, m1_b3⟩ := fne m0_b3
  obtain ⟨z_b3_b1, y_b3_b1, n_b3⟩ := fne m1_b3
  simp only [H.set_base] at hb_b3
  simp -implicitDefEqProofs only [go_sem, hb_b1, hb_b2, z_b2_b1, y_b2_b1, hb_b3, z_b3_b2, y_b3_b2, z_b3_b1, y_b3_b1]
  refine AC_of (toStepS_ac (a1.ext ((((Ext.refl _).set' n_b1 _).set' n_b2 _).set' n_b3 _)) hs) ?_
  rintro v1 h1 - ⟨e1, f1⟩
  have g1 := e1.2.g b1 _ (by simp -implicitDefEqProofs only [go_sem, hb_b1, hb_b2, z_b2_b1, y_b2_b1, hb_b3, z_b3_b2, y_b3_b2, z_b3_b1, y_b3_b1]; rfl)
  have g2 := e1.2.g b2 _ (by simp -implicitDefEqProofs only [go_sem, hb_b1, hb_b2, z_b2_b1, y_b2_b1, hb_b3, z_b3_b2, y_b3_b2, z_b3_b1, y_b3_b1]; rfl)
  have g3 := e1.2.g b3 _ (by simp -implicitDefEqProofs only [go_sem, hb_b1, hb_b2, z_b2_b1, y_b2_b1, hb_b3, z_b3_b2, y_b3_b2, z_b3_b1, y_b3_b1]; rfl)
  have hb3 := e1.1
  simp only [H.set_base] at hb3
  obtain ⟨av1, cv1, rfl⟩ := f1.shape
  simp -implicitDefEqProofs only [go_sem, ldc_get g1, ldc_get g2, ldc_get g3, stc_get g1, stc_get g2, stc_get g3, hb3, hb_b1, hb_b2, z_b2_b1, y_b2_b1, hb_b3, z_b3_b2, y_b3_b2, z_b3_b1, y_b3_b1]
  refine ⟨(((((((Ext.refl _).set' n_b1 _).set' n_b2 _).set' n_b3 _)).trans e1).set' n_b2 _).set' n_b3 _, _, rfl, pkg_f.2 ⟨_, rfl, ((f1.set (b := b2) (by simp -implicitDefEqProofs only [go_sem, hb_b1, hb_b2, z_b2_b1, y_b2_b1, hb_b3, z_b3_b2, y_b3_b2, z_b3_b1, y_b3_b1]; rfl) _).set (H.set_get_same _ _ _) _).back ((((Ext.refl _).set' n_b1 _).set' n_b2 _).set' n_b3 _)⟩⟩
/-- impl.isPackage -/
def b_impl_isPackage : C := (.seq (.ops [⟨(some 1), none, .box (.t 0)⟩, q 2 (.mv (.c (.bool false)))])
 (.seq (.ops [q 3 (.fld 2 (.t 1)), q 4 (.ld false 1 (.t 3)), q 5 (.fld 0 (.t 1)), q 6 (.ld false 1 (.t 5)), ⟨(some 7), none, .call (.c (.func (.func 63) #[] #[])) [(.t 4), (.t 6)]⟩, q 8 (.bin .eql (.t 7) (.c (i64 0))), q 9 (.mv (.t 8)), qg 10 9 true (.fld 1 (.t 1)), qg 11 9 true (.ld false 1 (.t 10)), qg 12 9 true (.slen (.t 11)), qg 13 9 true (.bin .eql (.t 12) (.c (i64 32))), q 14 (.pick (.t 9) (.t 13) (.c (.bool false))), q 2 (.mv (.t 14))])
 .ret))
theorem w_impl_isPackage {args : List Value} {h : H} {Q : Value → H → Prop} (hl : args.length ≤ 15) (hk : wpc Tryd.prog b_impl_isPackage (retw [.tmp 2] Q) (argsFr args) h) : AC Tryd.prog 42 args h Q :=
  AC.of_wpc mixedOrders Tryd.func42 (by kernel_rfl) (by kernel_rfl : prepF Tryd.prog Tryd.f42 = some ⟨15, [.tmp 2], b_impl_isPackage⟩) hl hk

theorem isPackage_pc {h : H} {cs : List Value} {p : UPkg} (hv : RepR h (spPkg p) cs) (hs : p.steps.length ≤ 1048576) : PC Tryd.prog 42 [.agg cs.toArray] h (.bool (decide (pkgOk p))) := by
  obtain ⟨v, rfl, a1⟩ := pkg_r.1 hv
  refine PC_of ?_
  refine w_impl_isPackage (by simp) ?_
  unfold b_impl_isPackage
  simp -implicitDefEqProofs only [go_sem]
  intro b1 hb_b1 n_b1
  simp -implicitDefEqProofs only [go_sem, hb_b1]
  refine (stepsCode_pc (a1.ext ((Ext.refl _).set' n_b1 _)) hs).use ?_
  simp -implicitDefEqProofs only [go_sem, hb_b1]
  refine Br.of (fun h1 => ?_) (fun h1 => ?_)
  · simp -implicitDefEqProofs only [go_sem, h1, hb_b1]
    exact ⟨((Ext.refl _).set' n_b1 _), bool_eq ⟨fun h2 => ⟨h1, by omega⟩, fun h2 => by have := h2.2; omega⟩⟩
  · simp -implicitDefEqProofs only [go_sem, h1, hb_b1]
    exact ⟨((Ext.refl _).set' n_b1 _), dec_f fun h2 => h1 h2.1⟩
/-- spec.PackageRight -/
def b_spec_PackageRight : C := (.seq (.ops [⟨(some 1), none, .box (.t 0)⟩, q 2 (.mv (.c (.bool false)))])
 (.seq (.ops [q 3 (.fld 2 (.t 1)), q 4 (.ld false 1 (.t 3)), q 5 (.fld 0 (.t 1)), q 6 (.ld false 1 (.t 5)), ⟨(some 7), none, .call (.c (.func (.func 37) #[] #[])) [(.t 4), (.t 6)]⟩, q 8 (.bin .eql (.t 7) (.c (i64 0))), q 9 (.mv (.t 8)), qg 10 9 true (.fld 1 (.t 1)), qg 11 9 true (.ld false 1 (.t 10)), qg 12 9 true (.slen (.t 11)), qg 13 9 true (.bin .eql (.t 12) (.c (i64 32))), q 14 (.pick (.t 9) (.t 13) (.c (.bool false))), q 2 (.mv (.t 14))])
 .ret))
theorem w_spec_PackageRight {args : List Value} {h : H} {Q : Value → H → Prop} (hl : args.length ≤ 15) (hk : wpc Tryd.prog b_spec_PackageRight (retw [.tmp 2] Q) (argsFr args) h) : AC Tryd.prog 20 args h Q :=
  AC.of_wpc mixedOrders Tryd.func20 (by kernel_rfl) (by kernel_rfl : prepF Tryd.prog Tryd.f20 = some ⟨15, [.tmp 2], b_spec_PackageRight⟩) hl hk

theorem specPackageRight_pc {h : H} {cs : List Value} {p : UPkg} (hv : RepR h (spPkg p) cs) (hs : p.steps.length ≤ 1048576) : PC Tryd.prog 20 [.agg cs.toArray] h (.bool (decide (pkgOk p))) := by
  obtain ⟨v, rfl, a1⟩ := pkg_r.1 hv
  refine PC_of ?_
  refine w_spec_PackageRight (by simp) ?_
  unfold b_spec_PackageRight
  simp -implicitDefEqProofs only [go_sem]
  intro b1 hb_b1 n_b1
  simp -implicitDefEqProofs only [go_sem, hb_b1]
  refine (specStepsCode_pc (a1.ext ((Ext.refl _).set' n_b1 _)) hs).use ?_
  simp -implicitDefEqProofs only [go_sem, hb_b1]
  refine Br.of (fun h1 => ?_) (fun h1 => ?_)
  · simp -implicitDefEqProofs only [go_sem, h1, hb_b1]
    exact ⟨((Ext.refl _).set' n_b1 _), bool_eq ⟨fun h2 => ⟨h1, by omega⟩, fun h2 => by have := h2.2; omega⟩⟩
  · simp -implicitDefEqProofs only [go_sem, h1, hb_b1]
    exact ⟨((Ext.refl _).set' n_b1 _), dec_f fun h2 => h1 h2.1⟩
theorem package_of {h : H} {cs : List Value} (q : fitsT h [.f (.int .i64), .f .str, .sl [.int .i64, .int .i64, .int .i64, .str]] cs) : ∃ p : UPkg, RepR h (spPkg p) cs ∧ p.ok := by
  obtain ⟨_, _, rfl, h1, q⟩ := fitsT_cons q
  obtain ⟨_, _, rfl, h2, q⟩ := fitsT_cons q
  obtain ⟨v, _, rfl, ⟨rows, s7, h7, l7⟩, q⟩ := fitsT_cons q
  obtain rfl := fitsT_nil q
  obtain ⟨a1, rfl, k1⟩ := okF_i h1
  obtain ⟨a2, rfl, k2⟩ := h2
  obtain ⟨l, rfl, kl⟩ := steps_of rows h7
  exact ⟨⟨a1, a2, l⟩, pkg_r.2 ⟨v, rfl, s7⟩, k1, k2, by simpa using l7, kl⟩
end Go.Proofs.YtdofcojbjcpikaaDoor
