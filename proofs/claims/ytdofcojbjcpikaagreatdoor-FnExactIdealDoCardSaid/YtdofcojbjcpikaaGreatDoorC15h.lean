/- A helper of this seat's claims (contracts of the functions): what it shows is shown for every input that its statements name, on no other condition. -/
import Derived.Test.YtdofcojbjcpikaaGreatDoorC15
set_option linter.unusedVariables false
set_option linter.unusedSimpArgs false
set_option maxRecDepth 100000
namespace Go.Proofs.YtdofcojbjcpikaaGreatDoor
open Go.KH

/-! ## The laws' helpers for ideals -/
def idealSz (i : UIdeal) : Nat := i.digest.length + (i.base.length + sumn List.length i.base) + (i.steps.length + sumn (fun s : UStep => s.data.length) i.steps)
def UIdeal.ok (i : UIdeal) : Prop := (in64 i.phase ∧ in64 i.tries ∧ in64 i.need ∧ in64 i.stash ∧ in64 i.held ∧ in64 i.left) ∧ i.digest.length ≤ maxLen ∧ i.base.length ≤ maxLen ∧ (∀ s ∈ i.base, s.length ≤ maxLen) ∧ i.steps.length ≤ maxLen ∧ ∀ s ∈ i.steps, s.ok
theorem UIdeal.ok.fin {i : UIdeal} (k : i.ok) : i.fin := ⟨k.2.2.1, k.2.2.2.2.1⟩
theorem idealSz_small {i : UIdeal} {left : Int} (hl : left ≤ 1048576) (h : ¬ lessn left (idealSz i : Nat) < 0) : i.small := by
  have := (lessn_nn h).1
  unfold idealSz at this
  unfold UIdeal.small
  omega
theorem ideal_f {h0 h : H} {i : UIdeal} {cs : List Value} : RepF h0 h (spIdeal i) cs ↔ ∃ vb vs, cs = i.cells vb vs ∧ Fre h0 h vb 1 (strs i.base) ∧ Fre h0 h vs 4 (i.steps.map UStep.cells) ∧ Dj vb vs := by
  simp only [spIdeal, RepF_i, RepF_str, RepF_s, RepF_nil]
  constructor
  · rintro ⟨_, rfl, _, rfl, _, rfl, _, rfl, _, rfl, _, rfl, _, rfl, vb, _, rfl, h1, d1, vs, _, rfl, h2, d2, rfl⟩
    exact ⟨vb, vs, rfl, h1, h2, d1 vs (by simp)⟩
  · rintro ⟨vb, vs, rfl, h1, h2, d1⟩
    refine ⟨_, rfl, _, rfl, _, rfl, _, rfl, _, rfl, _, rfl, _, rfl, vb, _, rfl, h1, ?_, vs, _, rfl, h2, ?_, rfl⟩
    · intro d hd
      simp only [List.mem_cons, List.not_mem_nil, or_false] at hd
      subst hd; exact d1
    · intro d hd
      simp at hd
abbrev spMIdeal (i : UIdeal) (k : Int) : List Sp := [.v (i64 i.phase), .v (i64 i.tries), .v (i64 i.need), .v (i64 i.stash), .v (i64 i.held), .v (i64 i.left), .v (str i.digest), .s 1 (mks gStr 1 k i.base.length), .s 4 (mks gStep 4 (k + i.base.length) i.steps.length)]
theorem ideal_m {h : H} {i : UIdeal} {cs : List Value} {k : Int} : RepR h (spMIdeal i k) cs ↔ ∃ vb vs, cs = i.cells vb vs ∧ Sl h vb 1 (mks gStr 1 k i.base.length) ∧ Sl h vs 4 (mks gStep 4 (k + i.base.length) i.steps.length) := by
  simp only [spMIdeal, RepR_i, RepR_str, RepR_s, RepR_nil]
  constructor
  · rintro ⟨_, rfl, _, rfl, _, rfl, _, rfl, _, rfl, _, rfl, _, rfl, vb, _, rfl, h1, vs, _, rfl, h2, rfl⟩; exact ⟨vb, vs, rfl, h1, h2⟩
  · rintro ⟨vb, vs, rfl, h1, h2⟩; exact ⟨_, rfl, _, rfl, _, rfl, _, rfl, _, rfl, _, rfl, _, rfl, vb, _, rfl, h1, vs, _, rfl, h2, rfl⟩
/-- laws.szIdeal -/
def b_laws_szIdeal : C := (.seq (.ops [⟨(some 2), none, .box (.t 0)⟩, q 4 (.mv (.c (i64 0)))])
 (.seq (.ops [q 5 (.mv (.t 1)), q 6 (.fld 6 (.t 2)), q 7 (.ld false 1 (.t 6)), q 8 (.slen (.t 7)), q 9 (.bin .sub (.t 5) (.t 8)), q 1 (.mv (.t 9))])
 (.seq (.seq (.ops [q 10 (.mv (.t 1)), q 11 (.bin .lss (.t 10) (.c (i64 0)))])
 (.cond (.t 11) (.seq (.ops [q 4 (.mv (.c (i64 (-1))))])
 .ret) .skip))
 (.seq (.ops [q 12 (.fld 7 (.t 2)), q 13 (.ld false 1 (.t 12)), q 14 (.mv (.t 1)), ⟨(some 15), none, .call (.c (.func (.func 45) #[] #[])) [(.t 13), (.t 14)]⟩, q 1 (.mv (.t 15))])
 (.seq (.seq (.ops [q 16 (.mv (.t 1)), q 17 (.bin .lss (.t 16) (.c (i64 0)))])
 (.cond (.t 17) (.seq (.ops [q 4 (.mv (.c (i64 (-1))))])
 .ret) .skip))
 (.seq (.ops [q 18 (.fld 8 (.t 2)), q 19 (.ld false 1 (.t 18)), q 20 (.mv (.t 1)), ⟨(some 21), none, .call (.c (.func (.func 46) #[] #[])) [(.t 19), (.t 20)]⟩, q 1 (.mv (.t 21))])
 (.seq (.seq (.ops [q 22 (.mv (.t 1)), q 23 (.bin .lss (.t 22) (.c (i64 0)))])
 (.cond (.t 23) (.seq (.ops [q 4 (.mv (.c (i64 (-1))))])
 .ret) .skip))
 (.seq (.ops [q 24 (.mv (.t 1)), q 4 (.mv (.t 24))])
 .ret))))))))
theorem w_laws_szIdeal {args : List Value} {h : H} {Q : Value → H → Prop} (hl : args.length ≤ 25) (hk : wpc Tryz.prog b_laws_szIdeal (retw [.tmp 4] Q) (argsFr args) h) : AC Tryz.prog 7 args h Q :=
  AC.of_wpc mixedOrders Tryz.func7 (by kernel_rfl) (by kernel_rfl : prepF Tryz.prog Tryz.f7 = some ⟨25, [.tmp 4], b_laws_szIdeal⟩) hl hk

theorem szIdeal_pc {h : H} {cs : List Value} {i : UIdeal} {left : Int} (hv : RepR h (spIdeal i) cs) (hok : i.ok) (hl : 0 ≤ left ∧ left ≤ 1048576) :
    PC Tryz.prog 7 [.agg cs.toArray, i64 left] h (i64 (lessn left (idealSz i : Nat))) := by
  obtain ⟨vb, vs, rfl, sb, ss⟩ := ideal_r.1 hv
  obtain ⟨-, o1, o2, o3, o4, o5⟩ := hok
  refine PC_of ?_
  unfold idealSz
  have := show maxLen = 9223372036854775807 from rfl
  refine w_laws_szIdeal (by simp) ?_
  unfold b_laws_szIdeal
  simp -implicitDefEqProofs only [go_sem]
  intro b1 hb_b1 n_b1
  simp -implicitDefEqProofs only [go_sem, wrap_i64 (show -(9223372036854775808 : Int) ≤ (left - (i.digest.length : Nat)) by omega) (show (left - (i.digest.length : Nat)) < 9223372036854775808 by omega), hb_b1]
  have e1 : left - (i.digest.length : Nat) < 0 ↔ lessn left i.digest.length < 0 := by unfold lessn; split <;> omega
  refine Br.of (fun h1 => ?_) (fun h1 => ?_)
  · simp -implicitDefEqProofs only [go_sem, h1, hb_b1]
    exact ⟨((Ext.refl _).set' n_b1 _), by rw [show ((i.digest.length + (i.base.length + sumn List.length i.base) + (i.steps.length + sumn (fun s : UStep => s.data.length) i.steps) : Nat) : Int) = i.digest.length + ((i.base.length + sumn List.length i.base) + (i.steps.length + sumn (fun s : UStep => s.data.length) i.steps) : Nat) by push_cast; omega, lessn_bad (by omega) (e1.1 h1)]⟩
  simp -implicitDefEqProofs only [go_sem, h1, hb_b1]
  refine (szStringS_pc (sb.ext ((Ext.refl _).set' n_b1 _)) o2 o3 (by omega)).use ?_
  have e2 : lessn (left - (i.digest.length : Nat)) (i.base.length + sumn List.length i.base : Nat) = lessn left (i.digest.length + (i.base.length + sumn List.length i.base) : Nat) := by
    have := (lessn_nn (fun h => h1 (e1.2 h))).2
    rw [← this, lessn_add (fun h => h1 (e1.2 h))]; rfl
  simp -implicitDefEqProofs only [go_sem, e2, hb_b1]
  refine Br.of (fun h2 => ?_) (fun h2 => ?_)
  · simp -implicitDefEqProofs only [go_sem, h2, hb_b1]
    exact ⟨((Ext.refl _).set' n_b1 _), by rw [show ((i.digest.length + (i.base.length + sumn List.length i.base) + (i.steps.length + sumn (fun s : UStep => s.data.length) i.steps) : Nat) : Int) = (i.digest.length + (i.base.length + sumn List.length i.base) : Nat) + ((i.steps.length + sumn (fun s : UStep => s.data.length) i.steps : Nat) : Int) by push_cast; omega, lessn_bad (by omega) h2]⟩
  simp -implicitDefEqProofs only [go_sem, h2, hb_b1]
  refine (szStepS_pc (ss.ext ((Ext.refl _).set' n_b1 _)) o4 o5 (by have := lessn_nn h2; omega)).use ?_
  rw [lessn_add h2]
  simp -implicitDefEqProofs only [go_sem, hb_b1]
  refine Br.of (fun h3 => ?_) (fun h3 => ?_)
  · simp -implicitDefEqProofs only [go_sem, h3, hb_b1]
    exact ⟨((Ext.refl _).set' n_b1 _), by unfold lessn at h3 ⊢; rw [if_pos]; split at h3 <;> omega⟩
  simp -implicitDefEqProofs only [go_sem, h3, hb_b1]
  exact ⟨((Ext.refl _).set' n_b1 _), by push_cast; rfl⟩
/-- laws.toIdeal -/
def b_laws_toIdeal : C := (.seq (.ops [⟨(some 1), none, .box (.t 0)⟩, ⟨(some 2), none, .alloc [(i64 0), (i64 0), (i64 0), (i64 0), (i64 0), (i64 0), (str []), nils, nils]⟩])
 (.seq (.ops [⟨(some 3), none, .alloc [(i64 0), (i64 0), (i64 0), (i64 0), (i64 0), (i64 0), (str []), nils, nils]⟩])
 (.seq (.ops [q 4 (.fld 0 (.t 1)), q 5 (.ld false 1 (.t 4)), q 6 (.fld 0 (.t 3)), ⟨none, none, .st 1 (.t 6) (.t 5)⟩])
 (.seq (.ops [q 7 (.fld 1 (.t 1)), q 8 (.ld false 1 (.t 7)), q 9 (.fld 1 (.t 3)), ⟨none, none, .st 1 (.t 9) (.t 8)⟩])
 (.seq (.ops [q 10 (.fld 2 (.t 1)), q 11 (.ld false 1 (.t 10)), q 12 (.fld 2 (.t 3)), ⟨none, none, .st 1 (.t 12) (.t 11)⟩])
 (.seq (.ops [q 13 (.fld 3 (.t 1)), q 14 (.ld false 1 (.t 13)), q 15 (.fld 3 (.t 3)), ⟨none, none, .st 1 (.t 15) (.t 14)⟩])
 (.seq (.ops [q 16 (.fld 4 (.t 1)), q 17 (.ld false 1 (.t 16)), q 18 (.fld 4 (.t 3)), ⟨none, none, .st 1 (.t 18) (.t 17)⟩])
 (.seq (.ops [q 19 (.fld 5 (.t 1)), q 20 (.ld false 1 (.t 19)), q 21 (.fld 5 (.t 3)), ⟨none, none, .st 1 (.t 21) (.t 20)⟩])
 (.seq (.ops [q 22 (.fld 6 (.t 1)), q 23 (.ld false 1 (.t 22)), q 24 (.fld 6 (.t 3)), ⟨none, none, .st 1 (.t 24) (.t 23)⟩])
 (.seq (.ops [q 25 (.fld 7 (.t 1)), q 26 (.ld false 1 (.t 25)), ⟨(some 27), none, .call (.c (.func (.func 52) #[] #[])) [(.t 26)]⟩, q 28 (.fld 7 (.t 3)), ⟨none, none, .st 1 (.t 28) (.t 27)⟩])
 (.seq (.ops [q 29 (.fld 8 (.t 1)), q 30 (.ld false 1 (.t 29)), ⟨(some 31), none, .call (.c (.func (.func 53) #[] #[])) [(.t 30)]⟩, q 32 (.fld 8 (.t 3)), ⟨none, none, .st 1 (.t 32) (.t 31)⟩])
 (.seq (.ops [q 33 (.ld true 9 (.t 3)), ⟨none, none, .st 9 (.t 2) (.t 33)⟩])
 .ret))))))))))))
theorem w_laws_toIdeal {args : List Value} {h : H} {Q : Value → H → Prop} (hl : args.length ≤ 34) (hk : wpc Tryz.prog b_laws_toIdeal (retw [.cell 2 true 9] Q) (argsFr args) h) : AC Tryz.prog 10 args h Q :=
  AC.of_wpc mixedOrders Tryz.func10 (by kernel_rfl) (by kernel_rfl : prepF Tryz.prog Tryz.f10 = some ⟨34, [.cell 2 true 9], b_laws_toIdeal⟩) hl hk

theorem toIdeal_ac {h : H} {cs : List Value} {i : UIdeal} (hv : RepR h (spIdeal i) cs) (hs : i.small) : AC Tryz.prog 10 [.agg cs.toArray] h fun r h' => Ext h h' ∧ ∃ cs', r = .agg cs'.toArray ∧ RepF h h' (spIdeal i) cs' := by
  obtain ⟨vb, vs, rfl, a1, a2⟩ := ideal_r.1 hv
  refine w_laws_toIdeal (by simp) ?_
  unfold b_laws_toIdeal
  simp -implicitDefEqProofs only [go_sem]
  intro b1 hb_b1 n_b1
  simp -implicitDefEqProofs only [go_sem, hb_b1]
  intro b2 hb_b2 m0_b2
  obtain ⟨z_b2_b1, y_b2_b1, n_b2⟩ := fne m0_b2
  simp only [H.set_base] at hb_b2
  simp -implicitDefEqProofs only [go_sem, hb_b1, hb_b2, z_b2_b1, y_b2_b1]
  intro b3 hb_b3 m0_b3
  obtain ⟨z_b3_b2, y_b3_b2, m1_b3⟩ := fne m0_b3
  obtain ⟨z_b3_b1, y_b3_b1, n_b3⟩ := fne m1_b3
  simp only [H.set_base] at hb_b3
  simp -implicitDefEqProofs only [go_sem, hb_b1, hb_b2, z_b2_b1, y_b2_b1, hb_b3, z_b3_b2, y_b3_b2, z_b3_b1, y_b3_b1]
  refine AC_of (toStringS_ac (a1.ext ((((Ext.refl _).set' n_b1 _).set' n_b2 _).set' n_b3 _)) hs.1) ?_
  rintro v1 h1 - ⟨e1, f1⟩
  have g1 := e1.2.g b1 _ (by simp -implicitDefEqProofs only [go_sem, hb_b1, hb_b2, z_b2_b1, y_b2_b1, hb_b3, z_b3_b2, y_b3_b2, z_b3_b1, y_b3_b1]; rfl)
  have g2 := e1.2.g b2 _ (by simp -implicitDefEqProofs only [go_sem, hb_b1, hb_b2, z_b2_b1, y_b2_b1, hb_b3, z_b3_b2, y_b3_b2, z_b3_b1, y_b3_b1]; rfl)
  have g3 := e1.2.g b3 _ (by simp -implicitDefEqProofs only [go_sem, hb_b1, hb_b2, z_b2_b1, y_b2_b1, hb_b3, z_b3_b2, y_b3_b2, z_b3_b1, y_b3_b1]; rfl)
  have hb3 := e1.1
  simp only [H.set_base] at hb3
  obtain ⟨av1, cv1, rfl⟩ := f1.shape
  simp -implicitDefEqProofs only [go_sem, ldc_get g1, ldc_get g2, ldc_get g3, stc_get g1, stc_get g2, stc_get g3, hb3, hb_b1, hb_b2, z_b2_b1, y_b2_b1, hb_b3, z_b3_b2, y_b3_b2, z_b3_b1, y_b3_b1]
  have E1 := fun x => Ext.set' (Ext.trans (Ext.set' (Ext.set' (Ext.set' (Ext.refl h) n_b1 _) n_b2 _) n_b3 _) e1) n_b3 x
  refine AC_of (toStepS_ac (a2.ext (E1 _)) hs.2) ?_
  rintro v2 h2 - ⟨e2, f2⟩
  have j1 := e2.2.g b1 _ (by simp -implicitDefEqProofs only [go_sem, g1, hb_b1, hb_b2, z_b2_b1, y_b2_b1, hb_b3, z_b3_b2, y_b3_b2, z_b3_b1, y_b3_b1]; rfl)
  have j2 := e2.2.g b2 _ (by simp -implicitDefEqProofs only [go_sem, g2, hb_b1, hb_b2, z_b2_b1, y_b2_b1, hb_b3, z_b3_b2, y_b3_b2, z_b3_b1, y_b3_b1]; rfl)
  have j3 := e2.2.g b3 _ (by simp -implicitDefEqProofs only [go_sem, hb_b1, hb_b2, z_b2_b1, y_b2_b1, hb_b3, z_b3_b2, y_b3_b2, z_b3_b1, y_b3_b1]; rfl)
  have hb4 := e2.1
  simp only [H.set_base, hb3] at hb4
  obtain ⟨av2, cv2, rfl⟩ := f2.shape
  simp -implicitDefEqProofs only [go_sem, ldc_get j1, ldc_get j2, ldc_get j3, stc_get j1, stc_get j2, stc_get j3, hb4, hb_b1, hb_b2, z_b2_b1, y_b2_b1, hb_b3, z_b3_b2, y_b3_b2, z_b3_b1, y_b3_b1]
  refine ⟨((Ext.trans (E1 _) e2).set' n_b2 _).set' n_b3 _, _, rfl, ideal_f.2 ⟨_, _, rfl, ?_, ?_, ?_⟩⟩
  · exact ((((f1.set (H.set_get_same _ _ _) _).ext e2).set (b := b2) (by simp -implicitDefEqProofs only [go_sem, hb_b1, hb_b2, z_b2_b1, y_b2_b1, hb_b3, z_b3_b2, y_b3_b2, z_b3_b1, y_b3_b1]; rfl) _).set (H.set_get_same _ _ _) _).back (Ext.set' (Ext.set' (Ext.set' (Ext.refl h) n_b1 _) n_b2 _) n_b3 _)
  · exact ((f2.set (b := b2) (by simp -implicitDefEqProofs only [go_sem, g2, hb_b1, hb_b2, z_b2_b1, y_b2_b1, hb_b3, z_b3_b2, y_b3_b2, z_b3_b1, y_b3_b1]; rfl) _).set (H.set_get_same _ _ _) _).back (E1 _)
  · exact Dj.of ((f1.set (H.set_get_same _ _ _) _).known) f2.new
theorem markIdealF_ac {h0 h : H} {i : UIdeal} {cs : List Value} {k0 : Int} (hv : RepF h0 h (spIdeal i) cs) (hs : i.small) (hk : 1 ≤ k0 ∧ k0 ≤ 8388608) :
    AC Tryz.prog 15 [.agg cs.toArray, i64 k0] h fun r h' => r = i64 (k0 + i.base.length + (4 * i.steps.length : Nat)) ∧ Keep (blks cs) h h' ∧ RepR h' (spMIdeal i k0) cs := by
  obtain ⟨vb, vs, rfl, f1, f2, d⟩ := ideal_f.1 hv
  refine AC_of (markIdeal_ac f1 f2 d hs hk) ?_
  rintro r h' - ⟨hr, hk, m1, m2⟩
  refine ⟨hr, hk.mono ?_, ideal_m.2 ⟨vb, vs, rfl, m1, m2⟩⟩
  rintro b ⟨v, hv, e⟩
  exact ⟨v, by simp only [List.mem_cons, List.not_mem_nil, or_false] at hv ⊢; rcases hv with rfl | rfl <;> simp, e⟩
abbrev idLT : List LT := [.f (.int .i64), .f (.int .i64), .f (.int .i64), .f (.int .i64), .f (.int .i64), .f (.int .i64), .f .str, .sl [.str], .sl [.int .i64, .int .i64, .int .i64, .str]]
theorem ideal_of {h : H} {cs : List Value} (q : fitsT h idLT cs) : ∃ i : UIdeal, RepR h (spIdeal i) cs ∧ i.ok := by
  obtain ⟨_, _, rfl, h1, q⟩ := fitsT_cons q
  obtain ⟨_, _, rfl, h2, q⟩ := fitsT_cons q
  obtain ⟨_, _, rfl, h3, q⟩ := fitsT_cons q
  obtain ⟨_, _, rfl, h4, q⟩ := fitsT_cons q
  obtain ⟨_, _, rfl, h5, q⟩ := fitsT_cons q
  obtain ⟨_, _, rfl, h6, q⟩ := fitsT_cons q
  obtain ⟨_, _, rfl, h7, q⟩ := fitsT_cons q
  obtain ⟨v8, _, rfl, ⟨r8, s8, w8, l8⟩, q⟩ := fitsT_cons q
  obtain ⟨v9, _, rfl, ⟨r9, s9, w9, l9⟩, q⟩ := fitsT_cons q
  obtain rfl := fitsT_nil q
  obtain ⟨a1, rfl, k1⟩ := okF_i h1
  obtain ⟨a2, rfl, k2⟩ := okF_i h2
  obtain ⟨a3, rfl, k3⟩ := okF_i h3
  obtain ⟨a4, rfl, k4⟩ := okF_i h4
  obtain ⟨a5, rfl, k5⟩ := okF_i h5
  obtain ⟨a6, rfl, k6⟩ := okF_i h6
  obtain ⟨a7, rfl, k7⟩ := h7
  obtain ⟨l8', rfl, m8⟩ := strs_of r8 w8
  obtain ⟨l9', rfl, m9⟩ := steps_of r9 w9
  exact ⟨⟨a1, a2, a3, a4, a5, a6, a7, l8', l9'⟩, ideal_r.2 ⟨v8, v9, rfl, s8, s9⟩, ⟨k1, k2, k3, k4, k5, k6⟩, k7, by simpa using l8, m8, by simpa using l9, m9⟩
end Go.Proofs.YtdofcojbjcpikaaGreatDoor
