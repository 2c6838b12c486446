/- A helper of this seat's claims (contracts of the functions): what it shows is shown for every input that its statements name, on no other condition. -/
import Derived.Test.YtdofcojbjcpikaaGreatDoorC15x
import Derived.Test.YtdofcojbjcpikaaGreatDoorC15h
import Derived.Test.YtdofcojbjcpikaaGreatDoorKD
import Derived.Test.YtdofcojbjcpikaaGreatDoorC09
set_option linter.unusedVariables false
set_option linter.unusedSimpArgs false
set_option maxRecDepth 100000
namespace Go.Proofs.YtdofcojbjcpikaaGreatDoor
open Go.KH

/-! ## Ideals started -/
def idleOf (i : UIdeal) : UIdeal := ⟨1, 0, 0, 0, i.held, 0, [], i.base, []⟩
def bootOf (i : UIdeal) : UIdeal :=
  if i.phase = 2 then { i with steps := i.steps.take (kept i.steps).toNat } else if i.phase = 3 then { i with phase := 4, tries := 2 }
  else if i.phase = 4 then (if i.tries = 0 then idleOf i else { i with tries := i.tries - 1 }) else i
noncomputable def idealBoot (i : UIdeal) : UIdeal := if idealOk i then bootOf i else i
theorem blk_i (n : Int) (k : IntKind) : blk (.int k n) = none := rfl
theorem blk_str (l : List UInt8) : blk (str l) = none := rfl
theorem ideal_blks {i : UIdeal} {vb vs : Value} {x : Nat} : blks (i.cells vb vs) x ↔ blk vb = some x ∨ blk vs = some x := by
  unfold blks UIdeal.cells
  simp [blk_i, blk_str, or_and_right, exists_or]
theorem blk_take {a : Option Addr} {n k c x : Nat} (h : blk (.slice a k c) = some x) (hk : k ≤ n) : blk (.slice a n c) = some x := by
  obtain ⟨a', n', c', e, rfl⟩ := blk_some h
  simp only [Value.slice.injEq] at e
  obtain ⟨rfl, rfl, rfl⟩ := e
  obtain ⟨m, rfl⟩ : ∃ m, n = m + 1 := ⟨n - 1, by omega⟩
  rfl
/-- impl.cloneIdeal -/
def b_impl_cloneIdeal : C := (.seq (.ops [⟨(some 1), none, .box (.t 0)⟩, ⟨(some 2), none, .alloc [(i64 0), (i64 0), (i64 0), (i64 0), (i64 0), (i64 0), (str []), nils, nils]⟩])
 (.seq (.dops true (.tk (q 3 (.fld 7 (.t 1))) (.tk (q 4 (.ld false 1 (.t 3))) (.tk (q 6 (.fld 8 (.t 1))) (.tk (q 7 (.ld false 1 (.t 6))) (.sq (⟨(some 5), none, .call (.c (.func (.func 134) #[] #[])) [(.t 4)]⟩) (.tk (q 9 (.fld 7 (.t 1))) (.sq (⟨(some 8), none, .call (.c (.func (.func 135) #[] #[])) [(.t 7)]⟩) (.lt (⟨none, none, .st 1 (.t 9) (.t 5)⟩) (.tk (q 10 (.fld 8 (.t 1))) (.lt (⟨none, none, .st 1 (.t 10) (.t 8)⟩) .nil)))))))))))
 (.seq (.ops [q 11 (.ld true 9 (.t 1)), ⟨none, none, .st 9 (.t 2) (.t 11)⟩])
 .ret)))
theorem w_impl_cloneIdeal {args : List Value} {h : H} {Q : Value → H → Prop} (hl : args.length ≤ 12) (hk : wpc Tryz.prog b_impl_cloneIdeal (retw [.cell 2 true 9] Q) (argsFr args) h) : AC Tryz.prog 57 args h Q :=
  AC.of_wpc mixedOrders Tryz.func57 (by kernel_rfl) (by kernel_rfl : prepF Tryz.prog Tryz.f57 = some ⟨12, [.cell 2 true 9], b_impl_cloneIdeal⟩) hl hk

theorem cloneIdeal_ac {h : H} {cs : List Value} {i : UIdeal} (hv : RepR h (spIdeal i) cs) (hs : i.small) : AC Tryz.prog 57 [.agg cs.toArray] h fun r h' => Ext h h' ∧ ∃ cs', r = .agg cs'.toArray ∧ RepF h h' (spIdeal i) cs' := by
  obtain ⟨vb, vs, rfl, a1, a2⟩ := ideal_r.1 hv
  have o1 := a1.one
  have o2 := a2.one
  skip
  refine w_impl_cloneIdeal (by simp) ?_
  unfold b_impl_cloneIdeal
  simp -implicitDefEqProofs only [go_sem, o1, o2]
  intro b1 hb_b1 n_b1
  simp -implicitDefEqProofs only [go_sem, o1, o2, hb_b1]
  intro b2 hb_b2 m0_b2
  obtain ⟨z_b2_b1, y_b2_b1, n_b2⟩ := fne m0_b2
  simp only [H.set_base] at hb_b2
  simp -implicitDefEqProofs only [go_sem, o1, o2, hb_b1, hb_b2, z_b2_b1, y_b2_b1]
  refine AC_of (cloneStrs_ac (a1.ext (((Ext.refl _).set' n_b1 _).set' n_b2 _)) hs.1) ?_
  rintro v1 h1 - ⟨e1, f1⟩
  simp -implicitDefEqProofs only [go_sem, e1.2, o1, o2, hb_b1, hb_b2, z_b2_b1, y_b2_b1]
  have E1 := ((((Ext.refl _).set' n_b1 _).set' n_b2 _)).trans e1
  refine AC_of (cloneSteps_ac (a2.ext E1) hs.2) ?_
  rintro v2 h2 - ⟨e2, f2⟩
  have g1 := (e1.trans e2).2.g b1 _ (by simp -implicitDefEqProofs only [go_sem, o1, o2, hb_b1, hb_b2, z_b2_b1, y_b2_b1]; rfl)
  have g2 := (e1.trans e2).2.g b2 _ (by simp -implicitDefEqProofs only [go_sem, o1, o2, hb_b1, hb_b2, z_b2_b1, y_b2_b1]; rfl)
  obtain ⟨av1, cv1, rfl⟩ := f1.shape
  obtain ⟨av2, cv2, rfl⟩ := f2.shape
  have hb4 := (e1.trans e2).1
  simp only [H.set_base] at hb4
  simp -implicitDefEqProofs only [go_sem, (e1.trans e2).2, ldc_get g1, ldc_get g2, stc_get g1, stc_get g2, hb4, o1, o2, hb_b1, hb_b2, z_b2_b1, y_b2_b1]
  have G1 : ∀ x y, ((h.set b1 x).set b2 y).get b1 = some x := fun x y => by simp -implicitDefEqProofs only [go_sem, o1, o2, hb_b1, hb_b2, z_b2_b1, y_b2_b1]
  have E2 := fun x y => ((E1.trans e2).set' n_b2 x).set' n_b1 y
  refine ⟨E2 _ _, _, rfl, ideal_f.2 ⟨_, _, rfl, ?_, ?_, ?_⟩⟩
  · exact (((f1.ext e2).set (b := b2) (H.set_get_same _ _ _) _).set (b := b1) (G1 _ _) _).back (((Ext.refl _).set' n_b1 _).set' n_b2 _)
  · exact (((f2.set (b := b2) (e1.2.g b2 _ (H.set_get_same _ _ _)) _).set (b := b1) (e1.2.g b1 _ (G1 _ _)) _)).back E1
  · exact Dj.of f1.known f2.new
/-- (*impl.Ideal).idle -/
def b_impl_Ideal_idle : C := (.dops true (.tk (q 2 (.mv (.t 0))) (.tk (q 3 (.mv (.t 0))) (.tk (q 4 (.nck (.t 3))) (.tk (q 5 (.fld 4 (.t 4))) (.tk (q 6 (.ld false 1 (.t 5))) (.tk (q 7 (.mv (.t 0))) (.tk (q 8 (.nck (.t 7))) (.tk (q 9 (.fld 7 (.t 8))) (.tk (q 10 (.ld false 1 (.t 9))) (.tk (q 11 (.build [(i64 0), (i64 0), (i64 0), (i64 0), (i64 0), (i64 0), (str []), nils, nils] [(0, 1, (.c (i64 1))), (4, 1, (.t 6)), (7, 1, (.t 10))])) (.tk (q 12 (.nck (.t 2))) (.lt (⟨none, none, .st 9 (.t 12) (.t 11)⟩) .nil)))))))))))))
theorem w_impl_Ideal_idle {args : List Value} {h : H} {Q : Value → H → Prop} (hl : args.length ≤ 13) (hk : wpc Tryz.prog b_impl_Ideal_idle (retw [] Q) (argsFr args) h) : AC Tryz.prog 138 args h Q :=
  AC.of_wpc mixedOrders Tryz.func138 (by kernel_rfl) (by kernel_rfl : prepF Tryz.prog Tryz.f138 = some ⟨13, [], b_impl_Ideal_idle⟩) hl hk

theorem idle_ac {h : H} {b : Nat} {i : UIdeal} {vb vs : Value} (hg : h.get b = some ⟨i.cells vb vs, 9⟩) (hb : h.base ≤ b) (o1 : vb.oneCell' = true) (o2 : vcl vb = [vb]) : AC Tryz.prog 138 [ptr b 0] h fun r h' => h' = h.set b ⟨(idleOf i).cells vb nils, 9⟩ := by
  refine w_impl_Ideal_idle (by simp) ?_
  unfold b_impl_Ideal_idle
  simp -implicitDefEqProofs only [go_sem, ldc_get hg, stc_get hg, hb, o1, o2]
  rfl
/-- (*impl.Ideal).boot -/
def b_impl_Ideal_boot : C := (.seq (.ops [q 2 (.mv (.t 0)), q 3 (.nck (.t 2)), q 4 (.fld 0 (.t 3)), q 5 (.ld false 1 (.t 4))])
 (.block 0 (.seq (.ops [q 7 (.bin .eql (.t 5) (.c (i64 2))), q 6 (.mv (.t 7))])
 (.cond (.t 6) (.dops true (.tk (q 8 (.mv (.t 0))) (.tk (q 9 (.mv (.t 0))) (.tk (q 10 (.nck (.t 9))) (.tk (q 11 (.fld 8 (.t 10))) (.tk (q 12 (.ld false 1 (.t 11))) (.tk (q 13 (.mv (.t 0))) (.tk (q 14 (.nck (.t 13))) (.tk (q 15 (.fld 8 (.t 14))) (.tk (q 16 (.ld false 1 (.t 15))) (.sq (⟨(some 17), none, .call (.c (.func (.func 115) #[] #[])) [(.t 16)]⟩) (.tk (q 18 (.lsl 4 (.t 12) none (some (.t 17)))) (.tk (q 19 (.nck (.t 8))) (.tk (q 20 (.fld 8 (.t 19))) (.lt (⟨none, none, .st 1 (.t 20) (.t 18)⟩) .nil))))))))))))))) (.seq (.ops [q 22 (.bin .eql (.t 5) (.c (i64 3))), q 21 (.mv (.t 22))])
 (.cond (.t 21) (.ops [q 23 (.mv (.t 0)), q 24 (.mv (.t 0)), q 25 (.nck (.t 23)), q 26 (.fld 0 (.t 25)), ⟨none, none, .st 1 (.t 26) (.c (i64 4))⟩, q 27 (.nck (.t 24)), q 28 (.fld 1 (.t 27)), ⟨none, none, .st 1 (.t 28) (.c (i64 2))⟩]) (.seq (.ops [q 30 (.bin .eql (.t 5) (.c (i64 4))), q 29 (.mv (.t 30))])
 (.cond (.t 29) (.seq (.ops [q 31 (.mv (.t 0)), q 32 (.nck (.t 31)), q 33 (.fld 1 (.t 32)), q 34 (.ld false 1 (.t 33)), q 35 (.bin .eql (.t 34) (.c (i64 0)))])
 (.cond (.t 35) (.ops [q 36 (.mv (.t 0)), ⟨(some 37), none, .call (.c (.func (.func 138) #[] #[])) [(.t 36)]⟩]) (.ops [q 38 (.mv (.t 0)), q 39 (.nck (.t 38)), q 40 (.fld 1 (.t 39)), q 41 (.ld false 1 (.t 40)), q 42 (.bin .sub (.t 41) (.c (i64 1))), q 43 (.nck (.t 38)), q 44 (.fld 1 (.t 43)), ⟨none, none, .st 1 (.t 44) (.t 42)⟩]))) .skip))))))))
theorem w_impl_Ideal_boot {args : List Value} {h : H} {Q : Value → H → Prop} (hl : args.length ≤ 45) (hk : wpc Tryz.prog b_impl_Ideal_boot (retw [] Q) (argsFr args) h) : AC Tryz.prog 141 args h Q :=
  AC.of_wpc mixedOrders Tryz.func141 (by kernel_rfl) (by kernel_rfl : prepF Tryz.prog Tryz.f141 = some ⟨45, [], b_impl_Ideal_boot⟩) hl hk

theorem boot_ac {h0 h : H} {b : Nat} {cs : List Value} {i : UIdeal} (hg : h.get b = some ⟨cs, 9⟩) (hb : h.base ≤ b) (f : RepF h0 h (spIdeal i) cs) (hs : i.small) (ht : 0 ≤ i.tries ∧ i.tries ≤ 100) : AC Tryz.prog 141 [ptr b 0] h fun r h' => ∃ cs', h' = h.set b ⟨cs', 9⟩ ∧ RepF h0 h (spIdeal (bootOf i)) cs' ∧ ∀ x, blks cs' x → blks cs x := by
  obtain ⟨vb, vs, rfl, f1, f2, d⟩ := ideal_f.1 f
  obtain ⟨a, c, rfl⟩ := f2.shape
  have hl : (i.steps.map UStep.cells).length = i.steps.length := by simp
  have hcap : i.steps.length ≤ c := by
    obtain ⟨_, _, _, _, e, hc, _⟩ := f2.sl
    simp only [hl, Value.slice.injEq] at e hc
    omega
  have d' := d
  rw [hl] at f2 hg f d'
  have o1 := f1.sl.one
  have o2 := f1.sl.vcl
  have hk := kept_le i.steps
  unfold bootOf
  skip
  by_cases p2 : i.phase = 2
  · rw [if_pos p2]
    refine w_impl_Ideal_boot (by simp) ?_
    unfold b_impl_Ideal_boot
    simp -implicitDefEqProofs only [go_sem, decide_eq_true p2, o1, ldc_get hg, stc_get hg, hb, hl]
    refine (keptOf_pc f2.sl hs.2).use ?_
    simp -implicitDefEqProofs only [go_sem, hk.1, show kept i.steps ≤ (c : Int) by omega, o1, ldc_get hg, stc_get hg, hb, hl]
    refine ⟨_, rfl, ideal_f.2 ⟨vb, .slice a (kept i.steps).toNat c, rfl, f1, ?_, ?_⟩, ?_⟩
    · have := f2.takeR (k := (kept i.steps).toNat) (by omega)
      simpa [List.map_take] using this
    · exact fun x hx hy => d' x hx (blk_take hy (by omega))
    · exact fun x hx => ideal_blks.2 ((ideal_blks.1 hx).imp id fun h => blk_take h (by omega))
  rw [if_neg p2]
  by_cases p3 : i.phase = 3
  · rw [if_pos p3]
    refine w_impl_Ideal_boot (by simp) ?_
    unfold b_impl_Ideal_boot
    simp -implicitDefEqProofs only [go_sem, p2, p3, o1, ldc_get hg, stc_get hg, hb, hl]
    exact ⟨_, rfl, ideal_f.2 ⟨vb, _, rfl, f1, f2, d'⟩, fun x hx => ideal_blks.2 (ideal_blks (i := { i with phase := 4, tries := 2 }).1 hx)⟩
  rw [if_neg p3]
  by_cases p4 : i.phase = 4
  · rw [if_pos p4]
    by_cases p5 : i.tries = 0
    · rw [if_pos p5]
      refine w_impl_Ideal_boot (by simp) ?_
      unfold b_impl_Ideal_boot
      simp -implicitDefEqProofs only [go_sem, p2, p3, decide_eq_true p4, decide_eq_true p5, o1, ldc_get hg, stc_get hg, hb, hl]
      refine AC_of (idle_ac (i := i) (vs := .slice a i.steps.length c) hg hb o1 o2) ?_
      rintro _ h1 - rfl
      simp -implicitDefEqProofs only [go_sem, o1, ldc_get hg, stc_get hg, hb, hl]
      exact ⟨_, rfl, ideal_f.2 ⟨vb, nils, rfl, f1, .inl ⟨none, 0, rfl, rfl⟩, fun _ _ h => by cases h⟩, fun x hx => ideal_blks.2 ((ideal_blks.1 hx).imp id fun h => by cases h)⟩
    · rw [if_neg p5]
      have hw : IntKind.i64.wrap (i.tries - 1) = i.tries - 1 := wrap_i64 (by omega) (by omega)
      refine w_impl_Ideal_boot (by simp) ?_
      unfold b_impl_Ideal_boot
      simp -implicitDefEqProofs only [go_sem, p2, p3, decide_eq_true p4, p5, hw, o1, ldc_get hg, stc_get hg, hb, hl]
      exact ⟨_, rfl, ideal_f.2 ⟨vb, _, rfl, f1, f2, d'⟩, fun x hx => ideal_blks.2 (ideal_blks (i := { i with tries := i.tries - 1 }).1 hx)⟩
  rw [if_neg p4]
  refine w_impl_Ideal_boot (by simp) ?_
  unfold b_impl_Ideal_boot
  simp -implicitDefEqProofs only [go_sem, p2, p3, p4, o1, ldc_get hg, stc_get hg, hb, hl]
  exact ⟨_, (H.set_id hg).symm, ideal_f.2 ⟨vb, _, rfl, f1, f2, d'⟩, fun x hx => hx⟩
theorem idealOk_tries {i : UIdeal} (h : idealOk i) : 0 ≤ i.tries ∧ i.tries ≤ 100 := by
  have h5 := h.2.2.2
  by_cases p : i.phase = 1
  · rw [if_pos p] at h5; omega
  · rw [if_neg p] at h5; have := h5.2; omega
/-- spec.l15Copy -/
def b_spec_l15Copy : C := (.seq (.ops [⟨(some 1), none, .box (.t 0)⟩, ⟨(some 2), none, .alloc [(i64 0), (i64 0), (i64 0), (i64 0), (i64 0), (i64 0), (str []), nils, nils]⟩])
 (.seq (.ops [⟨(some 3), none, .bsl 0 [] []⟩, q 4 (.fld 7 (.t 1)), q 5 (.ld false 1 (.t 4)), ⟨(some 6), none, .app 1 16 (.t 3) (.t 5)⟩, q 7 (.fld 7 (.t 1)), ⟨none, none, .st 1 (.t 7) (.t 6)⟩])
 (.seq (.ops [⟨(some 8), none, .bsl 0 [] []⟩, q 9 (.fld 8 (.t 1)), q 10 (.ld false 1 (.t 9)), ⟨(some 11), none, .app 4 40 (.t 8) (.t 10)⟩, q 12 (.fld 8 (.t 1)), ⟨none, none, .st 1 (.t 12) (.t 11)⟩])
 (.seq (.ops [q 13 (.ld true 9 (.t 1)), ⟨none, none, .st 9 (.t 2) (.t 13)⟩])
 .ret))))
theorem w_spec_l15Copy {args : List Value} {h : H} {Q : Value → H → Prop} (hl : args.length ≤ 14) (hk : wpc Tryz.prog b_spec_l15Copy (retw [.cell 2 true 9] Q) (argsFr args) h) : AC Tryz.prog 119 args h Q :=
  AC.of_wpc mixedOrders Tryz.func119 (by kernel_rfl) (by kernel_rfl : prepF Tryz.prog Tryz.f119 = some ⟨14, [.cell 2 true 9], b_spec_l15Copy⟩) hl hk

theorem l15Copy_ac {h : H} {cs : List Value} {i : UIdeal} (hv : RepR h (spIdeal i) cs) (hs : i.small) : AC Tryz.prog 119 [.agg cs.toArray] h fun r h' => Ext h h' ∧ ∃ cs', r = .agg cs'.toArray ∧ RepF h h' (spIdeal i) cs' := by
  obtain ⟨vh, vm, rfl, a1, a2⟩ := ideal_r.1 hv
  have l1 : (strs i.base).length = i.base.length := by simp
  have l2 : (i.steps.map UStep.cells).length = i.steps.length := by simp
  have w2 : Wid 4 (i.steps.map UStep.cells) := Wid.map fun _ => rfl
  have p1 := a1.one
  have p2 := a2.one
  have := hs.1
  have := hs.2
  skip
  refine w_spec_l15Copy (by simp) ?_
  unfold b_spec_l15Copy
  simp -implicitDefEqProofs only [go_sem, p1, p2]
  intro b1 hb_b1 n_b1
  simp -implicitDefEqProofs only [go_sem, p1, p2, hb_b1]
  intro b2 hb_b2 m0_b2
  obtain ⟨z_b2_b1, y_b2_b1, n_b2⟩ := fne m0_b2
  simp only [H.set_base] at hb_b2
  simp -implicitDefEqProofs only [go_sem, p1, p2, hb_b1, hb_b2, z_b2_b1, y_b2_b1]
  intro b3 hb3 hn3
  have hsrc := src0 hn3 (a1.ext (((Ext.refl _).set' n_b1 _).set' n_b2 _)) (strs_wid _) (by decide)
  obtain ⟨z32, y32, n32⟩ := fne hn3
  obtain ⟨z31, y31, n31⟩ := fne n32
  simp -implicitDefEqProofs only [go_sem, hsrc, z31, y31, z32, y32, p1, p2, hb_b1, hb_b2, z_b2_b1, y_b2_b1]
  refine app0 hb3 hn3 rfl (strs_wid _) (strs_one _) (by omega) ?_
  intro v1 h1 e1 o1
  have g1 := e1.2.g b1 _ (by simp -implicitDefEqProofs only [go_sem, p1, p2, hb_b1, hb_b2, z_b2_b1, y_b2_b1]; rfl)
  have g2 := e1.2.g b2 _ (by simp -implicitDefEqProofs only [go_sem, p1, p2, hb_b1, hb_b2, z_b2_b1, y_b2_b1]; rfl)
  have hb4 := e1.1
  simp only [H.set_base] at hb4
  have f1 := o1.fre
  obtain ⟨av1, cv1, rfl⟩ := f1.shape
  simp -implicitDefEqProofs only [go_sem, ldc_get g1, ldc_get g2, stc_get g1, stc_get g2, hb4, p1, p2, hb_b1, hb_b2, z_b2_b1, y_b2_b1]
  have E1 := fun x => (((((Ext.refl _).set' n_b1 _).set' n_b2 _)).trans e1).set' n_b1 x
  have G1 : ∀ x y, ((h.set b1 x).set b2 y).get b1 = some x := fun x y => by simp -implicitDefEqProofs only [go_sem, p1, p2, hb_b1, hb_b2, z_b2_b1, y_b2_b1]
  have f1' := fun x => f1.set (b := b1) (G1 _ _) x
  intro b4 hb4' hn4
  have z41 : (b4 = b1) = False := eq_false fun e => by subst e; simp at hn4
  have z42 : (b4 = b2) = False := eq_false fun e => by subst e; rw [H.set_get_ne _ _ _ _ (of_eq_false z_b2_b1), g2] at hn4; cases hn4
  have y41 : (b1 = b4) = False := eq_false fun e => (of_eq_false z41) e.symm
  have y42 : (b2 = b4) = False := eq_false fun e => (of_eq_false z42) e.symm
  have hsrc2 := src0 hn4 (a2.ext (E1 _)) w2 (by decide)
  simp -implicitDefEqProofs only [go_sem, hsrc2, z41, y41, z42, y42, p1, p2, hb_b1, hb_b2, z_b2_b1, y_b2_b1]
  refine app0 hb4' hn4 rfl w2 (steps_one _) (by omega) ?_
  intro v2 h2 e2 o2
  have j1 := e2.2.g b1 _ (by simp -implicitDefEqProofs only [go_sem, p1, p2, hb_b1, hb_b2, z_b2_b1, y_b2_b1]; rfl)
  have j2 := e2.2.g b2 _ (by simp -implicitDefEqProofs only [go_sem, g2, p1, p2, hb_b1, hb_b2, z_b2_b1, y_b2_b1]; rfl)
  have hb5 := e2.1
  simp only [H.set_base, hb4] at hb5
  have f2 := o2.fre
  obtain ⟨av2, cv2, rfl⟩ := f2.shape
  simp -implicitDefEqProofs only [go_sem, ldc_get j1, ldc_get j2, stc_get j1, stc_get j2, hb5, p1, p2, hb_b1, hb_b2, z_b2_b1, y_b2_b1]
  refine ⟨(((E1 _).trans e2).set' n_b2 _).set' n_b1 _, _, rfl, ideal_f.2 ⟨_, _, rfl, ?_, ?_, ?_⟩⟩
  · exact ((((f1' _).ext e2).set (b := b2) (H.set_get_same _ _ _) _).set (b := b1) (G1 _ _) _).back (((Ext.refl _).set' n_b1 _).set' n_b2 _)
  · exact ((f2.set (b := b2) (by simp -implicitDefEqProofs only [go_sem, g2, p1, p2, hb_b1, hb_b2, z_b2_b1, y_b2_b1]; rfl) _).set (b := b1) (H.set_get_same _ _ _) _).back (E1 _)
  · exact Dj.of (f1' _).known f2.new
/-- spec.l15Idle -/
def b_spec_l15Idle : C := (.seq (.ops [⟨(some 1), none, .box (.t 0)⟩, ⟨(some 2), none, .alloc [(i64 0), (i64 0), (i64 0), (i64 0), (i64 0), (i64 0), (str []), nils, nils]⟩])
 (.seq (.dops true (.tk (q 3 (.fld 4 (.t 1))) (.tk (q 4 (.ld false 1 (.t 3))) (.tk (q 6 (.fld 7 (.t 1))) (.tk (q 7 (.ld false 1 (.t 6))) (.sq (⟨(some 5), none, .bsl 0 [] []⟩) (.sq (⟨(some 8), none, .app 1 16 (.t 5) (.t 7)⟩) (.tk (q 9 (.build [(i64 0), (i64 0), (i64 0), (i64 0), (i64 0), (i64 0), (str []), nils, nils] [(0, 1, (.c (i64 1))), (4, 1, (.t 4)), (7, 1, (.t 8))])) (.lt (⟨none, none, .st 9 (.t 2) (.t 9)⟩) .nil)))))))))
 .ret))
theorem w_spec_l15Idle {args : List Value} {h : H} {Q : Value → H → Prop} (hl : args.length ≤ 10) (hk : wpc Tryz.prog b_spec_l15Idle (retw [.cell 2 true 9] Q) (argsFr args) h) : AC Tryz.prog 122 args h Q :=
  AC.of_wpc mixedOrders Tryz.func122 (by kernel_rfl) (by kernel_rfl : prepF Tryz.prog Tryz.f122 = some ⟨10, [.cell 2 true 9], b_spec_l15Idle⟩) hl hk

theorem l15Idle_ac {h : H} {cs : List Value} {i : UIdeal} (hv : RepR h (spIdeal i) cs) (hs : i.small) : AC Tryz.prog 122 [.agg cs.toArray] h fun r h' => Ext h h' ∧ ∃ cs', r = .agg cs'.toArray ∧ RepF h h' (spIdeal (idleOf i)) cs' := by
  obtain ⟨vh, vm, rfl, a1, a2⟩ := ideal_r.1 hv
  have l1 : (strs i.base).length = i.base.length := by simp
  have p1 := a1.one
  have p2 := a2.one
  have := hs.1
  skip
  refine w_spec_l15Idle (by simp) ?_
  unfold b_spec_l15Idle
  simp -implicitDefEqProofs only [go_sem, p1, p2]
  intro b1 hb_b1 n_b1
  simp -implicitDefEqProofs only [go_sem, p1, p2, hb_b1]
  intro b2 hb_b2 m0_b2
  obtain ⟨z_b2_b1, y_b2_b1, n_b2⟩ := fne m0_b2
  simp only [H.set_base] at hb_b2
  simp -implicitDefEqProofs only [go_sem, p1, p2, hb_b1, hb_b2, z_b2_b1, y_b2_b1]
  intro b3 hb3 hn3
  have hsrc := src0 hn3 (a1.ext (((Ext.refl _).set' n_b1 _).set' n_b2 _)) (strs_wid _) (by decide)
  obtain ⟨z32, y32, n32⟩ := fne hn3
  obtain ⟨z31, y31, n31⟩ := fne n32
  have s3 := fun x => (Sub.refl _).set hn3 x
  refine ⟨s3 _, ?_⟩
  simp -implicitDefEqProofs only [go_sem, hsrc, z31, y31, z32, y32, p1, p2, hb_b1, hb_b2, z_b2_b1, y_b2_b1]
  refine app0 hb3 hn3 rfl (strs_wid _) (strs_one _) (by omega) ?_
  intro v1 h1 e1 o1
  have g2 := e1.2.g b2 _ (by simp -implicitDefEqProofs only [go_sem, p1, p2, hb_b1, hb_b2, z_b2_b1, y_b2_b1]; rfl)
  have hb4 := e1.1
  simp only [H.set_base] at hb4
  have f1 := o1.fre
  obtain ⟨av1, cv1, rfl⟩ := f1.shape
  refine ⟨e1.2, ?_⟩
  simp -implicitDefEqProofs only [go_sem, ldc_get g2, stc_get g2, hb4, p1, p2, hb_b1, hb_b2, z_b2_b1, y_b2_b1]
  refine ⟨(((((Ext.refl _).set' n_b1 _).set' n_b2 _)).trans e1).set' n_b2 _, _, rfl, ideal_f.2 ⟨_, _, rfl, ?_, ?_, ?_⟩⟩
  · exact (f1.set (b := b2) (H.set_get_same _ _ _) _).back (((Ext.refl _).set' n_b1 _).set' n_b2 _)
  · exact .inl ⟨none, 0, rfl, rfl⟩
  · exact fun _ _ h => by cases h
theorem idealOk_steps {i : UIdeal} (h : idealOk i) : i.steps.length ≤ 20 := by
  have h5 := h.2.2.2
  by_cases p : i.phase = 1
  · rw [if_pos p] at h5; simp [h5.2.2.2.2.2]
  · rw [if_neg p] at h5; exact (code_zero h5.1.2.2.2.2.1).1.1
/-- spec.l15Boot -/
def b_spec_l15Boot : C := (.seq (.ops [⟨(some 1), none, .box (.t 0)⟩, ⟨(some 2), none, .alloc [(i64 0), (i64 0), (i64 0), (i64 0), (i64 0), (i64 0), (str []), nils, nils]⟩])
 (.seq (.ops [q 4 (.ld true 9 (.t 1)), ⟨(some 5), none, .call (.c (.func (.func 119) #[] #[])) [(.t 4)]⟩, ⟨(some 3), none, .alloc [(i64 0), (i64 0), (i64 0), (i64 0), (i64 0), (i64 0), (str []), nils, nils]⟩, ⟨none, none, .st 9 (.t 3) (.t 5)⟩])
 (.seq (.seq (.ops [q 6 (.fld 0 (.t 1)), q 7 (.ld false 1 (.t 6))])
 (.block 0 (.seq (.ops [q 9 (.bin .eql (.t 7) (.c (i64 2))), q 8 (.mv (.t 9))])
 (.cond (.t 8) (.dops true (.tk (q 10 (.fld 8 (.t 3))) (.tk (q 11 (.ld false 1 (.t 10))) (.tk (q 12 (.fld 8 (.t 1))) (.tk (q 13 (.ld false 1 (.t 12))) (.sq (⟨(some 14), none, .call (.c (.func (.func 124) #[] #[])) [(.t 13)]⟩) (.tk (q 15 (.lsl 4 (.t 11) none (some (.t 14)))) (.tk (q 16 (.fld 8 (.t 3))) (.lt (⟨none, none, .st 1 (.t 16) (.t 15)⟩) .nil))))))))) (.seq (.ops [q 18 (.bin .eql (.t 7) (.c (i64 3))), q 17 (.mv (.t 18))])
 (.cond (.t 17) (.seq (.ops [q 19 (.fld 0 (.t 3)), ⟨none, none, .st 1 (.t 19) (.c (i64 4))⟩])
 (.ops [q 20 (.fld 1 (.t 3)), ⟨none, none, .st 1 (.t 20) (.c (i64 2))⟩])) (.seq (.ops [q 22 (.bin .eql (.t 7) (.c (i64 4))), q 21 (.mv (.t 22))])
 (.cond (.t 21) (.seq (.seq (.ops [q 23 (.fld 1 (.t 1)), q 24 (.ld false 1 (.t 23)), q 25 (.bin .eql (.t 24) (.c (i64 0)))])
 (.cond (.t 25) (.seq (.ops [q 26 (.ld true 9 (.t 1)), ⟨(some 27), none, .call (.c (.func (.func 122) #[] #[])) [(.t 26)]⟩, ⟨none, none, .st 9 (.t 2) (.t 27)⟩])
 .ret) .skip))
 (.ops [q 28 (.fld 1 (.t 1)), q 29 (.ld false 1 (.t 28)), q 30 (.bin .sub (.t 29) (.c (i64 1))), q 31 (.fld 1 (.t 3)), ⟨none, none, .st 1 (.t 31) (.t 30)⟩])) .skip))))))))
 (.seq (.ops [q 32 (.ld true 9 (.t 3)), ⟨none, none, .st 9 (.t 2) (.t 32)⟩])
 .ret))))
theorem w_spec_l15Boot {args : List Value} {h : H} {Q : Value → H → Prop} (hl : args.length ≤ 33) (hk : wpc Tryz.prog b_spec_l15Boot (retw [.cell 2 true 9] Q) (argsFr args) h) : AC Tryz.prog 126 args h Q :=
  AC.of_wpc mixedOrders Tryz.func126 (by kernel_rfl) (by kernel_rfl : prepF Tryz.prog Tryz.f126 = some ⟨33, [.cell 2 true 9], b_spec_l15Boot⟩) hl hk

set_option maxHeartbeats 1600000 in
theorem l15Boot_ac {h : H} {cs : List Value} {i : UIdeal} (hv : RepR h (spIdeal i) cs) (hs : i.small) (hok : idealOk i) : AC Tryz.prog 126 [.agg cs.toArray] h fun r h' => Ext h h' ∧ ∃ cs', r = .agg cs'.toArray ∧ RepF h h' (spIdeal (bootOf i)) cs' := by
  have hv0 := hv
  have ht := idealOk_tries hok
  have h20 := idealOk_steps hok
  have hkp : keptOf i.steps = kept i.steps := by unfold keptOf; rw [if_pos h20]
  have hk := kept_le i.steps
  obtain ⟨vb, vs, rfl, sb, ss⟩ := ideal_r.1 hv
  have p1 := sb.one
  have p2 := ss.one
  skip
  refine w_spec_l15Boot (by simp) ?_
  unfold b_spec_l15Boot
  simp -implicitDefEqProofs only [go_sem, p1, p2]
  intro b1 hb_b1 n_b1
  simp -implicitDefEqProofs only [go_sem, p1, p2, hb_b1]
  intro b2 hb_b2 m0_b2
  obtain ⟨z_b2_b1, y_b2_b1, n_b2⟩ := fne m0_b2
  simp only [H.set_base] at hb_b2
  simp -implicitDefEqProofs only [go_sem, p1, p2, hb_b1, hb_b2, z_b2_b1, y_b2_b1]
  refine AC_of (l15Copy_ac (hv0.ext (((Ext.refl _).set' n_b1 _).set' n_b2 _)) hs) ?_
  rintro _ h1 - ⟨e1, cs', rfl, f1⟩
  obtain ⟨ub, us, rfl, f2, f3, d⟩ := ideal_f.1 f1
  obtain ⟨a, c, rfl⟩ := f3.shape
  have hl : (i.steps.map UStep.cells).length = i.steps.length := by simp
  have hcap : i.steps.length ≤ c := by
    obtain ⟨_, _, _, _, e, hc, _⟩ := f3.sl
    simp only [hl, Value.slice.injEq] at e hc
    omega
  rw [hl] at f3 d f1
  have o1 := f2.sl.one
  have g1 := e1.2.g b1 _ (by simp -implicitDefEqProofs only [go_sem, p1, p2, hb_b1, hb_b2, z_b2_b1, y_b2_b1]; rfl)
  have g2 := e1.2.g b2 _ (by simp -implicitDefEqProofs only [go_sem, p1, p2, hb_b1, hb_b2, z_b2_b1, y_b2_b1]; rfl)
  skip
  simp -implicitDefEqProofs only [go_sem, p1, p2, hb_b1, hb_b2, z_b2_b1, y_b2_b1, o1, hl]
  intro b3 hb3 n3
  have z32 : (b2 = b3) = False := eq_false fun e => by rw [← e, g2] at n3; cases n3
  have z31 : (b1 = b3) = False := eq_false fun e => by rw [← e, g1] at n3; cases n3
  have y32 : (b3 = b2) = False := eq_false fun e => (of_eq_false z32) e.symm
  have y31 : (b3 = b1) = False := eq_false fun e => (of_eq_false z31) e.symm
  have e3 := (Ext.refl h1).set n3 ⟨i.cells ub (.slice a i.steps.length c), 9⟩
  have nb3 : ¬ blks (i.cells ub (.slice a i.steps.length c)) b3 := f1.r.known.ne n3
  have hbb := e1.1
  simp only [H.set_base] at hbb
  have hb3' := hb3
  rw [hbb] at hb3'
  skip
  have E0 := ((((Ext.refl _).set' n_b1 _).set' n_b2 _)).trans e1
  have fin : ∀ (j : UIdeal) (w : Value), RepF ((h.set b1 ⟨i.cells vb vs, 9⟩).set b2 ⟨[i64 0, i64 0, i64 0, i64 0, i64 0, i64 0, str [], nils, nils], 9⟩) h1 (spIdeal j) (j.cells ub w) → (∀ x, blks (j.cells ub w) x → blks (i.cells ub (.slice a i.steps.length c)) x) → ∀ y z,
      Ext h ((h1.set b2 z).set b3 y) ∧ ∃ cs', Value.agg (j.cells ub w).toArray = .agg cs'.toArray ∧ RepF h ((h1.set b2 z).set b3 y) (spIdeal j) cs' := fun j w f hsub y z => by
    rw [← H.set_comm _ _ _ (of_eq_false z32)]
    have e4 := (Ext.refl h1).set n3 y
    have f5 := RepF.setNe f (fun hx => nb3 (hsub _ hx)) y
    exact ⟨(E0.trans e4).set' n_b2 _, _, rfl, (f5.set (b := b2) (H.set_get_same _ _ _) _).back (((Ext.refl _).set' n_b1 _).set' n_b2 _)⟩
  unfold bootOf
  by_cases q2 : i.phase = 2
  · rw [if_pos q2]
    simp -implicitDefEqProofs only [go_sem, hb3, z31, z32, y32, y31, ldc_get g1, ldc_get g2, decide_eq_true q2, p1, p2, hb_b1, hb_b2, z_b2_b1, y_b2_b1, o1, hl, hb3']
    refine (specKeptOf_pc (ss.ext (E0.trans e3)) hs.2).use ?_
    rw [hkp]
    simp -implicitDefEqProofs only [go_sem, hb3, z31, z32, y32, y31, ldc_get g1, ldc_get g2, stc_get g2, hk.1, show kept i.steps ≤ (c : Int) by omega, hbb, hb_b2, p1, p2, hb_b1, hb_b2, z_b2_b1, y_b2_b1, o1, hl, hb3']
    refine fin { i with steps := i.steps.take (kept i.steps).toNat } (.slice a (kept i.steps).toNat c) (ideal_f.2 ⟨ub, .slice a (kept i.steps).toNat c, rfl, f2, ?_, ?_⟩) ?_ _ _
    · have := f3.takeR (k := (kept i.steps).toNat) (by omega)
      simpa [List.map_take] using this
    · exact fun x hx hy => d x hx (blk_take hy (by omega))
    · exact fun x hx => ideal_blks.2 ((ideal_blks.1 hx).imp id fun h => blk_take h (by omega))
  rw [if_neg q2]
  by_cases q3 : i.phase = 3
  · rw [if_pos q3]
    simp -implicitDefEqProofs only [go_sem, hb3, z31, z32, y32, y31, ldc_get g1, ldc_get g2, stc_get g2, q2, q3, hbb, hb_b2, p1, p2, hb_b1, hb_b2, z_b2_b1, y_b2_b1, o1, hl, hb3']
    exact fin { i with phase := 4, tries := 2 } (.slice a i.steps.length c) (ideal_f.2 ⟨ub, _, rfl, f2, f3, d⟩) (fun x hx => ideal_blks.2 (ideal_blks.1 hx)) _ _
  rw [if_neg q3]
  by_cases q4 : i.phase = 4
  · rw [if_pos q4]
    by_cases q5 : i.tries = 0
    · rw [if_pos q5]
      simp -implicitDefEqProofs only [go_sem, hb3, z31, z32, y32, y31, ldc_get g1, ldc_get g2, stc_get g2, q2, q3, decide_eq_true q4, decide_eq_true q5, hbb, hb_b2, p1, p2, hb_b1, hb_b2, z_b2_b1, y_b2_b1, o1, hl, hb3']
      refine AC_of (l15Idle_ac (hv0.ext (E0.trans e3)) hs) ?_
      rintro _ h4 - ⟨e4, cs4, rfl, f4⟩
      have l4 := f4.r.len
      simp only [List.length_cons, List.length_nil, Nat.reduceAdd] at l4
      have t4 := take_len l4
      have o4 := f4.r.one
      have g4 := (e3.trans e4).2.g b2 _ g2
      have hbb4 := e4.1
      simp only [H.set_base] at hbb4
      simp -implicitDefEqProofs only [go_sem, ldc_get g4, stc_get g4, l4, t4, o4, hbb4, hbb, hb_b2, p1, p2, hb_b1, hb_b2, z_b2_b1, y_b2_b1, o1, hl, hb3']
      exact ⟨((E0.trans e3).trans e4).set' n_b2 _, cs4, rfl, (f4.set (b := b2) (e3.2.g b2 _ g2) _).back (E0.trans e3)⟩
    · rw [if_neg q5]
      have hw : IntKind.i64.wrap (i.tries - 1) = i.tries - 1 := wrap_i64 (by omega) (by omega)
      simp -implicitDefEqProofs only [go_sem, hb3, z31, z32, y32, y31, ldc_get g1, ldc_get g2, stc_get g2, q2, q3, decide_eq_true q4, q5, hbb, hb_b2, hw, p1, p2, hb_b1, hb_b2, z_b2_b1, y_b2_b1, o1, hl, hb3']
      exact fin { i with tries := i.tries - 1 } (.slice a i.steps.length c) (ideal_f.2 ⟨ub, _, rfl, f2, f3, d⟩) (fun x hx => ideal_blks.2 (ideal_blks.1 hx)) _ _
  rw [if_neg q4]
  simp -implicitDefEqProofs only [go_sem, hb3, z31, z32, y32, y31, ldc_get g1, ldc_get g2, stc_get g2, q2, q3, q4, hbb, hb_b2, p1, p2, hb_b1, hb_b2, z_b2_b1, y_b2_b1, o1, hl, hb3']
  exact fin i (.slice a i.steps.length c) (ideal_f.2 ⟨ub, _, rfl, f2, f3, d⟩) (fun x hx => hx) _ _
end Go.Proofs.YtdofcojbjcpikaaGreatDoor
