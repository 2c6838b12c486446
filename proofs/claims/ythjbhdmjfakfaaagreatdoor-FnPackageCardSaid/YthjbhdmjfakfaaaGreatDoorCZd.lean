/- A helper of this seat's claims (contracts of the functions): what it shows is shown for every input that its statements name, on no other condition. -/
import Derived.Test.YthjbhdmjfakfaaaGreatDoorCZc
import Derived.Test.YthjbhdmjfakfaaaGreatDoorC08
import Derived.Test.YthjbhdmjfakfaaaGreatDoorC10s
set_option linter.unusedVariables false
set_option linter.unusedSimpArgs false
set_option maxRecDepth 100000
namespace Go.Proofs.YthjbhdmjfakfaaaGreatDoor
open Go.KH

/-! ## Digests of images -/
theorem flat_len8 : ∀ {l : List (List UInt8)}, (∀ s ∈ l, s.length = 8) → l.flatten.length = 8 * l.length
  | [], _ => rfl
  | s :: l, h => by
    rw [List.flatten_cons, List.length_append, flat_len8 fun x hx => h x (List.mem_cons_of_mem _ hx), h s (List.mem_cons_self ..), List.length_cons]; omega
theorem img_len {l : List (List UInt8)} (h : imageOk l) : l.flatten.length ≤ 64 := by
  rw [flat_len8 h.2]; have := h.1; omega
theorem at8_len {im : List (List UInt8)} (hi : imageOk im) {i : Int} (h : 0 ≤ i ∧ i < im.length) : (at8 im i).length = 8 := by
  unfold at8
  rw [List.getElem?_eq_getElem (by omega)]
  exact hi.2 _ (List.getElem_mem _)
theorem makeB_8 {im : List (List UInt8)} (hi : imageOk im) {s : UStep} (h5 : s.kind ≠ 5) (ho : stepOk s im.length) : (makeB s (at8 im s.src)).length = 8 := by
  obtain ⟨o1, o2, o3, o4⟩ := ho
  rw [if_neg h5] at o3
  have h1 := hi.1
  have hs : 0 ≤ s.src ∧ s.src < im.length := by split at o3 <;> omega
  have hl := at8_len hi hs
  unfold makeB
  split
  · rfl
  · split
    · rw [if_pos (by omega)] at o4; exact o4
    · split
      · exact hl
      · rw [if_pos (by omega)] at o4
        rw [xorB_len (by omega)]; exact hl
theorem applyB_ok {im : List (List UInt8)} {l : List UStep} (hi : imageOk im) (hs : ∀ s ∈ l, stepOk s im.length) : imageOk (applyB im l) := by
  refine ⟨by rw [applyB_len]; exact hi.1, ?_⟩
  unfold applyB
  have key : ∀ (w : List UStep) (out : List (List UInt8)), (∀ s ∈ w, isW s = true ∧ stepOk s im.length) → (∀ x ∈ out, x.length = 8) → ∀ x ∈ w.foldl (putB im) out, x.length = 8 := by
    intro w
    induction w with
    | nil => intro out _ h; exact h
    | cons s w ih =>
      intro out hw ho
      rw [List.foldl_cons]
      refine ih _ (fun x hx => hw x (List.mem_cons_of_mem _ hx)) fun x hx => ?_
      unfold putB at hx
      rcases List.mem_or_eq_of_mem_set hx with hx | rfl
      · exact ho x hx
      · obtain ⟨q1, q2⟩ := hw s (List.mem_cons_self ..)
        exact makeB_8 hi (by simpa [isW] using q1) q2
  exact key _ _ (fun s hs' => ⟨(List.mem_filter.1 hs').2, hs s (List.mem_filter.1 hs').1⟩) hi.2
/-- impl.imageDigest -/
def b_impl_imageDigest : C := (.seq (.ops [q 2 (.mv (.c (str [])))])
 (.seq (.ops [q 3 (.mv (.t 0)), ⟨(some 4), none, .call (.c (.func (.func 88) #[] #[])) [(.t 3), (.c (str []))]⟩, ⟨(some 5), none, .call (.c (.func (.func 87) #[] #[])) [(.t 4)]⟩, q 2 (.mv (.t 5))])
 .ret))
theorem w_impl_imageDigest {args : List Value} {h : H} {Q : Value → H → Prop} (hl : args.length ≤ 6) (hk : wpc Tryz.prog b_impl_imageDigest (retw [.tmp 2] Q) (argsFr args) h) : AC Tryz.prog 36 args h Q :=
  AC.of_wpc mixedOrders Tryz.func36 (by kernel_rfl) (by kernel_rfl : prepF Tryz.prog Tryz.f36 = some ⟨6, [.tmp 2], b_impl_imageDigest⟩) hl hk

theorem imageDigest_pc {h : H} (tb : Tabs h) {v : Value} {l : List (List UInt8)} (hv : Sl h v 1 (strs l)) (hi : imageOk l) : PC Tryz.prog 36 [v] h (str (shaL l.flatten)) := by
  have := img_len hi
  have := hi.1
  refine PC_of ?_
  refine w_impl_imageDigest (by simp) ?_
  unfold b_impl_imageDigest
  simp -implicitDefEqProofs only [go_sem]
  refine (join_pc hv (by omega) (by omega)).use ?_
  simp -implicitDefEqProofs only [go_sem]
  refine (digest_pc tb l.flatten (by omega)).use ?_
  simp -implicitDefEqProofs only [go_sem]
  exact Ext.refl _
/-- spec.l07Join -/
def b_spec_l07Join : C := (.seq (.ops [q 2 (.mv (.c (str [])))])
 (.seq (.ops [q 3 (.mv (.c (str [])))])
 (.seq (.seq (.ops [q 4 (.mv (.c (i64 0)))])
 (.block 0 (.loop (.seq (.seq (.ops [q 5 (.mv (.t 4)), q 6 (.mv (.t 0)), q 7 (.len (.t 6)), q 8 (.bin .lss (.t 5) (.t 7))])
 (.cond (.t 8) .skip (.exit 0)))
 (.seq (.block 1 (.ops [q 11 (.mv (.t 3)), q 12 (.mv (.t 0)), q 13 (.mv (.t 4)), q 14 (.idx 1 (.t 12) (.t 13)), q 15 (.ld false 1 (.t 14)), q 16 (.bin .add (.t 11) (.t 15)), q 3 (.mv (.t 16))]))
 (.ops [q 9 (.mv (.t 4)), q 10 (.bin .add (.t 9) (.c (i64 1))), q 4 (.mv (.t 10))]))))))
 (.seq (.ops [q 17 (.mv (.t 3)), q 2 (.mv (.t 17))])
 .ret))))
theorem w_spec_l07Join {args : List Value} {h : H} {Q : Value → H → Prop} (hl : args.length ≤ 18) (hk : wpc Tryz.prog b_spec_l07Join (retw [.tmp 2] Q) (argsFr args) h) : AC Tryz.prog 112 args h Q :=
  AC.of_wpc mixedOrders Tryz.func112 (by kernel_rfl) (by kernel_rfl : prepF Tryz.prog Tryz.f112 = some ⟨18, [.tmp 2], b_spec_l07Join⟩) hl hk

theorem l07Join_pc {h : H} {v : Value} {l : List (List UInt8)} (hv : Sl h v 1 (strs l)) (hi : imageOk l) : PC Tryz.prog 112 [v] h (str l.flatten) := by
  have hb := img_len hi
  have h8 := hi.1
  obtain ⟨a, c, b, o, rfl, hcap, h2, h3⟩ := hv
  have hl : (strs l).length = l.length := by simp
  rw [hl] at h2
  skip
  refine PC_of ?_
  refine w_spec_l07Join (by simp) ?_
  unfold b_spec_l07Join
  simp -implicitDefEqProofs only [go_sem, hl]
  refine loopW_of (fun m f h' => ∃ k, m + k = l.length ∧ h' = h ∧ f 0 = .slice a l.length c ∧ f 3 = str (l.take k).flatten ∧ f 4 = i64 k) l.length
    ⟨0, by simp, rfl, by simp -implicitDefEqProofs only [go_sem, hl], by simp -implicitDefEqProofs only [go_sem, hl]; rfl, by simp -implicitDefEqProofs only [go_sem, hl]; rfl⟩ ?_
  rintro m f h' ⟨k, hm, rfl, f0, f3, f4⟩
  by_cases hk : k < l.length
  · have dk := h3 k [str l[k]] (by simp [hk])
    rw [Nat.mul_one] at dk
    have e := l.take_append_drop (k + 1)
    have hle : (l.take (k + 1)).flatten.length ≤ 64 := by
      have : (l.take (k + 1)).flatten.length + (l.drop (k + 1)).flatten.length = l.flatten.length := by rw [← List.length_append, ← List.flatten_append, e]
      omega
    have hts : (l.take (k + 1)).flatten = (l.take k).flatten ++ l[k] := by rw [List.take_add_one, List.getElem?_eq_getElem hk, List.flatten_append]; simp
    rw [hts, List.length_append] at hle
    simp -implicitDefEqProofs only [go_sem, f0, f3, f4, show (k : Int) < (l.length : Int) by omega, Int.natCast_nonneg, Int.toNat_natCast, h2, Nat.mul_one, dk, hl]
    refine Req.of (by omega) ?_
    simp -implicitDefEqProofs only [go_sem, f0, f4, wrap_i64 (show -(9223372036854775808 : Int) ≤ ((k : Int) + 1) by omega) (show ((k : Int) + 1) < 9223372036854775808 by omega), hl]
    exact ⟨m - 1, by omega, _, Ext.refl _, k + 1, by omega, rfl, by rw [hts], rfl⟩
  obtain rfl : k = l.length := by omega
  rw [List.take_length] at f3
  simp -implicitDefEqProofs only [go_sem, f0, f3, f4, show ¬ ((l.length : Int) < (l.length : Int)) by omega, hl]
  exact Ext.refl _
/-- spec.ImageDigest -/
def b_spec_ImageDigest : C := (.seq (.ops [q 2 (.mv (.c (str [])))])
 (.seq (.seq (.ops [q 3 (.mv (.t 0)), ⟨(some 4), none, .call (.c (.func (.func 52) #[] #[])) [(.t 3)]⟩, q 5 (.un .not (.t 4))])
 (.cond (.t 5) (.seq (.ops [q 2 (.mv (.c (str [])))])
 .ret) .skip))
 (.seq (.ops [q 6 (.mv (.t 0)), ⟨(some 7), none, .call (.c (.func (.func 112) #[] #[])) [(.t 6)]⟩, ⟨(some 8), none, .call (.c (.func (.func 101) #[] #[])) [(.t 7)]⟩, q 2 (.mv (.t 8))])
 .ret)))
theorem w_spec_ImageDigest {args : List Value} {h : H} {Q : Value → H → Prop} (hl : args.length ≤ 9) (hk : wpc Tryz.prog b_spec_ImageDigest (retw [.tmp 2] Q) (argsFr args) h) : AC Tryz.prog 54 args h Q :=
  AC.of_wpc mixedOrders Tryz.func54 (by kernel_rfl) (by kernel_rfl : prepF Tryz.prog Tryz.f54 = some ⟨9, [.tmp 2], b_spec_ImageDigest⟩) hl hk

theorem specImageDigest_pc {h : H} {v : Value} {l : List (List UInt8)} (hv : Sl h v 1 (strs l)) (hi : imageOk l) : PC Tryz.prog 54 [v] h (str (shaL l.flatten)) := by
  have hb := img_len hi
  have hd : digestOf l.flatten = shaL l.flatten := by unfold digestOf; rw [if_neg (by omega)]
  have h1 := hi.1
  refine PC_of ?_
  refine w_spec_ImageDigest (by simp) ?_
  unfold b_spec_ImageDigest
  simp -implicitDefEqProofs only [go_sem]
  refine (specImageRight_pc hv (by omega)).use ?_
  simp -implicitDefEqProofs only [go_sem, decide_eq_true hi]
  refine (l07Join_pc hv hi).use ?_
  simp -implicitDefEqProofs only [go_sem]
  refine (specDigest_pc _ _ (by omega)).use ?_
  simp -implicitDefEqProofs only [go_sem, hd]
  exact Ext.refl _
/-! ## Packages that fit -/
noncomputable def fitsOf (p : UPkg) (old : List (List UInt8)) : Int := if ¬ (pkgOk p ∧ imageOk old) then 1 else if (old.length : Int) ≠ p.blocks then 8 else if shaL (applyB old p.steps).flatten ≠ p.digest then 5 else 0
/-- impl.packageFits -/
def b_impl_packageFits : C := (.seq (.ops [⟨(some 2), none, .box (.t 0)⟩, q 4 (.mv (.c (i64 0)))])
 (.seq (.block 0 (.seq (.ops [q 6 (.ld true 3 (.t 2)), ⟨(some 7), none, .call (.c (.func (.func 39) #[] #[])) [(.t 6)]⟩, q 8 (.un .not (.t 7)), q 9 (.mv (.t 8)), qg 10 9 false (.mv (.t 1)), ⟨(some 11), (some (9, false)), .call (.c (.func (.func 34) #[] #[])) [(.t 10)]⟩, qg 12 9 false (.un .not (.t 11)), q 13 (.pick (.t 9) (.c (.bool true)) (.t 12)), q 5 (.mv (.t 13))])
 (.cond (.t 5) (.seq (.ops [q 4 (.mv (.c (i64 1)))])
 .ret) (.seq (.dops true (.tk (q 15 (.mv (.t 1))) (.tk (q 17 (.fld 0 (.t 2))) (.tk (q 18 (.ld false 1 (.t 17))) (.sq (⟨(some 16), none, .call (.c (.func (.func 35) #[] #[])) [(.t 15)]⟩) (.tk (q 19 (.bin .neq (.t 16) (.t 18))) (.tk (q 14 (.mv (.t 19))) .nil)))))))
 (.cond (.t 14) (.seq (.ops [q 4 (.mv (.c (i64 8)))])
 .ret) (.seq (.dops true (.tk (q 21 (.mv (.t 1))) (.tk (q 22 (.fld 2 (.t 2))) (.tk (q 23 (.ld false 1 (.t 22))) (.tk (q 26 (.fld 1 (.t 2))) (.tk (q 27 (.ld false 1 (.t 26))) (.sq (⟨(some 24), none, .call (.c (.func (.func 65) #[] #[])) [(.t 21), (.t 23)]⟩) (.sq (⟨(some 25), none, .call (.c (.func (.func 36) #[] #[])) [(.t 24)]⟩) (.tk (q 28 (.bin .neq (.t 25) (.t 27))) (.tk (q 20 (.mv (.t 28))) .nil))))))))))
 (.cond (.t 20) (.seq (.ops [q 4 (.mv (.c (i64 5)))])
 .ret) .skip)))))))
 (.seq (.ops [q 4 (.mv (.c (i64 0)))])
 .ret)))
theorem w_impl_packageFits {args : List Value} {h : H} {Q : Value → H → Prop} (hl : args.length ≤ 29) (hk : wpc Tryz.prog b_impl_packageFits (retw [.tmp 4] Q) (argsFr args) h) : AC Tryz.prog 61 args h Q :=
  AC.of_wpc mixedOrders Tryz.func61 (by kernel_rfl) (by kernel_rfl : prepF Tryz.prog Tryz.f61 = some ⟨29, [.tmp 4], b_impl_packageFits⟩) hl hk

set_option maxHeartbeats 1600000 in
theorem packageFits_pc {h : H} (tb : Tabs h) {cs : List Value} {v : Value} {p : UPkg} {old : List (List UInt8)} (hp : RepR h (spPkg p) cs) (hv : Sl h v 1 (strs old)) (hs : p.steps.length ≤ 1048576) (hn : old.length ≤ 1048576) : PC Tryz.prog 61 [.agg cs.toArray, v] h (i64 (fitsOf p old)) := by
  obtain ⟨vs, rfl, a1⟩ := pkg_r.1 hp
  have hpk := hp
  unfold fitsOf
  refine PC_of ?_
  refine w_impl_packageFits (by simp) ?_
  unfold b_impl_packageFits
  simp -implicitDefEqProofs only [go_sem]
  intro b2 hb_b2 n_b2
  simp -implicitDefEqProofs only [go_sem, hb_b2]
  refine (isPackage_pc (hpk.ext ((Ext.refl _).set' n_b2 _)) hs).use ?_
  by_cases h1 : pkgOk p
  rotate_left
  · simp -implicitDefEqProofs only [go_sem, h1, decide_false, false_and, not_false_eq_true, if_true, hb_b2]
    exact ((Ext.refl _).set' n_b2 _)
  simp -implicitDefEqProofs only [go_sem, h1, decide_true, true_and, hb_b2]
  refine (isImage_pc (hv.ext ((Ext.refl _).set' n_b2 _)) hn).use ?_
  by_cases h2 : imageOk old
  rotate_left
  · simp -implicitDefEqProofs only [go_sem, h2, decide_false, not_false_eq_true, if_true, hb_b2]
    exact ((Ext.refl _).set' n_b2 _)
  simp -implicitDefEqProofs only [go_sem, h2, decide_true, not_true_eq_false, if_false, hb_b2]
  refine (sizeStr_pc (hv.ext ((Ext.refl _).set' n_b2 _))).use ?_
  by_cases h3 : (old.length : Int) = p.blocks
  rotate_left
  · simp -implicitDefEqProofs only [go_sem, h3, hb_b2]
    exact ⟨((Ext.refl _).set' n_b2 _), by simp [h1, h2, h3]⟩
  simp -implicitDefEqProofs only [go_sem, h3, not_true_eq_false, if_false, hb_b2]
  have hst : ∀ s ∈ p.steps, stepOk s old.length := by
    have := pkgOk_steps h1
    rw [h3]; exact this.2.2
  have hst' : ∀ s ∈ p.steps, stepOk s (old.length : Int) := hst
  refine AC_of (imageApply_ac (hv.ext ((Ext.refl _).set' n_b2 _)) (a1.ext ((Ext.refl _).set' n_b2 _)) h2 hs hst) ?_
  rintro vr h4 - ⟨e4, f4⟩
  simp -implicitDefEqProofs only [go_sem, e4.2, hb_b2]
  refine (imageDigest_pc ((tb.ext ((Ext.refl _).set' n_b2 _)).ext e4) f4.sl (applyB_ok h2 hst)).use ?_
  simp -implicitDefEqProofs only [go_sem, e4.2, hb_b2]
  by_cases h5 : shaL (applyB old p.steps).flatten = p.digest
  rotate_left
  · simp -implicitDefEqProofs only [go_sem, h5, hb_b2]
    exact ⟨(((Ext.refl _).set' n_b2 _)).trans e4, by simp [h1, h2, h3, h5]⟩
  · simp -implicitDefEqProofs only [go_sem, h5, hb_b2]
    exact ⟨(((Ext.refl _).set' n_b2 _)).trans e4, by simp [h1, h2, h3, h5]⟩
/-- spec.PackageFits -/
def b_spec_PackageFits : C := (.seq (.ops [⟨(some 2), none, .box (.t 0)⟩, q 4 (.mv (.c (i64 0)))])
 (.seq (.block 0 (.seq (.ops [q 6 (.ld true 3 (.t 2)), ⟨(some 7), none, .call (.c (.func (.func 20) #[] #[])) [(.t 6)]⟩, q 8 (.un .not (.t 7)), q 9 (.mv (.t 8)), qg 10 9 false (.mv (.t 1)), ⟨(some 11), (some (9, false)), .call (.c (.func (.func 52) #[] #[])) [(.t 10)]⟩, qg 12 9 false (.un .not (.t 11)), q 13 (.pick (.t 9) (.c (.bool true)) (.t 12)), q 5 (.mv (.t 13))])
 (.cond (.t 5) (.seq (.ops [q 4 (.mv (.c (i64 1)))])
 .ret) (.seq (.ops [q 15 (.mv (.t 1)), q 16 (.len (.t 15)), q 17 (.fld 0 (.t 2)), q 18 (.ld false 1 (.t 17)), q 19 (.bin .neq (.t 16) (.t 18)), q 14 (.mv (.t 19))])
 (.cond (.t 14) (.seq (.ops [q 4 (.mv (.c (i64 8)))])
 .ret) (.seq (.dops true (.tk (q 21 (.mv (.t 1))) (.tk (q 22 (.fld 2 (.t 2))) (.tk (q 23 (.ld false 1 (.t 22))) (.tk (q 26 (.fld 1 (.t 2))) (.tk (q 27 (.ld false 1 (.t 26))) (.sq (⟨(some 24), none, .call (.c (.func (.func 62) #[] #[])) [(.t 21), (.t 23)]⟩) (.sq (⟨(some 25), none, .call (.c (.func (.func 54) #[] #[])) [(.t 24)]⟩) (.tk (q 28 (.bin .neq (.t 25) (.t 27))) (.tk (q 20 (.mv (.t 28))) .nil))))))))))
 (.cond (.t 20) (.seq (.ops [q 4 (.mv (.c (i64 5)))])
 .ret) .skip)))))))
 (.seq (.ops [q 4 (.mv (.c (i64 0)))])
 .ret)))
theorem w_spec_PackageFits {args : List Value} {h : H} {Q : Value → H → Prop} (hl : args.length ≤ 29) (hk : wpc Tryz.prog b_spec_PackageFits (retw [.tmp 4] Q) (argsFr args) h) : AC Tryz.prog 18 args h Q :=
  AC.of_wpc mixedOrders Tryz.func18 (by kernel_rfl) (by kernel_rfl : prepF Tryz.prog Tryz.f18 = some ⟨29, [.tmp 4], b_spec_PackageFits⟩) hl hk

set_option maxHeartbeats 1600000 in
theorem specPackageFits_pc {h : H} {cs : List Value} {v : Value} {p : UPkg} {old : List (List UInt8)} (hp : RepR h (spPkg p) cs) (hv : Sl h v 1 (strs old)) (hs : p.steps.length ≤ 1048576) (hn : old.length ≤ 1048576) : PC Tryz.prog 18 [.agg cs.toArray, v] h (i64 (fitsOf p old)) := by
  obtain ⟨vs, rfl, a1⟩ := pkg_r.1 hp
  obtain ⟨av, cv, rfl⟩ := hv.shape
  have hl0 : (strs old).length = old.length := by simp
  rw [hl0] at hv
  skip
  have hpk := hp
  unfold fitsOf
  refine PC_of ?_
  refine w_spec_PackageFits (by simp) ?_
  unfold b_spec_PackageFits
  simp -implicitDefEqProofs only [go_sem, hl0]
  intro b2 hb_b2 n_b2
  simp -implicitDefEqProofs only [go_sem, hl0, hb_b2]
  refine (specPackageRight_pc (hpk.ext ((Ext.refl _).set' n_b2 _)) hs).use ?_
  by_cases h1 : pkgOk p
  rotate_left
  · simp -implicitDefEqProofs only [go_sem, h1, decide_false, false_and, not_false_eq_true, if_true, hl0, hb_b2]
    exact ((Ext.refl _).set' n_b2 _)
  simp -implicitDefEqProofs only [go_sem, h1, decide_true, true_and, hl0, hb_b2]
  refine (specImageRight_pc (hv.ext ((Ext.refl _).set' n_b2 _)) hn).use ?_
  by_cases h2 : imageOk old
  rotate_left
  · simp -implicitDefEqProofs only [go_sem, h2, decide_false, not_false_eq_true, if_true, hl0, hb_b2]
    exact ((Ext.refl _).set' n_b2 _)
  simp -implicitDefEqProofs only [go_sem, h2, decide_true, not_true_eq_false, if_false, hl0, hb_b2]
  by_cases h3 : (old.length : Int) = p.blocks
  rotate_left
  · simp -implicitDefEqProofs only [go_sem, h3, hl0, hb_b2]
    exact ⟨((Ext.refl _).set' n_b2 _), by simp [h1, h2, h3]⟩
  simp -implicitDefEqProofs only [go_sem, h3, not_true_eq_false, if_false, hl0, hb_b2]
  have hst : ∀ s ∈ p.steps, stepOk s old.length := by
    have := pkgOk_steps h1
    rw [h3]; exact this.2.2
  have hst' : ∀ s ∈ p.steps, stepOk s (old.length : Int) := hst
  refine AC_of (l07Apply_ac (hv.ext ((Ext.refl _).set' n_b2 _)) (a1.ext ((Ext.refl _).set' n_b2 _)) h2 hs hst) ?_
  rintro vr h4 - ⟨e4, f4⟩
  simp -implicitDefEqProofs only [go_sem, e4.2, hl0, hb_b2]
  refine (specImageDigest_pc f4.sl (applyB_ok h2 hst)).use ?_
  simp -implicitDefEqProofs only [go_sem, e4.2, hl0, hb_b2]
  by_cases h5 : shaL (applyB old p.steps).flatten = p.digest
  rotate_left
  · simp -implicitDefEqProofs only [go_sem, h5, hl0, hb_b2]
    exact ⟨(((Ext.refl _).set' n_b2 _)).trans e4, by simp [h1, h2, h3, h5]⟩
  · simp -implicitDefEqProofs only [go_sem, h5, hl0, hb_b2]
    exact ⟨(((Ext.refl _).set' n_b2 _)).trans e4, by simp [h1, h2, h3, h5]⟩
/-- impl.PackageFits -/
def b_impl_PackageFits : C := (.seq (.ops [⟨(some 2), none, .box (.t 0)⟩, q 4 (.mv (.c (i64 0)))])
 (.seq (.ops [q 5 (.ld true 3 (.t 2)), q 6 (.mv (.t 1)), ⟨(some 7), none, .call (.c (.func (.func 61) #[] #[])) [(.t 5), (.t 6)]⟩, q 4 (.mv (.t 7))])
 .ret))
theorem w_impl_PackageFits {args : List Value} {h : H} {Q : Value → H → Prop} (hl : args.length ≤ 8) (hk : wpc Tryz.prog b_impl_PackageFits (retw [.tmp 4] Q) (argsFr args) h) : AC Tryz.prog 17 args h Q :=
  AC.of_wpc mixedOrders Tryz.func17 (by kernel_rfl) (by kernel_rfl : prepF Tryz.prog Tryz.f17 = some ⟨8, [.tmp 4], b_impl_PackageFits⟩) hl hk

theorem implPackageFits_pc {h : H} (tb : Tabs h) {cs : List Value} {v : Value} {p : UPkg} {old : List (List UInt8)} (hp : RepR h (spPkg p) cs) (hv : Sl h v 1 (strs old)) (hs : p.steps.length ≤ 1048576) (hn : old.length ≤ 1048576) : PC Tryz.prog 17 [.agg cs.toArray, v] h (i64 (fitsOf p old)) := by
  obtain ⟨vs, rfl, a1⟩ := pkg_r.1 hp
  have hpk := hp
  refine PC_of ?_
  refine w_impl_PackageFits (by simp) ?_
  unfold b_impl_PackageFits
  simp -implicitDefEqProofs only [go_sem]
  intro b2 hb_b2 n_b2
  simp -implicitDefEqProofs only [go_sem, hb_b2]
  refine (packageFits_pc (tb.ext ((Ext.refl _).set' n_b2 _)) (hpk.ext ((Ext.refl _).set' n_b2 _)) (hv.ext ((Ext.refl _).set' n_b2 _)) hs hn).use ?_
  simp -implicitDefEqProofs only [go_sem, hb_b2]
  exact ((Ext.refl _).set' n_b2 _)
end Go.Proofs.YthjbhdmjfakfaaaGreatDoor

