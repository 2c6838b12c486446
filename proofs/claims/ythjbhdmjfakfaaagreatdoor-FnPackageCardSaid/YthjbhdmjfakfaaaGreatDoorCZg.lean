/- A helper of this seat's claims (contracts of the functions): what it shows is shown for every input that its statements name, on no other condition. -/
import Derived.Test.YthjbhdmjfakfaaaGreatDoorMCZ
import Derived.Test.YthjbhdmjfakfaaaGreatDoorCZd
set_option linter.unusedVariables false
set_option linter.unusedSimpArgs false
set_option maxRecDepth 100000
namespace Go.Proofs.YthjbhdmjfakfaaaGreatDoor
open Go.KH

/-! ## Steps from one image to another -/
theorem near_get {old : List (List UInt8)} (ho : imageOk old) {b : List UInt8} (h : 0 ≤ firstAt (nearP b) old) : ∃ k, ∃ hk : k < old.length, firstAt (nearP b) old = k ∧ at8 old k = old[k] := by
  obtain ⟨k, hk, e, _⟩ := firstAt_get h
  exact ⟨k, hk, e, by simp [at8, hk]⟩
/-- spec.l07For -/
def b_spec_l07For : C := (.seq (.ops [⟨(some 6), none, .alloc [(i64 0), (i64 0), (i64 0), (str [])]⟩])
 (.seq (.seq (.ops [q 9 (.mv (.t 2)), ⟨(some 10), none, .call (.c (.func (.func 188) #[] #[])) []⟩, q 11 (.bin .eql (.t 9) (.t 10))])
 (.cond (.t 11) (.seq (.ops [q 12 (.mv (.t 1)), q 13 (.build [(i64 0), (i64 0), (i64 0), (str [])] [(0, 1, (.c (i64 1))), (1, 1, (.t 12))]), ⟨none, none, .st 4 (.t 6) (.t 13)⟩])
 .ret) .skip))
 (.seq (.seq (.ops [q 7 (.mv (.c (i64 0)))])
 (.block 0 (.loop (.seq (.seq (.ops [q 14 (.mv (.t 7)), q 15 (.mv (.t 0)), q 16 (.len (.t 15)), q 17 (.bin .lss (.t 14) (.t 16))])
 (.cond (.t 17) .skip (.exit 0)))
 (.seq (.block 1 (.seq (.ops [q 20 (.mv (.t 0)), q 21 (.mv (.t 7)), q 22 (.idx 1 (.t 20) (.t 21)), q 23 (.ld false 1 (.t 22)), q 24 (.mv (.t 2)), q 25 (.bin .eql (.t 23) (.t 24))])
 (.cond (.t 25) (.seq (.ops [q 26 (.mv (.t 1)), q 27 (.mv (.t 7)), q 28 (.build [(i64 0), (i64 0), (i64 0), (str [])] [(0, 1, (.c (i64 3))), (1, 1, (.t 26)), (2, 1, (.t 27))]), ⟨none, none, .st 4 (.t 6) (.t 28)⟩])
 .ret) .skip)))
 (.ops [q 18 (.mv (.t 7)), q 19 (.bin .add (.t 18) (.c (i64 1))), q 7 (.mv (.t 19))]))))))
 (.seq (.seq (.ops [q 8 (.mv (.c (i64 0)))])
 (.block 2 (.loop (.seq (.seq (.ops [q 29 (.mv (.t 8)), q 30 (.mv (.t 0)), q 31 (.len (.t 30)), q 32 (.bin .lss (.t 29) (.t 31))])
 (.cond (.t 32) .skip (.exit 2)))
 (.seq (.block 3 (.seq (.ops [q 35 (.mv (.t 0)), q 36 (.mv (.t 8)), q 37 (.idx 1 (.t 35) (.t 36)), q 38 (.ld false 1 (.t 37)), q 39 (.mv (.t 2)), ⟨(some 40), none, .call (.c (.func (.func 189) #[] #[])) [(.t 38), (.t 39)]⟩, q 41 (.bin .leq (.t 40) (.c (i64 2)))])
 (.cond (.t 41) (.seq (.ops [q 42 (.mv (.t 1)), q 43 (.mv (.t 8)), q 44 (.mv (.t 0)), q 45 (.mv (.t 8)), q 46 (.idx 1 (.t 44) (.t 45)), q 47 (.ld false 1 (.t 46)), q 48 (.mv (.t 2)), ⟨(some 49), none, .call (.c (.func (.func 190) #[] #[])) [(.t 47), (.t 48)]⟩, q 50 (.build [(i64 0), (i64 0), (i64 0), (str [])] [(0, 1, (.c (i64 4))), (1, 1, (.t 42)), (2, 1, (.t 43)), (3, 1, (.t 49))]), ⟨none, none, .st 4 (.t 6) (.t 50)⟩])
 .ret) .skip)))
 (.ops [q 33 (.mv (.t 8)), q 34 (.bin .add (.t 33) (.c (i64 1))), q 8 (.mv (.t 34))]))))))
 (.seq (.ops [q 51 (.mv (.t 1)), q 52 (.mv (.t 2)), q 53 (.build [(i64 0), (i64 0), (i64 0), (str [])] [(0, 1, (.c (i64 2))), (1, 1, (.t 51)), (3, 1, (.t 52))]), ⟨none, none, .st 4 (.t 6) (.t 53)⟩])
 .ret)))))
theorem w_spec_l07For {args : List Value} {h : H} {Q : Value → H → Prop} (hl : args.length ≤ 54) (hk : wpc Tryz.prog b_spec_l07For (retw [.cell 6 true 4] Q) (argsFr args) h) : AC Tryz.prog 111 args h Q :=
  AC.of_wpc mixedOrders Tryz.func111 (by kernel_rfl) (by kernel_rfl : prepF Tryz.prog Tryz.f111 = some ⟨54, [.cell 6 true 4], b_spec_l07For⟩) hl hk

set_option maxHeartbeats 1600000 in
theorem l07For_pc {h : H} {v : Value} {old : List (List UInt8)} {y : List UInt8} {d : Nat} (hv : Sl h v 1 (strs old)) (ho : imageOk old) (hy : y.length = 8) : PC Tryz.prog 111 [v, i64 d, str y] h (.agg (stepFor old d y).cells.toArray) := by
  have hb := ho.1
  obtain ⟨a, c, bo, o, rfl, hcap, h2, h3⟩ := hv
  simp only [List.length_map] at h2
  refine PC_of ?_
  unfold stepFor
  refine w_spec_l07For (by simp) ?_
  unfold b_spec_l07For
  simp -implicitDefEqProofs only [go_sem, List.length_map]
  intro b6 hb_b6 n_b6
  simp -implicitDefEqProofs only [go_sem, hb_b6]
  refine (l07Zero_pc _).use ?_
  simp -implicitDefEqProofs only [go_sem, hb_b6]
  refine Br.of (fun h1 => ?_) (fun h1 => ?_)
  · simp -implicitDefEqProofs only [go_sem, h1, hb_b6]
    exact ((Ext.refl _).set' n_b6 _)
  rw [if_neg h1]
  simp -implicitDefEqProofs only [go_sem, hb_b6]
  generalize hH : h.set b6 ⟨[i64 0, i64 0, i64 0, str []], 4⟩ = hh at *
  have eH : Ext h hh := by rw [← hH]; exact ((Ext.refl _).set' n_b6 _)
  have gH : hh.get b6 = some ⟨[i64 0, i64 0, i64 0, str []], 4⟩ := by rw [← hH]; exact H.set_get_same _ _ _
  have bH : hh.base ≤ b6 := by rw [eH.1]; exact hb_b6
  refine loopW_of (fun m f h' => ∃ k, m + k = old.length ∧ h' = hh ∧ f 0 = .slice a old.length c ∧ f 1 = i64 d ∧ f 2 = str y ∧ f 6 = ptr b6 0 ∧ f 7 = i64 k ∧ ∀ i, (hi : i < old.length) → i < k → isP y old[i] = false) old.length
    ⟨0, by simp, rfl, by simp -implicitDefEqProofs only [go_sem, List.length_map, hb_b6], by simp -implicitDefEqProofs only [go_sem, hb_b6], by simp -implicitDefEqProofs only [go_sem, hb_b6], by simp -implicitDefEqProofs only [go_sem, hb_b6], by simp -implicitDefEqProofs only [go_sem, hb_b6]; rfl, by omega⟩ ?_
  rintro m f h' ⟨k, hm, rfl, f0, f1, f2, f6, f7, hno⟩
  skip
  by_cases hk : k < old.length
  · have e1 := ldc_sub eH.2 (h3 k [str old[k]] (by simp [hk]))
    simp -implicitDefEqProofs only [go_sem, hk, e1, hb_b6, f0, f1, f2, f6, f7, h2, Int.ofNat_lt, Int.natCast_nonneg, gH, ldc_get gH, stc_get gH, bH]
    refine Br.of (fun h4 => ?_) (fun h4 => ?_)
    · have hq := firstAt_some (p := isP y) hk (by simp [isP, h4]) (fun i hi => hno i (by omega) hi)
      rw [if_pos (by rw [hq]; omega), hq]
      simp -implicitDefEqProofs only [go_sem, h4, hb_b6, f0, f1, f2, f6, f7, h2, Int.ofNat_lt, Int.natCast_nonneg, gH, ldc_get gH, stc_get gH, bH]
      exact eH.set' n_b6 _
    · simp -implicitDefEqProofs only [go_sem, wrap_i64 (show -(9223372036854775808 : Int) ≤ ((k : Int) + 1) by omega) (show ((k : Int) + 1) < 9223372036854775808 by omega), hb_b6, f0, f1, f2, f6, f7, h2, Int.ofNat_lt, Int.natCast_nonneg, gH, ldc_get gH, stc_get gH, bH]
      refine ⟨m - 1, by omega, _, Ext.refl _, k + 1, by omega, rfl, rfl, fun i hi1 hi2 => ?_⟩
      by_cases e : i = k
      · subst e; exact decide_eq_false (fun e => h4 e.symm)
      · exact hno i hi1 (by omega)
  have e : k = old.length := by omega
  subst e
  have hq := firstAt_none (fun i hi => hno i hi hi)
  rw [if_neg (by rw [hq]; omega)]
  clear hno hq hk
  simp -implicitDefEqProofs only [go_sem, Nat.lt_irrefl, hb_b6, f0, f1, f2, f6, f7, h2, Int.ofNat_lt, Int.natCast_nonneg, gH, ldc_get gH, stc_get gH, bH]
  refine loopW_of (fun m f h2 => ∃ k, m + k = old.length ∧ h2 = h' ∧ f 0 = .slice a old.length c ∧ f 1 = i64 d ∧ f 2 = str y ∧ f 6 = ptr b6 0 ∧ f 8 = i64 k ∧ ∀ i, (hi : i < old.length) → i < k → nearP y old[i] = false) old.length
    ⟨0, by simp, rfl, by simp -implicitDefEqProofs only [go_sem, f0, hb_b6, f0, f1, f2, f6, f7, h2, Int.ofNat_lt, Int.natCast_nonneg, gH, ldc_get gH, stc_get gH, bH], by simp -implicitDefEqProofs only [go_sem, f1, hb_b6, f0, f1, f2, f6, f7, h2, Int.ofNat_lt, Int.natCast_nonneg, gH, ldc_get gH, stc_get gH, bH], by simp -implicitDefEqProofs only [go_sem, f2, hb_b6, f0, f1, f2, f6, f7, h2, Int.ofNat_lt, Int.natCast_nonneg, gH, ldc_get gH, stc_get gH, bH], by simp -implicitDefEqProofs only [go_sem, f6, hb_b6, f0, f1, f2, f6, f7, h2, Int.ofNat_lt, Int.natCast_nonneg, gH, ldc_get gH, stc_get gH, bH], by simp -implicitDefEqProofs only [go_sem, hb_b6, f0, f1, f2, f6, f7, h2, Int.ofNat_lt, Int.natCast_nonneg, gH, ldc_get gH, stc_get gH, bH]; rfl, by omega⟩ ?_
  clear f0 f1 f2 f6 f7 hm m f
  rintro m f h' ⟨k, hm, rfl, f0, f1, f2, f6, f8, hno⟩
  skip
  skip
  by_cases hk : k < old.length
  · have e1 := ldc_sub eH.2 (h3 k [str old[k]] (by simp [hk]))
    have h8 := ho.2 _ (List.getElem_mem hk)
    have hcl : (xorB old[k] y).count 0 ≤ 8 := by
      have := diff_xor h8 hy; omega
    simp -implicitDefEqProofs only [go_sem, hk, e1, hb_b6, f0, f1, f2, f6, h2, Int.ofNat_lt, Int.natCast_nonneg, gH, ldc_get gH, stc_get gH, bH, f0, f1, f2, f6, f8]
    refine (other_pc h8 hy).use ?_
    simp -implicitDefEqProofs only [go_sem, hb_b6, f0, f1, f2, f6, h2, Int.ofNat_lt, Int.natCast_nonneg, gH, ldc_get gH, stc_get gH, bH, f0, f1, f2, f6, f8]
    have ha : at8 old k = old[k] := by simp [at8, hk]
    refine Br.of (fun h4 => ?_) (fun h4 => ?_)
    · have hq := firstAt_some (p := nearP y) hk (decide_eq_true (by omega)) (fun i hi => hno i (by omega) hi)
      rw [if_pos (by rw [hq]; omega), hq, ha]
      simp -implicitDefEqProofs only [go_sem, hk, e1, hb_b6, f0, f1, f2, f6, h2, Int.ofNat_lt, Int.natCast_nonneg, gH, ldc_get gH, stc_get gH, bH, f0, f1, f2, f6, f8]
      refine (specXored_pc _ h8 hy).use ?_
      simp -implicitDefEqProofs only [go_sem, hb_b6, f0, f1, f2, f6, h2, Int.ofNat_lt, Int.natCast_nonneg, gH, ldc_get gH, stc_get gH, bH, f0, f1, f2, f6, f8]
      exact eH.set' n_b6 _
    · simp -implicitDefEqProofs only [go_sem, wrap_i64 (show -(9223372036854775808 : Int) ≤ ((k : Int) + 1) by omega) (show ((k : Int) + 1) < 9223372036854775808 by omega), hb_b6, f0, f1, f2, f6, h2, Int.ofNat_lt, Int.natCast_nonneg, gH, ldc_get gH, stc_get gH, bH, f0, f1, f2, f6, f8]
      refine ⟨m - 1, by omega, _, Ext.refl _, k + 1, by omega, rfl, rfl, fun i hi1 hi2 => ?_⟩
      by_cases e : i = k
      · subst e; exact decide_eq_false (by omega)
      · exact hno i hi1 (by omega)
  have e : k = old.length := by omega
  subst e
  have hq := firstAt_none (fun i hi => hno i hi hi)
  rw [if_neg (by rw [hq]; omega)]
  simp -implicitDefEqProofs only [go_sem, Nat.lt_irrefl, hb_b6, f0, f1, f2, f6, h2, Int.ofNat_lt, Int.natCast_nonneg, gH, ldc_get gH, stc_get gH, bH, f0, f1, f2, f6, f8]
  exact eH.set' n_b6 _
/-- spec.StepsFor -/
def b_spec_StepsFor : C := (.seq (.ops [q 4 (.mv (.c nils))])
 (.seq (.ops [⟨(some 7), none, .bsl 0 [] []⟩, q 5 (.mv (.t 7))])
 (.seq (.seq (.ops [q 8 (.mv (.t 0)), ⟨(some 9), none, .call (.c (.func (.func 52) #[] #[])) [(.t 8)]⟩, q 10 (.un .not (.t 9)), q 11 (.mv (.t 10)), qg 12 11 false (.mv (.t 1)), ⟨(some 13), (some (11, false)), .call (.c (.func (.func 52) #[] #[])) [(.t 12)]⟩, qg 14 11 false (.un .not (.t 13)), q 15 (.pick (.t 11) (.c (.bool true)) (.t 14)), q 16 (.mv (.t 15)), qg 17 16 false (.mv (.t 0)), qg 18 16 false (.len (.t 17)), qg 19 16 false (.mv (.t 1)), qg 20 16 false (.len (.t 19)), qg 21 16 false (.bin .neq (.t 18) (.t 20)), q 22 (.pick (.t 16) (.c (.bool true)) (.t 21))])
 (.cond (.t 22) (.seq (.ops [q 23 (.mv (.t 5)), q 4 (.mv (.t 23))])
 .ret) .skip))
 (.seq (.seq (.ops [q 6 (.mv (.c (i64 0)))])
 (.block 0 (.loop (.seq (.seq (.ops [q 24 (.mv (.t 6)), q 25 (.mv (.t 0)), q 26 (.len (.t 25)), q 27 (.bin .lss (.t 24) (.t 26))])
 (.cond (.t 27) .skip (.exit 0)))
 (.seq (.block 1 (.seq (.dops true (.tk (q 30 (.mv (.t 0))) (.tk (q 31 (.mv (.t 6))) (.tk (q 32 (.idx 1 (.t 30) (.t 31))) (.tk (q 33 (.ld false 1 (.t 32))) (.tk (q 34 (.mv (.t 1))) (.tk (q 35 (.mv (.t 6))) (.tk (q 36 (.idx 1 (.t 34) (.t 35))) (.tk (q 37 (.ld false 1 (.t 36))) (.tk (q 38 (.bin .neq (.t 33) (.t 37))) .nil))))))))))
 (.cond (.t 38) (.ops [q 39 (.mv (.t 5)), q 40 (.mv (.t 0)), q 41 (.mv (.t 6)), q 42 (.mv (.t 1)), q 43 (.mv (.t 6)), q 44 (.idx 1 (.t 42) (.t 43)), q 45 (.ld false 1 (.t 44)), ⟨(some 46), none, .call (.c (.func (.func 111) #[] #[])) [(.t 40), (.t 41), (.t 45)]⟩, ⟨(some 47), none, .bsl 1 [(i64 0), (i64 0), (i64 0), (str [])] [(0, 4, (.t 46))]⟩, ⟨(some 48), none, .app 4 40 (.t 39) (.t 47)⟩, q 5 (.mv (.t 48))]) .skip)))
 (.ops [q 28 (.mv (.t 6)), q 29 (.bin .add (.t 28) (.c (i64 1))), q 6 (.mv (.t 29))]))))))
 (.seq (.ops [q 49 (.mv (.t 5)), q 4 (.mv (.t 49))])
 .ret)))))
theorem w_spec_StepsFor {args : List Value} {h : H} {Q : Value → H → Prop} (hl : args.length ≤ 50) (hk : wpc Tryz.prog b_spec_StepsFor (retw [.tmp 4] Q) (argsFr args) h) : AC Tryz.prog 53 args h Q :=
  AC.of_wpc mixedOrders Tryz.func53 (by kernel_rfl) (by kernel_rfl : prepF Tryz.prog Tryz.f53 = some ⟨50, [.tmp 4], b_spec_StepsFor⟩) hl hk

theorem specStepsFor_ac {h : H} {v u : Value} {old fresh : List (List UInt8)} (hv : Sl h v 1 (strs old)) (hu : Sl h u 1 (strs fresh)) (ho : imageOk old) (hf : imageOk fresh) (hl : old.length = fresh.length) : AC Tryz.prog 53 [v, u] h fun r h' => Own h h' r 4 ((stepsTo old fresh old.length).map UStep.cells) ∧ Ext h h' := by
  have hb := ho.1
  have hvv := hv
  have hl1 : (strs old).length = old.length := by simp
  have hl2 : (strs fresh).length = old.length := by simp [hl]
  obtain ⟨a, c, bo, o, rfl, hcap, h2, h3⟩ := hv
  obtain ⟨a2, c2, bo2, o2, rfl, hcap2, h22, h32⟩ := hu
  rw [hl1] at h2 hvv
  rw [hl2] at h22
  have huu : Sl h (.slice a2 old.length c2) 1 (strs fresh) := ⟨a2, c2, bo2, o2, by rw [hl2], hcap2, by rw [hl2]; exact h22, h32⟩
  skip
  refine w_spec_StepsFor (by simp) ?_
  unfold b_spec_StepsFor
  simp -implicitDefEqProofs only [go_sem, hl1, hl2]
  intro b7 hb7 n7
  have e7 := (Ext.refl h).set n7 ⟨[], 0⟩
  simp -implicitDefEqProofs only [go_sem, hl1, hl2]
  refine (specImageRight_pc (hvv.ext e7) (by omega)).use ?_
  simp -implicitDefEqProofs only [go_sem, decide_eq_true ho, hl1, hl2]
  refine (specImageRight_pc (huu.ext e7) (by omega)).use ?_
  simp -implicitDefEqProofs only [go_sem, decide_eq_true hf, hl1, hl2]
  refine loopW_of (fun m f h' => ∃ k w, m + k = old.length ∧ Ext h h' ∧ f 0 = .slice a old.length c ∧ f 1 = .slice a2 old.length c2 ∧ f 5 = w ∧ f 6 = i64 k ∧ Own h h' w 4 ((stepsTo old fresh k).map UStep.cells)) old.length
    ⟨0, sl b7 0 0 0, by simp, e7, by simp -implicitDefEqProofs only [go_sem, hl1, hl1, hl2], by simp -implicitDefEqProofs only [go_sem, hl2, hl1, hl2], by simp -implicitDefEqProofs only [go_sem, hl1, hl2], by simp -implicitDefEqProofs only [go_sem, hl1, hl2]; rfl, .inr ⟨b7, 0, 0, rfl, Nat.le_refl _, by assumption, n7, H.set_get_same _ _ _, by simp, Wid.nil 4⟩⟩ ?_
  rintro m f h' ⟨k, w, hm, ea, f0, f1, rfl, f6, ow⟩
  obtain ⟨aw, cw, f5⟩ := ow.shape
  have hsl := stepsTo_len old fresh k
  have hsw : ((stepsTo old fresh k).map UStep.cells).length = (stepsTo old fresh k).length := by simp
  rw [f5] at ow
  rw [hsw] at f5 ow
  skip
  by_cases hk : k < old.length
  · have hk2 : k < fresh.length := by omega
    have e1 := ldc_sub ea.2 (h3 k [str old[k]] (by simp [hk]))
    have e2 := ldc_sub ea.2 (h32 k [str fresh[k]] (by simp [hk2]))
    have g1 : old[k]? = some old[k] := List.getElem?_eq_getElem hk
    have g2 : fresh[k]? = some fresh[k] := List.getElem?_eq_getElem hk2
    have g3 : fresh.getD k [] = fresh[k] := by simp [List.getD, g2]
    simp -implicitDefEqProofs only [go_sem, hk, e1, e2, hl1, hl2, f0, f1, f5, f6, h2, h22, Int.ofNat_lt, Int.natCast_nonneg]
    refine Br.of (fun h4 => ?_) (fun h4 => ?_)
    · simp -implicitDefEqProofs only [go_sem, wrap_i64 (show -(9223372036854775808 : Int) ≤ ((k : Int) + 1) by omega) (show ((k : Int) + 1) < 9223372036854775808 by omega), hl1, hl2, f0, f1, f5, f6, h2, h22, Int.ofNat_lt, Int.natCast_nonneg]
      exact ⟨m - 1, by omega, _, Ext.refl _, k + 1, _, by omega, ea, rfl, rfl, by rw [stepsTo_same (by rw [g1, g2, h4])]; exact ow⟩
    · simp -implicitDefEqProofs only [go_sem, hk, e2, hl1, hl2, f0, f1, f5, f6, h2, h22, Int.ofNat_lt, Int.natCast_nonneg]
      refine (l07For_pc (hvv.ext ea) ho (hf.2 _ (List.getElem_mem hk2))).use ?_
      have hnew := stepsTo_new (old := old) (fresh := fresh) (k := k) (by rw [g1, g2]; exact fun e => h4 (Option.some.inj e))
      rw [g3] at hnew
      simp -implicitDefEqProofs only [go_sem, hl1, hl2, f0, f1, f5, f6, h2, h22, Int.ofNat_lt, Int.natCast_nonneg]
      intro bx hbx nx
      simp -implicitDefEqProofs only [go_sem, hl1, hl2, f0, f1, f5, f6, h2, h22, Int.ofNat_lt, Int.natCast_nonneg]
      refine appW_own (new := [(stepFor old k fresh[k]).cells]) (ea.set nx _) (ow.ext ((Ext.refl _).set nx _)) rfl (by intro r hr; simp at hr; subst hr; rfl) rfl (by rw [hsw]; simp; omega) ?_
      intro v' h5 e5 o5 _
      simp -implicitDefEqProofs only [go_sem, wrap_i64 (show -(9223372036854775808 : Int) ≤ ((k : Int) + 1) by omega) (show ((k : Int) + 1) < 9223372036854775808 by omega), hl1, hl2, f0, f1, f5, f6, h2, h22, Int.ofNat_lt, Int.natCast_nonneg]
      refine ⟨m - 1, by omega, _, Ext.refl _, k + 1, v', by omega, e5, rfl, rfl, ?_⟩
      rw [hnew, List.map_append]
      exact o5
  obtain rfl : k = old.length := by omega
  simp -implicitDefEqProofs only [go_sem, Nat.lt_irrefl, hl1, hl2, f0, f1, f5, f6, h2, h22, Int.ofNat_lt, Int.natCast_nonneg]
  exact ⟨ow, ea⟩
end Go.Proofs.YthjbhdmjfakfaaaGreatDoor
