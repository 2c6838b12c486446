/- A helper of this seat's claims (contracts of the functions): what it shows is shown for every input that its statements name, on no other condition. -/
import Derived.Test.YthjbhdmjfakfaaaGreatDoorMCRe
import Derived.Test.YthjbhdmjfakfaaaGreatDoorMCZc
import Derived.Test.YthjbhdmjfakfaaaGreatDoorMC08
import Derived.Test.YthjbhdmjfakfaaaGreatDoorKD
import Derived.Test.YthjbhdmjfakfaaaGreatDoorMC13b
set_option linter.unusedVariables false
set_option linter.unusedSimpArgs false
set_option maxRecDepth 100000
namespace Go.Proofs.YthjbhdmjfakfaaaGreatDoor
open Go.KH

/-! ## Steps from one image to another -/
theorem near_get {old : List (List UInt8)} (ho : imageOk old) {b : List UInt8} (h : 0 ≤ firstAt (nearP b) old) : ∃ k, ∃ hk : k < old.length, firstAt (nearP b) old = k ∧ at8 old k = old[k] := by
  obtain ⟨k, hk, e, _⟩ := firstAt_get h
  exact ⟨k, hk, e, by simp [at8, hk]⟩
def b_spec_l07For : C := (jo [⟨(some 6), none, .alloc [(i64 0), (i64 0), (i64 0), (str [])]⟩]
 (.seq (jo [jm 9 2, jc 10 188 [], jb 11 .eql 9 10]
 (.cond (.t 11) (jo [jm 12 1, q 13 (.build [(i64 0), (i64 0), (i64 0), (str [])] [(0, 1, (.c (i64 1))), (1, 1, (.t 12))]), js 4 6 13]
 .ret) .skip))
 (.seq (jo [q 7 (.mv (.c (i64 0)))]
 (.block 0 (.loop (.seq (jo [jm 14 7, jm 15 0, q 16 (.len (.t 15)), jb 17 .lss 14 16]
 (.cond (.t 17) .skip (.exit 0)))
 (.seq (.block 1 (jo [jm 20 0, jm 21 7, q 22 (.idx 1 (.t 20) (.t 21)), jl 23 22, jm 24 2, jb 25 .eql 23 24]
 (.cond (.t 25) (jo [jm 26 1, jm 27 7, q 28 (.build [(i64 0), (i64 0), (i64 0), (str [])] [(0, 1, (.c (i64 3))), (1, 1, (.t 26)), (2, 1, (.t 27))]), js 4 6 28]
 .ret) .skip)))
 (.ops [jm 18 7, jk 19 .add 18 1, jm 7 19]))))))
 (.seq (jo [q 8 (.mv (.c (i64 0)))]
 (.block 2 (.loop (.seq (jo [jm 29 8, jm 30 0, q 31 (.len (.t 30)), jb 32 .lss 29 31]
 (.cond (.t 32) .skip (.exit 2)))
 (.seq (.block 3 (jo [jm 35 0, jm 36 8, q 37 (.idx 1 (.t 35) (.t 36)), jl 38 37, jm 39 2, jc 40 189 [(.t 38), (.t 39)], jk 41 .leq 40 2]
 (.cond (.t 41) (jo [jm 42 1, jm 43 8, jm 44 0, jm 45 8, q 46 (.idx 1 (.t 44) (.t 45)), jl 47 46, jm 48 2, jc 49 190 [(.t 47), (.t 48)], q 50 (.build [(i64 0), (i64 0), (i64 0), (str [])] [(0, 1, (.c (i64 4))), (1, 1, (.t 42)), (2, 1, (.t 43)), (3, 1, (.t 49))]), js 4 6 50]
 .ret) .skip)))
 (.ops [jm 33 8, jk 34 .add 33 1, jm 8 34]))))))
 (jo [jm 51 1, jm 52 2, q 53 (.build [(i64 0), (i64 0), (i64 0), (str [])] [(0, 1, (.c (i64 2))), (1, 1, (.t 51)), (3, 1, (.t 52))]), js 4 6 53]
 .ret)))))
theorem w_spec_l07For : Wk Tryz.prog 111 54 [.cell 6 true 4] b_spec_l07For := Wk.of mixedOrders Tryz.func111 (by kernel_rfl) (by kernel_rfl)

set_option maxHeartbeats 1600000 in
theorem l07For_pc {h : H} {v : Value} {old : List (List UInt8)} {y : List UInt8} {d : Nat} (hv : Sl h v 1 (strs old)) (ho : imageOk old) (hy : y.length = 8) : PC Tryz.prog 111 [v, i64 d, str y] h (.agg (stepFor old d y).cells.toArray) := by
  have hb := ho.1
  obtain ⟨a, c, bo, o, rfl, hcap, h2, h3⟩ := hv
  simp only [List.length_map] at h2
  refine PC_of ?_
  unfold stepFor
  refine w_spec_l07For (by simp) ?_
  unfold b_spec_l07For
  simp -implicitDefEqProofs only [go_sem, List.length_map]
  intro b6 hb_b6 n_b6
  simp -implicitDefEqProofs only [go_sem, hb_b6]
  refine (l07Zero_pc _).use ?_
  simp -implicitDefEqProofs only [go_sem, hb_b6]
  refine Br.of (fun h1 => ?_) (fun h1 => ?_)
  · simp -implicitDefEqProofs only [go_sem, h1, hb_b6]
    exact ((Ext.refl _).set' n_b6 _)
  rw [if_neg h1]
  simp -implicitDefEqProofs only [go_sem, hb_b6]
  generalize hH : h.set b6 ⟨[i64 0, i64 0, i64 0, str []], 4⟩ = hh at *
  have eH : Ext h hh := by rw [← hH]; exact ((Ext.refl _).set' n_b6 _)
  have gH : hh.get b6 = some ⟨[i64 0, i64 0, i64 0, str []], 4⟩ := by rw [← hH]; exact H.set_get_same _ _ _
  have bH : hh.base ≤ b6 := by rw [eH.1]; exact hb_b6
  refine loopW_of (fun m f h' => ∃ k, m + k = old.length ∧ h' = hh ∧ f 0 = .slice a old.length c ∧ f 1 = i64 d ∧ f 2 = str y ∧ f 6 = ptr b6 0 ∧ f 7 = i64 k ∧ ∀ i, (hi : i < old.length) → i < k → isP y old[i] = false) old.length
    ⟨0, by simp, rfl, by simp -implicitDefEqProofs only [go_sem, List.length_map, hb_b6], by simp -implicitDefEqProofs only [go_sem, hb_b6], by simp -implicitDefEqProofs only [go_sem, hb_b6], by simp -implicitDefEqProofs only [go_sem, hb_b6], by simp -implicitDefEqProofs only [go_sem, hb_b6]; rfl, by omega⟩ ?_
  rintro m f h' ⟨k, hm, rfl, f0, f1, f2, f6, f7, hno⟩
  skip
  by_cases hk : k < old.length
  · have e1 := ldc_sub eH.2 (h3 k [str old[k]] (by simp [hk]))
    simp -implicitDefEqProofs only [go_sem, hk, e1, hb_b6, f0, f1, f2, f6, f7, h2, Int.ofNat_lt, Int.natCast_nonneg, gH, ldc_get gH, stc_get gH, bH]
    refine Br.of (fun h4 => ?_) (fun h4 => ?_)
    · have hq := firstAt_some (p := isP y) hk (by simp [isP, h4]) (fun i hi => hno i (by omega) hi)
      rw [if_pos (by rw [hq]; omega), hq]
      simp -implicitDefEqProofs only [go_sem, h4, hb_b6, f0, f1, f2, f6, f7, h2, Int.ofNat_lt, Int.natCast_nonneg, gH, ldc_get gH, stc_get gH, bH]
      exact eH.set' n_b6 _
    · simp -implicitDefEqProofs only [go_sem, wrap_i64 (show -(9223372036854775808 : Int) ≤ ((k : Int) + 1) by omega) (show ((k : Int) + 1) < 9223372036854775808 by omega), hb_b6, f0, f1, f2, f6, f7, h2, Int.ofNat_lt, Int.natCast_nonneg, gH, ldc_get gH, stc_get gH, bH]
      refine ⟨m - 1, by omega, _, Ext.refl _, k + 1, by omega, rfl, rfl, fun i hi1 hi2 => ?_⟩
      by_cases e : i = k
      · subst e; exact decide_eq_false (fun e => h4 e.symm)
      · exact hno i hi1 (by omega)
  have e : k = old.length := by omega
  subst e
  have hq := firstAt_none (fun i hi => hno i hi hi)
  rw [if_neg (by rw [hq]; omega)]
  clear hno hq hk
  simp -implicitDefEqProofs only [go_sem, Nat.lt_irrefl, hb_b6, f0, f1, f2, f6, f7, h2, Int.ofNat_lt, Int.natCast_nonneg, gH, ldc_get gH, stc_get gH, bH]
  refine loopW_of (fun m f h2 => ∃ k, m + k = old.length ∧ h2 = h' ∧ f 0 = .slice a old.length c ∧ f 1 = i64 d ∧ f 2 = str y ∧ f 6 = ptr b6 0 ∧ f 8 = i64 k ∧ ∀ i, (hi : i < old.length) → i < k → nearP y old[i] = false) old.length
    ⟨0, by simp, rfl, by simp -implicitDefEqProofs only [go_sem, f0, hb_b6, f0, f1, f2, f6, f7, h2, Int.ofNat_lt, Int.natCast_nonneg, gH, ldc_get gH, stc_get gH, bH], by simp -implicitDefEqProofs only [go_sem, f1, hb_b6, f0, f1, f2, f6, f7, h2, Int.ofNat_lt, Int.natCast_nonneg, gH, ldc_get gH, stc_get gH, bH], by simp -implicitDefEqProofs only [go_sem, f2, hb_b6, f0, f1, f2, f6, f7, h2, Int.ofNat_lt, Int.natCast_nonneg, gH, ldc_get gH, stc_get gH, bH], by simp -implicitDefEqProofs only [go_sem, f6, hb_b6, f0, f1, f2, f6, f7, h2, Int.ofNat_lt, Int.natCast_nonneg, gH, ldc_get gH, stc_get gH, bH], by simp -implicitDefEqProofs only [go_sem, hb_b6, f0, f1, f2, f6, f7, h2, Int.ofNat_lt, Int.natCast_nonneg, gH, ldc_get gH, stc_get gH, bH]; rfl, by omega⟩ ?_
  clear f0 f1 f2 f6 f7 hm m f
  rintro m f h' ⟨k, hm, rfl, f0, f1, f2, f6, f8, hno⟩
  skip
  skip
  by_cases hk : k < old.length
  · have e1 := ldc_sub eH.2 (h3 k [str old[k]] (by simp [hk]))
    have h8 := ho.2 _ (List.getElem_mem hk)
    have hcl : (xorB old[k] y).count 0 ≤ 8 := by
      have := diff_xor h8 hy; omega
    simp -implicitDefEqProofs only [go_sem, hk, e1, hb_b6, f0, f1, f2, f6, h2, Int.ofNat_lt, Int.natCast_nonneg, gH, ldc_get gH, stc_get gH, bH, f0, f1, f2, f6, f8]
    refine (other_pc h8 hy).use ?_
    simp -implicitDefEqProofs only [go_sem, hb_b6, f0, f1, f2, f6, h2, Int.ofNat_lt, Int.natCast_nonneg, gH, ldc_get gH, stc_get gH, bH, f0, f1, f2, f6, f8]
    have ha : at8 old k = old[k] := by simp [at8, hk]
    refine Br.of (fun h4 => ?_) (fun h4 => ?_)
    · have hq := firstAt_some (p := nearP y) hk (decide_eq_true (by omega)) (fun i hi => hno i (by omega) hi)
      rw [if_pos (by rw [hq]; omega), hq, ha]
      simp -implicitDefEqProofs only [go_sem, hk, e1, hb_b6, f0, f1, f2, f6, h2, Int.ofNat_lt, Int.natCast_nonneg, gH, ldc_get gH, stc_get gH, bH, f0, f1, f2, f6, f8]
      refine (specXored_pc _ h8 hy).use ?_
      simp -implicitDefEqProofs only [go_sem, hb_b6, f0, f1, f2, f6, h2, Int.ofNat_lt, Int.natCast_nonneg, gH, ldc_get gH, stc_get gH, bH, f0, f1, f2, f6, f8]
      exact eH.set' n_b6 _
    · simp -implicitDefEqProofs only [go_sem, wrap_i64 (show -(9223372036854775808 : Int) ≤ ((k : Int) + 1) by omega) (show ((k : Int) + 1) < 9223372036854775808 by omega), hb_b6, f0, f1, f2, f6, h2, Int.ofNat_lt, Int.natCast_nonneg, gH, ldc_get gH, stc_get gH, bH, f0, f1, f2, f6, f8]
      refine ⟨m - 1, by omega, _, Ext.refl _, k + 1, by omega, rfl, rfl, fun i hi1 hi2 => ?_⟩
      by_cases e : i = k
      · subst e; exact decide_eq_false (by omega)
      · exact hno i hi1 (by omega)
  have e : k = old.length := by omega
  subst e
  have hq := firstAt_none (fun i hi => hno i hi hi)
  rw [if_neg (by rw [hq]; omega)]
  simp -implicitDefEqProofs only [go_sem, Nat.lt_irrefl, hb_b6, f0, f1, f2, f6, h2, Int.ofNat_lt, Int.natCast_nonneg, gH, ldc_get gH, stc_get gH, bH, f0, f1, f2, f6, f8]
  exact eH.set' n_b6 _
def b_spec_StepsFor : C := (jo [q 4 (.mv (.c nils))]
 (jo [⟨(some 7), none, .bsl 0 [] []⟩, jm 5 7]
 (.seq (jo [jm 8 0, jc 9 52 [(.t 8)], q 10 (.un .not (.t 9)), jm 11 10, qg 12 11 false (.mv (.t 1)), jcg 13 11 false 52 [(.t 12)], qg 14 11 false (.un .not (.t 13)), q 15 (.pick (.t 11) (.c (.bool true)) (.t 14)), jm 16 15, qg 17 16 false (.mv (.t 0)), qg 18 16 false (.len (.t 17)), qg 19 16 false (.mv (.t 1)), qg 20 16 false (.len (.t 19)), qg 21 16 false (.bin .neq (.t 18) (.t 20)), q 22 (.pick (.t 16) (.c (.bool true)) (.t 21))]
 (.cond (.t 22) (jo [jm 23 5, jm 4 23]
 .ret) .skip))
 (.seq (jo [q 6 (.mv (.c (i64 0)))]
 (.block 0 (.loop (.seq (jo [jm 24 6, jm 25 0, q 26 (.len (.t 25)), jb 27 .lss 24 26]
 (.cond (.t 27) .skip (.exit 0)))
 (.seq (.block 1 (.seq (.dops true (.tk (jm 30 0) (.tk (jm 31 6) (.tk (q 32 (.idx 1 (.t 30) (.t 31))) (.tk (jl 33 32) (.tk (jm 34 1) (.tk (jm 35 6) (.tk (q 36 (.idx 1 (.t 34) (.t 35))) (.tk (jl 37 36) (.tk (jb 38 .neq 33 37) .nil))))))))))
 (.cond (.t 38) (.ops [jm 39 5, jm 40 0, jm 41 6, jm 42 1, jm 43 6, q 44 (.idx 1 (.t 42) (.t 43)), jl 45 44, jc 46 111 [(.t 40), (.t 41), (.t 45)], ⟨(some 47), none, .bsl 1 [(i64 0), (i64 0), (i64 0), (str [])] [(0, 4, (.t 46))]⟩, ⟨(some 48), none, .app 4 40 (.t 39) (.t 47)⟩, jm 5 48]) .skip)))
 (.ops [jm 28 6, jk 29 .add 28 1, jm 6 29]))))))
 (jo [jm 49 5, jm 4 49]
 .ret)))))
theorem w_spec_StepsFor : Wk Tryz.prog 53 50 [.tmp 4] b_spec_StepsFor := Wk.of mixedOrders Tryz.func53 (by kernel_rfl) (by kernel_rfl)

theorem specStepsFor_ac {h : H} {v u : Value} {old fresh : List (List UInt8)} (hv : Sl h v 1 (strs old)) (hu : Sl h u 1 (strs fresh)) (ho : imageOk old) (hf : imageOk fresh) (hl : old.length = fresh.length) : AC Tryz.prog 53 [v, u] h fun r h' => Own h h' r 4 ((stepsTo old fresh old.length).map UStep.cells) ∧ Ext h h' := by
  have hb := ho.1
  have hvv := hv
  have hl1 : (strs old).length = old.length := by simp
  have hl2 : (strs fresh).length = old.length := by simp [hl]
  obtain ⟨a, c, bo, o, rfl, hcap, h2, h3⟩ := hv
  obtain ⟨a2, c2, bo2, o2, rfl, hcap2, h22, h32⟩ := hu
  rw [hl1] at h2 hvv
  rw [hl2] at h22
  have huu : Sl h (.slice a2 old.length c2) 1 (strs fresh) := ⟨a2, c2, bo2, o2, by rw [hl2], hcap2, by rw [hl2]; exact h22, h32⟩
  skip
  refine w_spec_StepsFor (by simp) ?_
  unfold b_spec_StepsFor
  simp -implicitDefEqProofs only [go_sem, hl1, hl2]
  intro b7 hb7 n7
  have e7 := (Ext.refl h).set n7 ⟨[], 0⟩
  simp -implicitDefEqProofs only [go_sem, hl1, hl2]
  refine (specImageRight_pc (hvv.ext e7) (by omega)).use ?_
  simp -implicitDefEqProofs only [go_sem, decide_eq_true ho, hl1, hl2]
  refine (specImageRight_pc (huu.ext e7) (by omega)).use ?_
  simp -implicitDefEqProofs only [go_sem, decide_eq_true hf, hl1, hl2]
  refine loopW_of (fun m f h' => ∃ k w, m + k = old.length ∧ Ext h h' ∧ f 0 = .slice a old.length c ∧ f 1 = .slice a2 old.length c2 ∧ f 5 = w ∧ f 6 = i64 k ∧ Own h h' w 4 ((stepsTo old fresh k).map UStep.cells)) old.length
    ⟨0, sl b7 0 0 0, by simp, e7, by simp -implicitDefEqProofs only [go_sem, hl1, hl1, hl2], by simp -implicitDefEqProofs only [go_sem, hl2, hl1, hl2], by simp -implicitDefEqProofs only [go_sem, hl1, hl2], by simp -implicitDefEqProofs only [go_sem, hl1, hl2]; rfl, .inr ⟨b7, 0, 0, rfl, Nat.le_refl _, by assumption, n7, H.set_get_same _ _ _, by simp, Wid.nil 4⟩⟩ ?_
  rintro m f h' ⟨k, w, hm, ea, f0, f1, rfl, f6, ow⟩
  obtain ⟨aw, cw, f5⟩ := ow.shape
  have hsl := stepsTo_len old fresh k
  have hsw : ((stepsTo old fresh k).map UStep.cells).length = (stepsTo old fresh k).length := by simp
  rw [f5] at ow
  rw [hsw] at f5 ow
  skip
  by_cases hk : k < old.length
  · have hk2 : k < fresh.length := by omega
    have e1 := ldc_sub ea.2 (h3 k [str old[k]] (by simp [hk]))
    have e2 := ldc_sub ea.2 (h32 k [str fresh[k]] (by simp [hk2]))
    have g1 : old[k]? = some old[k] := List.getElem?_eq_getElem hk
    have g2 : fresh[k]? = some fresh[k] := List.getElem?_eq_getElem hk2
    have g3 : fresh.getD k [] = fresh[k] := by simp [List.getD, g2]
    simp -implicitDefEqProofs only [go_sem, hk, e1, e2, hl1, hl2, f0, f1, f5, f6, h2, h22, Int.ofNat_lt, Int.natCast_nonneg]
    refine Br.of (fun h4 => ?_) (fun h4 => ?_)
    · simp -implicitDefEqProofs only [go_sem, wrap_i64 (show -(9223372036854775808 : Int) ≤ ((k : Int) + 1) by omega) (show ((k : Int) + 1) < 9223372036854775808 by omega), hl1, hl2, f0, f1, f5, f6, h2, h22, Int.ofNat_lt, Int.natCast_nonneg]
      exact ⟨m - 1, by omega, _, Ext.refl _, k + 1, _, by omega, ea, rfl, rfl, by rw [stepsTo_same (by rw [g1, g2, h4])]; exact ow⟩
    · simp -implicitDefEqProofs only [go_sem, hk, e2, hl1, hl2, f0, f1, f5, f6, h2, h22, Int.ofNat_lt, Int.natCast_nonneg]
      refine (l07For_pc (hvv.ext ea) ho (hf.2 _ (List.getElem_mem hk2))).use ?_
      have hnew := stepsTo_new (old := old) (fresh := fresh) (k := k) (by rw [g1, g2]; exact fun e => h4 (Option.some.inj e))
      rw [g3] at hnew
      simp -implicitDefEqProofs only [go_sem, hl1, hl2, f0, f1, f5, f6, h2, h22, Int.ofNat_lt, Int.natCast_nonneg]
      intro bx hbx nx
      simp -implicitDefEqProofs only [go_sem, hl1, hl2, f0, f1, f5, f6, h2, h22, Int.ofNat_lt, Int.natCast_nonneg]
      refine appW_own (new := [(stepFor old k fresh[k]).cells]) (ea.set nx _) (ow.ext ((Ext.refl _).set nx _)) rfl (by intro r hr; simp at hr; subst hr; rfl) rfl (by rw [hsw]; simp; omega) ?_
      intro v' h5 e5 o5 _
      simp -implicitDefEqProofs only [go_sem, wrap_i64 (show -(9223372036854775808 : Int) ≤ ((k : Int) + 1) by omega) (show ((k : Int) + 1) < 9223372036854775808 by omega), hl1, hl2, f0, f1, f5, f6, h2, h22, Int.ofNat_lt, Int.natCast_nonneg]
      refine ⟨m - 1, by omega, _, Ext.refl _, k + 1, v', by omega, e5, rfl, rfl, ?_⟩
      rw [hnew, List.map_append]
      exact o5
  obtain rfl : k = old.length := by omega
  simp -implicitDefEqProofs only [go_sem, Nat.lt_irrefl, hl1, hl2, f0, f1, f5, f6, h2, h22, Int.ofNat_lt, Int.natCast_nonneg]
  exact ⟨ow, ea⟩
end Go.Proofs.YthjbhdmjfakfaaaGreatDoor

set_option linter.unusedVariables false
set_option linter.unusedSimpArgs false
set_option maxRecDepth 100000
namespace Go.Proofs.YthjbhdmjfakfaaaGreatDoor
open Go.KH

end Go.Proofs.YthjbhdmjfakfaaaGreatDoor

set_option linter.unusedVariables false
set_option linter.unusedSimpArgs false
set_option maxRecDepth 100000
namespace Go.Proofs.YthjbhdmjfakfaaaGreatDoor
open Go.KH

/-! ## Packages with a code -/
def pkg0 : UPkg := ⟨0, [], []⟩
abbrev spPo (o : UPkg × Int) : List Sp := [.v (i64 o.1.blocks), .v (str o.1.digest), .s 4 (o.1.steps.map UStep.cells), .v (i64 o.2)]
theorem po_f {h0 h : H} {o : UPkg × Int} {cs : List Value} : RepF h0 h (spPo o) cs ↔ ∃ v, cs = [i64 o.1.blocks, str o.1.digest, v, i64 o.2] ∧ Fre h0 h v 4 (o.1.steps.map UStep.cells) := by
  simp only [spPo, RepF_i, RepF_str, RepF_s, RepF_nil]
  constructor
  · rintro ⟨_, rfl, _, rfl, v, _, rfl, h1, d, _, rfl, rfl⟩; exact ⟨v, rfl, h1⟩
  · rintro ⟨v, rfl, h1⟩; exact ⟨_, rfl, _, rfl, v, _, rfl, h1, fun d hd => by simp only [List.mem_cons, List.not_mem_nil, or_false] at hd; subst hd; exact Dj.nb rfl, _, rfl, rfl⟩
theorem po_none {h0 h : H} {c : Int} : RepF h0 h (spPo (pkg0, c)) [i64 0, str [], nils, i64 c] := po_f.2 ⟨nils, rfl, .inl ⟨none, 0, rfl, rfl⟩⟩
def b_spec_l08Ill : C := (jo [⟨(some 2), none, .alloc [(i64 0), (str []), nils, (i64 0)]⟩]
 (jo [jm 3 0, q 4 (.build [(i64 0), (str []), nils, (i64 0)] [(3, 1, (.t 3))]), js 4 2 4]
 .ret))
theorem w_spec_l08Ill : Wk Tryz.prog 51 5 [.cell 2 true 4] b_spec_l08Ill := Wk.of mixedOrders Tryz.func51 (by kernel_rfl) (by kernel_rfl)

theorem l08Ill_pc (h : H) (c : Int) : PC Tryz.prog 51 [i64 c] h (.agg #[i64 0, str [], nils, i64 c]) := by
  refine PC_of ?_
  refine w_spec_l08Ill (by simp) ?_
  unfold b_spec_l08Ill
  simp -implicitDefEqProofs only [go_sem]
  intro b2 hb_b2 n_b2
  simp -implicitDefEqProofs only [go_sem, hb_b2]
  first | with_reducible exact ((Ext.refl _).set' n_b2 _) | ((with_reducible refine ⟨((Ext.refl _).set' n_b2 _), ?_⟩); first | rfl | (trivial))
end Go.Proofs.YthjbhdmjfakfaaaGreatDoor

set_option linter.unusedVariables false
set_option linter.unusedSimpArgs false
set_option maxRecDepth 100000
namespace Go.Proofs.YthjbhdmjfakfaaaGreatDoor
open Go.KH

/-! ## The laws' helpers for packages read -/
end Go.Proofs.YthjbhdmjfakfaaaGreatDoor

set_option linter.unusedVariables false
set_option linter.unusedSimpArgs false
set_option maxRecDepth 100000
namespace Go.Proofs.YthjbhdmjfakfaaaGreatDoor
open Go.KH

/-! ## The package from one image to another -/
def labS : UStep := ⟨5, 0, 1, []⟩
def pkgSteps (old fresh : List (List UInt8)) : List UStep := stepsTo old fresh old.length ++ [labS]
def packageOut (old fresh : List (List UInt8)) : UPkg × Int :=
  if 400 < old.length ∨ 400 < fresh.length then (pkg0, 2) else if ¬ (imageOk old ∧ imageOk fresh ∧ old.length = fresh.length) then (pkg0, 1)
  else (⟨old.length, shaL fresh.flatten, pkgSteps old fresh⟩, 0)
theorem packageOut_small (old fresh : List (List UInt8)) : (packageOut old fresh).1.steps.length ≤ 400 := by
  unfold packageOut
  split
  · simp [pkg0]
  · split
    · simp [pkg0]
    · rename_i h1 h2
      have := stepsTo_len old fresh old.length
      have h3 : imageOk old := Classical.byContradiction fun h => h2 fun q => h q.1
      have := h3.1
      simp [pkgSteps]; omega
def b_spec_PackageOf : C := (jo [⟨(some 4), none, .alloc [(i64 0), (str []), nils, (i64 0)]⟩]
 (.seq (jo [jm 6 0, q 7 (.len (.t 6)), jk 8 .gtr 7 400, jm 9 8, qg 10 9 false (.mv (.t 1)), qg 11 9 false (.len (.t 10)), qg 12 9 false (.bin .gtr (.t 11) (.c (i64 400))), q 13 (.pick (.t 9) (.c (.bool true)) (.t 12))]
 (.cond (.t 13) (jo [jc 14 51 [(.c (i64 2))], js 4 4 14]
 .ret) .skip))
 (.seq (jo [jm 15 0, jc 16 52 [(.t 15)], q 17 (.un .not (.t 16)), jm 18 17, qg 19 18 false (.mv (.t 1)), jcg 20 18 false 52 [(.t 19)], qg 21 18 false (.un .not (.t 20)), q 22 (.pick (.t 18) (.c (.bool true)) (.t 21)), jm 23 22, qg 24 23 false (.mv (.t 0)), qg 25 23 false (.len (.t 24)), qg 26 23 false (.mv (.t 1)), qg 27 23 false (.len (.t 26)), qg 28 23 false (.bin .neq (.t 25) (.t 27)), q 29 (.pick (.t 23) (.c (.bool true)) (.t 28))]
 (.cond (.t 29) (jo [jc 30 51 [(.c (i64 1))], js 4 4 30]
 .ret) .skip))
 (jo [jm 31 0, jm 32 1, jc 33 53 [(.t 31), (.t 32)], q 34 (.build [(i64 0), (i64 0), (i64 0), (str [])] [(0, 1, (.c (i64 5))), (2, 1, (.c (i64 1)))]), ⟨(some 35), none, .bsl 1 [(i64 0), (i64 0), (i64 0), (str [])] [(0, 4, (.t 34))]⟩, ⟨(some 36), none, .app 4 40 (.t 33) (.t 35)⟩, jm 5 36]
 (jo [jm 37 0, q 38 (.len (.t 37)), jm 39 1, jc 40 54 [(.t 39)], jm 41 5, q 42 (.build [(i64 0), (str []), nils] [(0, 1, (.t 38)), (1, 1, (.t 40)), (2, 1, (.t 41))]), q 43 (.build [(i64 0), (str []), nils, (i64 0)] [(0, 3, (.t 42))]), js 4 4 43]
 .ret)))))
theorem w_spec_PackageOf : Wk Tryz.prog 14 44 [.cell 4 true 4] b_spec_PackageOf := Wk.of mixedOrders Tryz.func14 (by kernel_rfl) (by kernel_rfl)

set_option maxHeartbeats 3200000 in
theorem specPackageOf_ac {h : H} {v u : Value} {old fresh : List (List UInt8)} (hv : Sl h v 1 (strs old)) (hu : Sl h u 1 (strs fresh)) (hn : old.length ≤ 1048576) (hm : fresh.length ≤ 1048576) : AC Tryz.prog 14 [v, u] h fun r h' => Ext h h' ∧ ∃ cs, r = .agg cs.toArray ∧ RepF h h' (spPo (packageOut old fresh)) cs := by
  obtain ⟨a, c, rfl⟩ := hv.shape
  obtain ⟨a2, c2, rfl⟩ := hu.shape
  have hl1 : (strs old).length = old.length := by simp
  have hl2 : (strs fresh).length = fresh.length := by simp
  rw [hl1] at hv
  rw [hl2] at hu
  unfold packageOut
  skip
  refine w_spec_PackageOf (by simp) ?_
  unfold b_spec_PackageOf
  simp -implicitDefEqProofs only [go_sem, hl1, hl2]
  intro b4 hb_b4 n_b4
  simp -implicitDefEqProofs only [go_sem, hl1, hl2, hb_b4]
  have E4 := (Ext.refl h).set n_b4 ⟨[i64 0, str [], nils, i64 0], 4⟩
  have G4 : (h.set b4 ⟨[i64 0, str [], nils, i64 0], 4⟩).get b4 = some ⟨[i64 0, str [], nils, i64 0], 4⟩ := H.set_get_same _ _ _
  have B4 : (h.set b4 ⟨[i64 0, str [], nils, i64 0], 4⟩).base ≤ b4 := by rw [H.set_base]; exact hb_b4
  by_cases h1 : 400 < old.length
  · simp -implicitDefEqProofs only [go_sem, show (400 : Int) < (old.length : Int) by omega, hl1, hl2, hb_b4]
    refine (l08Ill_pc _ _).use ?_
    simp -implicitDefEqProofs only [go_sem, hl1, hl2, hb_b4]
    exact ⟨(Ext.refl _).set n_b4 _, _, rfl, by rw [if_pos (.inl h1)]; exact po_none⟩
  by_cases h2 : 400 < fresh.length
  · simp -implicitDefEqProofs only [go_sem, show ¬ ((400 : Int) < (old.length : Int)) by omega, show (400 : Int) < (fresh.length : Int) by omega, hl1, hl2, hb_b4]
    refine (l08Ill_pc _ _).use ?_
    simp -implicitDefEqProofs only [go_sem, hl1, hl2, hb_b4]
    exact ⟨(Ext.refl _).set n_b4 _, _, rfl, by rw [if_pos (.inr h2)]; exact po_none⟩
  rw [if_neg (by omega)]
  simp -implicitDefEqProofs only [go_sem, show ¬ ((400 : Int) < (old.length : Int)) by omega, show ¬ ((400 : Int) < (fresh.length : Int)) by omega, hl1, hl2, hb_b4]
  refine (specImageRight_pc (hv.ext E4) (by omega)).use ?_
  by_cases h3 : imageOk old
  rotate_left
  · simp -implicitDefEqProofs only [go_sem, decide_eq_false h3, hl1, hl2, hb_b4]
    refine (l08Ill_pc _ _).use ?_
    simp -implicitDefEqProofs only [go_sem, hl1, hl2, hb_b4]
    exact ⟨(Ext.refl _).set n_b4 _, _, rfl, by rw [if_pos (fun q => h3 q.1)]; exact po_none⟩
  simp -implicitDefEqProofs only [go_sem, decide_eq_true h3, hl1, hl2, hb_b4]
  refine (specImageRight_pc (hu.ext E4) (by omega)).use ?_
  by_cases h4 : imageOk fresh
  rotate_left
  · simp -implicitDefEqProofs only [go_sem, decide_eq_false h4, hl1, hl2, hb_b4]
    refine (l08Ill_pc _ _).use ?_
    simp -implicitDefEqProofs only [go_sem, hl1, hl2, hb_b4]
    exact ⟨(Ext.refl _).set n_b4 _, _, rfl, by rw [if_pos (fun q => h4 q.2.1)]; exact po_none⟩
  simp -implicitDefEqProofs only [go_sem, decide_eq_true h4, hl1, hl2, hb_b4]
  by_cases h5 : old.length = fresh.length
  rotate_left
  · simp -implicitDefEqProofs only [go_sem, show ¬ ((old.length : Int) = (fresh.length : Int)) by omega, hl1, hl2, hb_b4]
    refine (l08Ill_pc _ _).use ?_
    simp -implicitDefEqProofs only [go_sem, hl1, hl2, hb_b4]
    exact ⟨(Ext.refl _).set n_b4 _, _, rfl, by rw [if_pos (fun q => h5 q.2.2)]; exact po_none⟩
  rw [if_neg (fun q => q ⟨h3, h4, h5⟩)]
  generalize hH : h.set b4 ⟨[i64 0, str [], nils, i64 0], 4⟩ = hh at *
  have i1 := h3.1
  simp -implicitDefEqProofs only [go_sem, show ((old.length : Int) = (fresh.length : Int)) by omega, hl1, hl2, hb_b4]
  refine AC_of (specStepsFor_ac (hv.ext E4) (hu.ext E4) h3 h4 h5) ?_
  rintro vr y1 - ⟨o1, e1⟩
  obtain ⟨aw, cw, rfl⟩ := o1.shape
  have hsl := stepsTo_len old fresh old.length
  have hsw : ((stepsTo old fresh old.length).map UStep.cells).length = (stepsTo old fresh old.length).length := by simp
  rw [hsw] at o1
  simp -implicitDefEqProofs only [go_sem, hsw, hl1, hl2, hb_b4]
  intro bx hbx nx
  simp -implicitDefEqProofs only [go_sem, hsw, hl1, hl2, hb_b4]
  refine appW_own (new := [labS.cells]) (e1.set nx _) (o1.ext ((Ext.refl _).set nx _)) rfl (by intro r hr; simp at hr; subst hr; rfl) rfl (by rw [hsw]; simp; omega) ?_
  intro v9 h9 e9 o9 k9
  have hps : (stepsTo old fresh old.length).map UStep.cells ++ [labS.cells] = (pkgSteps old fresh).map UStep.cells := by rw [pkgSteps, List.map_append]; rfl
  rw [hps] at o9
  have G9 : h9.get b4 = some ⟨[i64 0, str [], nils, i64 0], 4⟩ := by
    refine k9 b4 _ ?_ fun b k' m' e => ?_
    · rw [H.set_get_ne _ _ _ _ (fun e => by subst e; rw [e1.2.g _ _ G4] at nx; cases nx)]; exact e1.2.g _ _ G4
    · rintro rfl
      have := (o1.ob_new (b := b4) (by rw [e]; rfl)).1
      rw [G4] at this; cases this
  have B9 : h9.base ≤ b4 := by rw [e9.1]; exact B4
  obtain ⟨a9, c9, rfl⟩ := o9.shape
  simp -implicitDefEqProofs only [go_sem, hl1, hl2, hb_b4]
  refine (specImageDigest_pc ((hu.ext E4).ext e9) h4).use ?_
  simp -implicitDefEqProofs only [go_sem, stc_get G9, B9, hl1, hl2, hb_b4]
  exact ⟨(E4.trans e9).set' n_b4 _, _, rfl, po_f.2 ⟨_, rfl, (o9.fre.set G4 _).back E4⟩⟩
end Go.Proofs.YthjbhdmjfakfaaaGreatDoor
