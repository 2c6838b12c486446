/- A helper of this seat's claims (contracts of the functions): what it shows is shown for every input that its statements name, on no other condition. -/
import Derived.Test.YthjbhdmjfakfaaaGreatDoorCZg
set_option linter.unusedVariables false
set_option linter.unusedSimpArgs false
set_option maxRecDepth 100000
namespace Go.Proofs.YthjbhdmjfakfaaaGreatDoor
open Go.KH

/-- impl.stepsFor -/
def b_impl_stepsFor : C := (.seq (.ops [q 4 (.mv (.c nils))])
 (.seq (.ops [q 5 (.mv (.c nils))])
 (.seq (.seq (.ops [q 11 (.mv (.t 1)), q 12 (.len (.t 11)), q 13 (.mv (.c (i64 0)))])
 (.block 0 (.loop (.seq (.ops [q 14 (.bin .lss (.t 13) (.t 12))])
 (.seq (.cond (.t 14) .skip (.exit 0))
 (.seq (.block 1 (.seq (.ops [q 15 (.mv (.t 13)), q 16 (.idx 1 (.t 11) (.t 13)), q 17 (.ld false 1 (.t 16)), ⟨(some 7), none, .alloc [(str [])]⟩, q 6 (.mv (.t 15)), ⟨none, none, .st 1 (.t 7) (.t 17)⟩])
 (.seq (.seq (.dops true (.tk (q 18 (.mv (.t 0))) (.tk (q 19 (.mv (.t 6))) (.tk (q 20 (.idx 1 (.t 18) (.t 19))) (.tk (q 21 (.ld false 1 (.t 20))) (.tk (q 22 (.ld false 1 (.t 7))) (.tk (q 23 (.bin .eql (.t 21) (.t 22))) .nil)))))))
 (.cond (.t 23) (.exit 1) .skip))
 (.seq (.ops [q 24 (.mv (.t 6)), q 25 (.ld false 1 (.t 7)), q 26 (.build [(i64 0), (i64 0), (i64 0), (str [])] [(0, 1, (.c (i64 2))), (1, 1, (.t 24)), (3, 1, (.t 25))]), ⟨(some 8), none, .alloc [(i64 0), (i64 0), (i64 0), (str [])]⟩, ⟨none, none, .st 4 (.t 8) (.t 26)⟩])
 (.seq (.ops [q 27 (.mv (.t 0)), q 28 (.ld false 1 (.t 7)), ⟨(some 29), none, .call (.c (.func (.func 89) #[] #[])) [(.t 27), (.t 28)]⟩, q 9 (.mv (.t 29))])
 (.seq (.ops [q 30 (.mv (.t 0)), q 31 (.mkf 91 [(.t 7)]), ⟨(some 32), none, .call (.c (.func (.func 90) #[] #[])) [(.t 30), (.t 31)]⟩, q 10 (.mv (.t 32))])
 (.seq (.block 2 (.seq (.ops [q 34 (.ld false 1 (.t 7)), q 35 (.bin .eql (.t 34) (.c (str [0, 0, 0, 0, 0, 0, 0, 0]))), q 33 (.mv (.t 35))])
 (.cond (.t 33) (.ops [q 36 (.fld 0 (.t 8)), ⟨none, none, .st 1 (.t 36) (.c (i64 1))⟩, q 37 (.fld 3 (.t 8)), ⟨none, none, .st 1 (.t 37) (.c (str []))⟩]) (.seq (.ops [q 39 (.mv (.t 9)), q 40 (.bin .geq (.t 39) (.c (i64 0))), q 38 (.mv (.t 40))])
 (.cond (.t 38) (.ops [q 41 (.mv (.t 9)), q 42 (.fld 0 (.t 8)), ⟨none, none, .st 1 (.t 42) (.c (i64 3))⟩, q 43 (.fld 2 (.t 8)), ⟨none, none, .st 1 (.t 43) (.t 41)⟩, q 44 (.fld 3 (.t 8)), ⟨none, none, .st 1 (.t 44) (.c (str []))⟩]) (.seq (.ops [q 46 (.mv (.t 10)), q 47 (.bin .geq (.t 46) (.c (i64 0))), q 45 (.mv (.t 47))])
 (.cond (.t 45) (.dops true (.tk (q 48 (.mv (.t 10))) (.tk (q 49 (.mv (.t 0))) (.tk (q 50 (.mv (.t 10))) (.tk (q 51 (.idx 1 (.t 49) (.t 50))) (.tk (q 52 (.ld false 1 (.t 51))) (.tk (q 53 (.ld false 1 (.t 7))) (.tk (q 55 (.fld 0 (.t 8))) (.sq (⟨(some 54), none, .call (.c (.func (.func 93) #[] #[])) [(.t 52), (.t 53)]⟩) (.lt (⟨none, none, .st 1 (.t 55) (.c (i64 4))⟩) (.tk (q 56 (.fld 2 (.t 8))) (.lt (⟨none, none, .st 1 (.t 56) (.t 48)⟩) (.tk (q 57 (.fld 3 (.t 8))) (.lt (⟨none, none, .st 1 (.t 57) (.t 54)⟩) .nil)))))))))))))) .skip)))))))
 (.ops [q 58 (.mv (.t 5)), q 59 (.ld true 4 (.t 8)), ⟨(some 60), none, .bsl 1 [(i64 0), (i64 0), (i64 0), (str [])] [(0, 4, (.t 59))]⟩, ⟨(some 61), none, .app 4 40 (.t 58) (.t 60)⟩, q 5 (.mv (.t 61))]))))))))
 (.ops [q 62 (.bin .add (.t 13) (.c (i64 1))), q 13 (.mv (.t 62))])))))))
 (.seq (.ops [q 63 (.mv (.t 5)), q 4 (.mv (.t 63))])
 .ret))))
theorem w_impl_stepsFor {args : List Value} {h : H} {Q : Value → H → Prop} (hl : args.length ≤ 64) (hk : wpc Tryz.prog b_impl_stepsFor (retw [.tmp 4] Q) (argsFr args) h) : AC Tryz.prog 37 args h Q :=
  AC.of_wpc mixedOrders Tryz.func37 (by kernel_rfl) (by kernel_rfl : prepF Tryz.prog Tryz.f37 = some ⟨64, [.tmp 4], b_impl_stepsFor⟩) hl hk

set_option maxHeartbeats 3200000 in
theorem stepsFor_ac {h : H} {v u : Value} {old fresh : List (List UInt8)} (hv : Sl h v 1 (strs old)) (hu : Sl h u 1 (strs fresh)) (ho : imageOk old) (hf : imageOk fresh) (hl : old.length = fresh.length) : AC Tryz.prog 37 [v, u] h fun r h' => Own h h' r 4 ((stepsTo old fresh old.length).map UStep.cells) ∧ Ext h h' := by
  have hb := ho.1
  have hvv := hv
  have hl1 : (strs old).length = old.length := by simp
  have hl2 : (strs fresh).length = old.length := by simp [hl]
  obtain ⟨a, c, bo, o, rfl, hcap, h2, h3⟩ := hv
  obtain ⟨a2, c2, bo2, o2, rfl, hcap2, h22, h32⟩ := hu
  rw [hl1] at h2 hvv
  rw [hl2] at h22
  skip
  refine w_impl_stepsFor (by simp) ?_
  unfold b_impl_stepsFor
  simp -implicitDefEqProofs only [go_sem, hl1, hl2]
  refine loopW_of (fun m f h' => ∃ k w, m + k = old.length ∧ Ext h h' ∧ f 0 = .slice a old.length c ∧ f 5 = w ∧ f 11 = .slice a2 old.length c2 ∧ f 12 = i64 old.length ∧ f 13 = i64 k ∧ Own h h' w 4 ((stepsTo old fresh k).map UStep.cells)) old.length
    ⟨0, nils, by simp, Ext.refl _, by simp -implicitDefEqProofs only [go_sem, hl1, hl1, hl2], by simp -implicitDefEqProofs only [go_sem, hl1, hl2], by simp -implicitDefEqProofs only [go_sem, hl2, hl1, hl2], by simp -implicitDefEqProofs only [go_sem, hl2, hl1, hl2], by simp -implicitDefEqProofs only [go_sem, hl1, hl2]; rfl, .inl ⟨rfl, rfl⟩⟩ ?_
  rintro m f h' ⟨k, w, hm, ea, f0, rfl, f11, f12, f13, ow⟩
  obtain ⟨aw, cw, f5⟩ := ow.shape
  have hsl := stepsTo_len old fresh k
  have hsw : ((stepsTo old fresh k).map UStep.cells).length = (stepsTo old fresh k).length := by simp
  rw [f5] at ow
  rw [hsw] at f5 ow
  skip
  by_cases hk : k < old.length
  · have hk2 : k < fresh.length := by omega
    have e1 := ldc_sub ea.2 (h3 k [str old[k]] (by simp [hk]))
    have e2 := ldc_sub ea.2 (h32 k [str fresh[k]] (by simp [hk2]))
    have g1 : old[k]? = some old[k] := List.getElem?_eq_getElem hk
    have g2 : fresh[k]? = some fresh[k] := List.getElem?_eq_getElem hk2
    have g3 : fresh.getD k [] = fresh[k] := by simp [List.getD, g2]
    have h8 := hf.2 _ (List.getElem_mem hk2)
    have hsame : old[k] = fresh[k] → stepsTo old fresh (k + 1) = stepsTo old fresh k := fun e => stepsTo_same (by rw [g1, g2, e])
    have hnew : ¬ old[k] = fresh[k] → stepsTo old fresh (k + 1) = stepsTo old fresh k ++ [stepFor old k fresh[k]] := fun e => by rw [stepsTo_new (by rw [g1, g2]; exact fun e' => e (Option.some.inj e')), g3]
    generalize fresh[k] = y at *
    generalize hx : old[k] = x at *
    simp -implicitDefEqProofs only [go_sem, hk, e1, e2, hl1, hl2, f0, f5, f11, f12, f13, h2, h22, Int.ofNat_lt, Int.natCast_nonneg]
    intro b7 hb7 n7
    have e7 := ea.set n7 ⟨[str y], 1⟩
    have own7 := ow.ext ((Ext.refl _).set n7 ⟨[str y], 1⟩)
    have e1' := ldc_sub (Sub.set (Sub.refl h') n7 ⟨[str y], 1⟩) e1
    have g7 : (h'.set b7 ⟨[str y], 1⟩).get b7 = some ⟨[str y], 1⟩ := H.set_get_same _ _ _
    have b7b : (h'.set b7 ⟨[str y], 1⟩).base ≤ b7 := by rw [H.set_base]; exact hb7
    simp -implicitDefEqProofs only [go_sem, hb7, hl1, hl2, f0, f5, f11, f12, f13, h2, h22, Int.ofNat_lt, Int.natCast_nonneg]
    generalize h'.set b7 ⟨[str y], 1⟩ = h1 at *
    clear e1 e2
    have G7 := fun o n => ldc_get g7 o n
    skip
    simp -implicitDefEqProofs only [go_sem, hk, e1', hl1, hl2, f0, f5, f11, f12, f13, h2, h22, Int.ofNat_lt, Int.natCast_nonneg, b7b, G7]
    refine Br.of (fun h4 => ?_) (fun h4 => ?_)
    · simp -implicitDefEqProofs only [go_sem, wrap_i64 (show -(9223372036854775808 : Int) ≤ ((k : Int) + 1) by omega) (show ((k : Int) + 1) < 9223372036854775808 by omega), hl1, hl2, f0, f5, f11, f12, f13, h2, h22, Int.ofNat_lt, Int.natCast_nonneg, b7b, G7]
      exact ⟨m - 1, by omega, _, Ext.refl _, k + 1, _, by omega, e7, rfl, rfl, by rw [hsame h4]; exact own7⟩
    simp -implicitDefEqProofs only [go_sem, hl1, hl2, f0, f5, f11, f12, f13, h2, h22, Int.ofNat_lt, Int.natCast_nonneg, b7b, G7]
    intro b8 hb8 n8
    have z78 : b7 ≠ b8 := fun e => by rw [← e, g7] at n8; cases n8
    have e8 := e7.set n8 ⟨[i64 2, i64 k, i64 0, str y], 4⟩
    have E18 := (Ext.refl h1).set n8 ⟨[i64 2, i64 k, i64 0, str y], 4⟩
    have n8h := e7.none n8
    have e1'' := ldc_sub (Sub.set (Sub.refl h1) n8 ⟨[i64 2, i64 k, i64 0, str y], 4⟩) e1'
    have g8 : (h1.set b8 ⟨[i64 2, i64 k, i64 0, str y], 4⟩).get b8 = some ⟨[i64 2, i64 k, i64 0, str y], 4⟩ := H.set_get_same _ _ _
    have g78 : (h1.set b8 ⟨[i64 2, i64 k, i64 0, str y], 4⟩).get b7 = some ⟨[str y], 1⟩ := by rw [H.set_get_ne _ _ _ _ z78]; exact g7
    have b8b : (h1.set b8 ⟨[i64 2, i64 k, i64 0, str y], 4⟩).base ≤ b8 := by rw [H.set_base]; exact hb8
    simp -implicitDefEqProofs only [go_sem, hb8, eq_false z78, hl1, hl2, f0, f5, f11, f12, f13, h2, h22, Int.ofNat_lt, Int.natCast_nonneg, b7b, G7]
    generalize h1.set b8 ⟨[i64 2, i64 k, i64 0, str y], 4⟩ = hB at *
    skip
    clear e1'
    have G8 := fun o n => ldc_get g8 o n
    have G78 := fun o n => ldc_get g78 o n
    have S8 := fun o n cs => stc_get g8 o n cs
    skip
    refine (indexOf_pc (hvv.ext e8) (by omega)).use ?_
    simp -implicitDefEqProofs only [go_sem, hl1, hl2, f0, f5, f11, f12, f13, h2, h22, Int.ofNat_lt, Int.natCast_nonneg, b8b, G8, G78, S8]
    refine (indexStr_pc (p := nearP y) (caps := [ptr b7 0]) (hvv.ext e8) (by omega) (fun z hz => stepsFor1_pc (by rw [ldc_get g78]; rfl) (ho.2 z hz) h8)).use ?_
    simp -implicitDefEqProofs only [go_sem, hl1, hl2, f0, f5, f11, f12, f13, h2, h22, Int.ofNat_lt, Int.natCast_nonneg, b8b, G8, G78, S8]
    refine Br.of (fun h5 => ?_) (fun h5 => ?_)
    · have hz : stepFor old k y = ⟨1, k, 0, []⟩ := by unfold stepFor; rw [if_pos (show y = zero8 from h5)]
      simp -implicitDefEqProofs only [go_sem, hl1, hl2, f0, f5, f11, f12, f13, h2, h22, Int.ofNat_lt, Int.natCast_nonneg, b8b, G8, G78, S8]
      intro bx hbx nx
      simp -implicitDefEqProofs only [go_sem, hl1, hl2, f0, f5, f11, f12, f13, h2, h22, Int.ofNat_lt, Int.natCast_nonneg, b8b, G8, G78, S8]
      refine appW_own (new := [UStep.cells ⟨1, k, 0, []⟩]) ((e8.set' n8h _).set nx _) (own7.ext ((E18.set' n8 _).set nx _)) rfl (by intro r hr; simp at hr; subst hr; rfl) rfl (by rw [hsw]; simp; omega) ?_
      intro v' h9 e9 o9 _
      simp -implicitDefEqProofs only [go_sem, wrap_i64 (show -(9223372036854775808 : Int) ≤ ((k : Int) + 1) by omega) (show ((k : Int) + 1) < 9223372036854775808 by omega), hl1, hl2, f0, f5, f11, f12, f13, h2, h22, Int.ofNat_lt, Int.natCast_nonneg, b8b, G8, G78, S8]
      refine ⟨m - 1, by omega, _, Ext.refl _, k + 1, v', by omega, e9, rfl, rfl, ?_⟩
      rw [hnew h4, hz, List.map_append]
      exact o9
    have h5' : ¬ y = zero8 := h5
    simp -implicitDefEqProofs only [go_sem, hl1, hl2, f0, f5, f11, f12, f13, h2, h22, Int.ofNat_lt, Int.natCast_nonneg, b8b, G8, G78, S8]
    refine Br.of (fun h6 => ?_) (fun h6 => ?_)
    · have hz : stepFor old k y = ⟨3, k, firstAt (isP y) old, []⟩ := by unfold stepFor; rw [if_neg h5', if_pos h6]
      simp -implicitDefEqProofs only [go_sem, hl1, hl2, f0, f5, f11, f12, f13, h2, h22, Int.ofNat_lt, Int.natCast_nonneg, b8b, G8, G78, S8]
      intro bx hbx nx
      simp -implicitDefEqProofs only [go_sem, hl1, hl2, f0, f5, f11, f12, f13, h2, h22, Int.ofNat_lt, Int.natCast_nonneg, b8b, G8, G78, S8]
      refine appW_own (new := [UStep.cells ⟨3, k, firstAt (isP y) old, []⟩]) ((e8.set' n8h _).set nx _) (own7.ext ((E18.set' n8 _).set nx _)) rfl (by intro r hr; simp at hr; subst hr; rfl) rfl (by rw [hsw]; simp; omega) ?_
      intro v' h9 e9 o9 _
      simp -implicitDefEqProofs only [go_sem, wrap_i64 (show -(9223372036854775808 : Int) ≤ ((k : Int) + 1) by omega) (show ((k : Int) + 1) < 9223372036854775808 by omega), hl1, hl2, f0, f5, f11, f12, f13, h2, h22, Int.ofNat_lt, Int.natCast_nonneg, b8b, G8, G78, S8]
      refine ⟨m - 1, by omega, _, Ext.refl _, k + 1, v', by omega, e9, rfl, rfl, ?_⟩
      rw [hnew h4, hz, List.map_append]
      exact o9
    simp -implicitDefEqProofs only [go_sem, hl1, hl2, f0, f5, f11, f12, f13, h2, h22, Int.ofNat_lt, Int.natCast_nonneg, b8b, G8, G78, S8]
    refine Br.of (fun h7 => ?_) (fun h7 => ?_)
    · obtain ⟨q, hq, eq, eat⟩ := near_get ho h7
      have hz : stepFor old k y = ⟨4, k, q, xorB old[q] y⟩ := by unfold stepFor; rw [if_neg h5', if_neg h6, if_pos h7, eq, eat]
      have eo := ldc_sub e8.2 (h3 q [str old[q]] (by simp [hq]))
      have x8 := ho.2 _ (List.getElem_mem hq)
      simp -implicitDefEqProofs only [go_sem, eq, Int.toNat_natCast, hq, eo, hl1, hl2, f0, f5, f11, f12, f13, h2, h22, Int.ofNat_lt, Int.natCast_nonneg, b8b, G8, G78, S8]
      refine (xored_pc hB x8 h8).use ?_
      simp -implicitDefEqProofs only [go_sem, hl1, hl2, f0, f5, f11, f12, f13, h2, h22, Int.ofNat_lt, Int.natCast_nonneg, b8b, G8, G78, S8]
      intro bx hbx nx
      simp -implicitDefEqProofs only [go_sem, hl1, hl2, f0, f5, f11, f12, f13, h2, h22, Int.ofNat_lt, Int.natCast_nonneg, b8b, G8, G78, S8]
      refine appW_own (new := [UStep.cells ⟨4, k, q, xorB old[q] y⟩]) ((e8.set' n8h _).set nx _) (own7.ext ((E18.set' n8 _).set nx _)) rfl (by intro r hr; simp at hr; subst hr; rfl) rfl (by rw [hsw]; simp; omega) ?_
      intro v' h9 e9 o9 _
      simp -implicitDefEqProofs only [go_sem, wrap_i64 (show -(9223372036854775808 : Int) ≤ ((k : Int) + 1) by omega) (show ((k : Int) + 1) < 9223372036854775808 by omega), hl1, hl2, f0, f5, f11, f12, f13, h2, h22, Int.ofNat_lt, Int.natCast_nonneg, b8b, G8, G78, S8]
      refine ⟨m - 1, by omega, _, Ext.refl _, k + 1, v', by omega, e9, rfl, rfl, ?_⟩
      rw [hnew h4, hz, List.map_append]
      exact o9
    have hz : stepFor old k y = ⟨2, k, 0, y⟩ := by unfold stepFor; rw [if_neg h5', if_neg h6, if_neg h7]
    simp -implicitDefEqProofs only [go_sem, hl1, hl2, f0, f5, f11, f12, f13, h2, h22, Int.ofNat_lt, Int.natCast_nonneg, b8b, G8, G78, S8]
    intro bx hbx nx
    simp -implicitDefEqProofs only [go_sem, hl1, hl2, f0, f5, f11, f12, f13, h2, h22, Int.ofNat_lt, Int.natCast_nonneg, b8b, G8, G78, S8]
    refine appW_own (new := [UStep.cells ⟨2, k, 0, y⟩]) (e8.set nx _) (own7.ext (E18.set nx _)) rfl (by intro r hr; simp at hr; subst hr; rfl) rfl (by rw [hsw]; simp; omega) ?_
    intro v' h9 e9 o9 _
    simp -implicitDefEqProofs only [go_sem, wrap_i64 (show -(9223372036854775808 : Int) ≤ ((k : Int) + 1) by omega) (show ((k : Int) + 1) < 9223372036854775808 by omega), hl1, hl2, f0, f5, f11, f12, f13, h2, h22, Int.ofNat_lt, Int.natCast_nonneg, b8b, G8, G78, S8]
    refine ⟨m - 1, by omega, _, Ext.refl _, k + 1, v', by omega, e9, rfl, rfl, ?_⟩
    rw [hnew h4, hz, List.map_append]
    exact o9
  skip
  obtain rfl : k = old.length := by omega
  simp -implicitDefEqProofs only [go_sem, Nat.lt_irrefl, hl1, hl2, f0, f5, f11, f12, f13, h2, h22, Int.ofNat_lt, Int.natCast_nonneg]
  exact ⟨ow, ea⟩
end Go.Proofs.YthjbhdmjfakfaaaGreatDoor
