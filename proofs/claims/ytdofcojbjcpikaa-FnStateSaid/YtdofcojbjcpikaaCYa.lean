/- A helper of this seat's claims (contracts of the functions): what it shows is shown for every input that its statements name, on no other condition. -/
import Derived.Test.YtdofcojbjcpikaaCY
set_option linter.unusedVariables false
set_option linter.unusedSimpArgs false
set_option maxRecDepth 100000
namespace Go.Proofs.Ytdofcojbjcpikaa
open Go.KH

/-- spec.l03Max -/
def b_spec_l03Max : C := (.seq (.ops [q 4 (.mv (.c (i64 0)))])
 (.seq (.seq (.ops [q 5 (.mv (.t 0)), q 6 (.mv (.t 1)), q 7 (.bin .gtr (.t 5) (.t 6))])
 (.cond (.t 7) (.seq (.ops [q 8 (.mv (.t 0)), q 4 (.mv (.t 8))])
 .ret) .skip))
 (.seq (.ops [q 9 (.mv (.t 1)), q 4 (.mv (.t 9))])
 .ret)))
theorem w_spec_l03Max {args : List Value} {h : H} {Q : Value → H → Prop} (hl : args.length ≤ 10) (hk : wpc Try.prog b_spec_l03Max (retw [.tmp 4] Q) (argsFr args) h) : AC Try.prog 64 args h Q :=
  AC.of_wpc mixedOrders Try.func64 (by kernel_rfl) (by kernel_rfl : prepF Try.prog Try.f64 = some ⟨10, [.tmp 4], b_spec_l03Max⟩) hl hk

theorem l03Max_pc (h : H) (a b : Int) : PC Try.prog 64 [i64 a, i64 b] h (i64 (if b < a then a else b)) := by
  refine PC_of ?_
  by_cases h1 : b < a
  · refine w_spec_l03Max (by simp) ?_
    unfold b_spec_l03Max
    simp -implicitDefEqProofs only [go_sem, h1]
    exact Ext.refl _
  · refine w_spec_l03Max (by simp) ?_
    unfold b_spec_l03Max
    simp -implicitDefEqProofs only [go_sem, h1]
    exact Ext.refl _
theorem ints_flat : ∀ l : List Int, (ints l).flatten = l.map i64
  | [] => rfl
  | x :: l => by
    have := ints_flat l
    show [i64 x] ++ (ints l).flatten = _
    rw [this]; rfl
def takB (f j k : Nat) : Int := if f ≤ k ∧ k < f + j then 1 else 0
def takL (f j : Nat) : List Int := (List.range 24).map (takB f j)
theorem takL_len (f j : Nat) : (takL f j).length = 24 := by simp [takL]
theorem takL_get {f j k : Nat} (hk : k < 24) : (takL f j)[k]? = some (takB f j k) := by simp [takL, hk]
theorem takL_succ {f j : Nat} (h : f + j < 24) : (takL f j).set (f + j) 1 = takL f (j + 1) := by
  refine List.ext_getElem? fun i => ?_
  rw [List.getElem?_set, takL_len]
  by_cases hi : i < 24
  · rw [takL_get hi, takL_get hi]
    unfold takB
    split
    · rename_i e
      subst e
      rw [if_pos (by omega)]
    · rename_i e
      by_cases h1 : f ≤ i ∧ i < f + j
      · rw [if_pos h1, if_pos (by omega)]
      · rw [if_neg h1, if_neg (by omega)]
  · rw [List.getElem?_eq_none (by rw [takL_len]; omega), List.getElem?_eq_none (by rw [takL_len]; omega)]
    split
    · rename_i e; omega
    · rfl
def runTo (f c k : Nat) : List Int := (List.range (min (k - f) c)).map fun i => ((f + i : Nat) : Int)
theorem runTo_len (f c k : Nat) : (runTo f c k).length = min (k - f) c := by simp [runTo]
theorem runTo_in {f c k : Nat} (h1 : f ≤ k) (h2 : k < f + c) : runTo f c (k + 1) = runTo f c k ++ [(k : Int)] := by
  unfold runTo
  rw [show min (k + 1 - f) c = (k - f) + 1 by omega, show min (k - f) c = k - f by omega, List.range_succ, List.map_append]
  simp only [List.map_cons, List.map_nil]
  rw [show f + (k - f) = k by omega]
theorem runTo_out {f c k : Nat} (h : ¬ (f ≤ k ∧ k < f + c)) : runTo f c (k + 1) = runTo f c k := by
  unfold runTo
  congr 2
  omega
/-- spec.ListOf -/
def b_spec_ListOf : C := (.seq (.ops [⟨(some 2), none, .alloc [nils, (i64 0)]⟩])
 (.seq (.seq (.ops [q 8 (.mv (.t 0)), q 9 (.len (.t 8)), q 10 (.bin .gtr (.t 9) (.c (i64 400)))])
 (.cond (.t 10) (.seq (.ops [q 11 (.build [nils, (i64 0)] [(1, 1, (.c (i64 2)))]), ⟨none, none, .st 2 (.t 2) (.t 11)⟩])
 .ret) .skip))
 (.seq (.ops [⟨(some 12), none, .mks 1 8 [(i64 0)] (.c (i64 24)) (.c (i64 24))⟩, q 3 (.mv (.t 12))])
 (.seq (.seq (.ops [q 4 (.mv (.c (i64 0)))])
 (.block 0 (.loop (.seq (.seq (.ops [q 13 (.mv (.t 4)), q 14 (.mv (.t 0)), q 15 (.len (.t 14)), q 16 (.bin .lss (.t 13) (.t 15))])
 (.cond (.t 16) .skip (.exit 0)))
 (.seq (.block 1 (.seq (.seq (.dops true (.tk (q 19 (.mv (.t 0))) (.tk (q 20 (.mv (.t 4))) (.tk (q 21 (.idx 2 (.t 19) (.t 20))) (.tk (q 22 (.fld 1 (.t 21))) (.tk (q 23 (.ld false 1 (.t 22))) (.tk (q 24 (.bin .lss (.t 23) (.c (i64 1)))) (.tk (q 25 (.mv (.t 24))) (.tk (qg 26 25 false (.mv (.t 0))) (.tk (qg 27 25 false (.mv (.t 4))) (.tk (qg 28 25 false (.idx 2 (.t 26) (.t 27))) (.tk (qg 29 25 false (.fld 1 (.t 28))) (.tk (qg 30 25 false (.ld false 1 (.t 29))) (.tk (qg 31 25 false (.bin .gtr (.t 30) (.c (i64 24)))) (.tk (q 32 (.pick (.t 25) (.c (.bool true)) (.t 31))) (.tk (q 33 (.mv (.t 32))) (.tk (qg 34 33 false (.mv (.t 0))) (.tk (qg 35 33 false (.mv (.t 4))) (.tk (qg 36 33 false (.idx 2 (.t 34) (.t 35))) (.tk (qg 37 33 false (.fld 0 (.t 36))) (.tk (qg 38 33 false (.ld false 1 (.t 37))) (.tk (qg 39 33 false (.bin .lss (.t 38) (.c (i64 0)))) (.tk (q 40 (.pick (.t 33) (.c (.bool true)) (.t 39))) (.tk (q 41 (.mv (.t 40))) (.tk (qg 42 41 false (.mv (.t 0))) (.tk (qg 43 41 false (.mv (.t 4))) (.tk (qg 44 41 false (.idx 2 (.t 42) (.t 43))) (.tk (qg 45 41 false (.fld 0 (.t 44))) (.tk (qg 46 41 false (.ld false 1 (.t 45))) (.tk (qg 47 41 false (.mv (.t 0))) (.tk (qg 48 41 false (.mv (.t 4))) (.tk (qg 49 41 false (.idx 2 (.t 47) (.t 48))) (.tk (qg 50 41 false (.fld 1 (.t 49))) (.tk (qg 51 41 false (.ld false 1 (.t 50))) (.tk (qg 52 41 false (.bin .sub (.c (i64 24)) (.t 51))) (.tk (qg 53 41 false (.bin .gtr (.t 46) (.t 52))) (.tk (q 54 (.pick (.t 41) (.c (.bool true)) (.t 53))) .nil)))))))))))))))))))))))))))))))))))))
 (.cond (.t 54) (.seq (.ops [q 55 (.build [nils, (i64 0)] [(1, 1, (.c (i64 1)))]), ⟨none, none, .st 2 (.t 2) (.t 55)⟩])
 .ret) .skip))
 (.seq (.ops [q 56 (.mv (.t 0)), q 57 (.mv (.t 4)), q 58 (.idx 2 (.t 56) (.t 57)), q 59 (.fld 0 (.t 58)), q 60 (.ld false 1 (.t 59)), q 5 (.mv (.t 60))])
 (.block 2 (.loop (.seq (.seq (.dops true (.tk (q 61 (.mv (.t 5))) (.tk (q 62 (.mv (.t 0))) (.tk (q 63 (.mv (.t 4))) (.tk (q 64 (.idx 2 (.t 62) (.t 63))) (.tk (q 65 (.fld 0 (.t 64))) (.tk (q 66 (.ld false 1 (.t 65))) (.tk (q 67 (.mv (.t 0))) (.tk (q 68 (.mv (.t 4))) (.tk (q 69 (.idx 2 (.t 67) (.t 68))) (.tk (q 70 (.fld 1 (.t 69))) (.tk (q 71 (.ld false 1 (.t 70))) (.tk (q 72 (.bin .add (.t 66) (.t 71))) (.tk (q 73 (.bin .lss (.t 61) (.t 72))) .nil))))))))))))))
 (.cond (.t 73) .skip (.exit 2)))
 (.seq (.block 3 (.ops [q 76 (.mv (.t 3)), q 77 (.mv (.t 5)), q 78 (.mv (.t 3)), q 79 (.mv (.t 5)), q 80 (.idx 1 (.t 78) (.t 79)), q 81 (.ld false 1 (.t 80)), q 82 (.bin .add (.t 81) (.c (i64 1))), q 83 (.idx 1 (.t 76) (.t 77)), ⟨none, none, .st 1 (.t 83) (.t 82)⟩]))
 (.ops [q 74 (.mv (.t 5)), q 75 (.bin .add (.t 74) (.c (i64 1))), q 5 (.mv (.t 75))]))))))))
 (.ops [q 17 (.mv (.t 4)), q 18 (.bin .add (.t 17) (.c (i64 1))), q 4 (.mv (.t 18))]))))))
 (.seq (.ops [⟨(some 84), none, .bsl 0 [] []⟩, q 6 (.mv (.t 84))])
 (.seq (.seq (.ops [q 7 (.mv (.c (i64 0)))])
 (.block 4 (.loop (.seq (.seq (.ops [q 85 (.mv (.t 7)), q 86 (.bin .lss (.t 85) (.c (i64 24)))])
 (.cond (.t 86) .skip (.exit 4)))
 (.seq (.block 5 (.seq (.seq (.ops [q 89 (.mv (.t 3)), q 90 (.mv (.t 7)), q 91 (.idx 1 (.t 89) (.t 90)), q 92 (.ld false 1 (.t 91)), q 93 (.bin .gtr (.t 92) (.c (i64 1)))])
 (.cond (.t 93) (.seq (.ops [q 94 (.build [nils, (i64 0)] [(1, 1, (.c (i64 12)))]), ⟨none, none, .st 2 (.t 2) (.t 94)⟩])
 .ret) .skip))
 (.seq (.ops [q 95 (.mv (.t 3)), q 96 (.mv (.t 7)), q 97 (.idx 1 (.t 95) (.t 96)), q 98 (.ld false 1 (.t 97)), q 99 (.bin .eql (.t 98) (.c (i64 1)))])
 (.cond (.t 99) (.ops [q 100 (.mv (.t 6)), q 101 (.mv (.t 7)), ⟨(some 102), none, .bsl 1 [(i64 0)] [(0, 1, (.t 101))]⟩, ⟨(some 103), none, .app 1 8 (.t 100) (.t 102)⟩, q 6 (.mv (.t 103))]) .skip))))
 (.ops [q 87 (.mv (.t 7)), q 88 (.bin .add (.t 87) (.c (i64 1))), q 7 (.mv (.t 88))]))))))
 (.seq (.ops [q 104 (.mv (.t 6)), q 105 (.build [nils, (i64 0)] [(0, 1, (.t 104))]), ⟨none, none, .st 2 (.t 2) (.t 105)⟩])
 .ret)))))))
theorem w_spec_ListOf {args : List Value} {h : H} {Q : Value → H → Prop} (hl : args.length ≤ 106) (hk : wpc Try.prog b_spec_ListOf (retw [.cell 2 true 2] Q) (argsFr args) h) : AC Try.prog 63 args h Q :=
  AC.of_wpc mixedOrders Try.func63 (by kernel_rfl) (by kernel_rfl : prepF Try.prog Try.f63 = some ⟨106, [.cell 2 true 2], b_spec_ListOf⟩) hl hk

theorem listOf1_ac {h : H} {v : Value} {f c : Nat} (hv : Sl h v 2 (exts [((f : Int), (c : Int))])) (hc : 1 ≤ c ∧ f + c ≤ 24) : AC Try.prog 63 [v] h fun r h' => (∃ u, r = .agg #[u, i64 0] ∧ Own h h' u 1 (ints (runTo f c 24))) ∧ Ext h h' := by
  obtain ⟨va, vc, rfl⟩ := hv.shape
  simp only [List.length_map, List.length_cons, List.length_nil] at hv ⊢
  refine w_spec_ListOf (by simp) ?_
  unfold b_spec_ListOf
  simp -implicitDefEqProofs only [go_sem]
  intro b2 hb_b2 n_b2
  simp -implicitDefEqProofs only [go_sem, show ¬ ((400 : Int) < ((0 + 1 : Nat) : Int)) by decide, Int.reduceToNat, hb_b2]
  refine Req.of (by decide) ?_
  simp -implicitDefEqProofs only [go_sem, Int.reduceToNat, hb_b2]
  intro b3 hb3 n3
  obtain ⟨z32, y32, n3h⟩ := fne n3
  simp -implicitDefEqProofs only [go_sem, hb_b2]
  have eH := ((Ext.refl h).set n_b2 ⟨[nils, i64 0], 2⟩).set n3 ⟨(List.replicate 24 [i64 0]).flatten, 24⟩
  have hf24 : (f : Int) ≤ 24 - (c : Int) := by omega
  have g2 : ((h.set b2 ⟨[nils, i64 0], 2⟩).set b3 ⟨(List.replicate 24 [i64 0]).flatten, 24⟩).get b2 = some ⟨[nils, i64 0], 2⟩ := by rw [H.set_get_ne _ _ _ _ (fun e => by subst e; rw [H.set_get_same] at n3; cases n3)]; exact H.set_get_same _ _ _
  have g3 : ((h.set b2 ⟨[nils, i64 0], 2⟩).set b3 ⟨(List.replicate 24 [i64 0]).flatten, 24⟩).get b3 = some ⟨(ints (takL f 0)).flatten, 24⟩ := by
    rw [H.set_get_same]
    have : takL f 0 = List.replicate 24 0 := by
      unfold takL
      rw [show (List.range 24).map (takB f 0) = (List.range 24).map fun _ => (0 : Int) by
        refine List.map_congr_left fun x _ => ?_
        unfold takB
        rw [if_neg (by omega)]]
      rfl
    rw [this]; rfl
  simp only [H.set_base] at hb3
  have hbb : ((h.set b2 ⟨[nils, i64 0], 2⟩).set b3 ⟨(List.replicate 24 [i64 0]).flatten, 24⟩).base = h.base := rfl
  generalize hHH : (h.set b2 ⟨[nils, i64 0], 2⟩).set b3 ⟨(List.replicate 24 [i64 0]).flatten, 24⟩ = hA at eH g2 g3 hbb ⊢
  -- the loop over the one extent
  refine loopW_of (fun m f' h' => ∃ (i : Nat), m + i = 1 ∧ f' 0 = .slice va (0 + 1) vc ∧ f' 2 = ptr b2 0 ∧ f' 3 = sl b3 0 24 24 ∧ f' 4 = i64 i ∧ Ext h h' ∧ h'.get b2 = some ⟨[nils, i64 0], 2⟩ ∧ h'.get b3 = some ⟨(ints (takL f (if i = 0 then 0 else c))).flatten, 24⟩) 1
    ⟨0, by simp, by simp -implicitDefEqProofs only [go_sem, hb_b2], by simp -implicitDefEqProofs only [go_sem, hb_b2], by simp -implicitDefEqProofs only [go_sem, hb_b2], by simp -implicitDefEqProofs only [go_sem, hb_b2]; rfl, eH, g2, g3⟩ ?_
  clear eH g2 g3 hbb hHH
  rintro m f' h' ⟨i, hm, f0, f2, f3, f4, e, g2, g3⟩
  have hbb := e.1
  obtain ⟨a', c', b', o', e', hc', r2, r3⟩ := hv.ext e
  simp only [Value.slice.injEq, List.length_map, List.length_cons, List.length_nil] at e' hc' r2
  obtain ⟨rfl, _, rfl⟩ := e'
  have d0 := r3 0 [i64 f, i64 c] rfl
  rw [Nat.zero_mul, Nat.add_zero] at d0
  have d00 := ldc_part d0 0 1 (by omega)
  have d01 := ldc_part d0 1 1 (by omega)
  simp only [List.drop_zero, List.take_succ_cons, List.take_zero, Nat.add_zero, List.drop_succ_cons] at d00 d01
  by_cases hi : i = 0
  · subst hi
    simp only [if_true] at g3
    have app : ∀ (hX : H), True := fun _ => trivial
    simp -implicitDefEqProofs only [go_sem, f0, f2, f3, f4, show ((0 : Nat) : Int) < ((0 + 1 : Nat) : Int) by decide, Int.natCast_nonneg, r2, d00, d01, Nat.zero_mul, Nat.add_zero, Int.toNat_natCast, show ¬ ((c : Int) < 1) by omega, show ¬ ((24 : Int) < (c : Int)) by omega, show ¬ ((f : Int) < 0) by omega, wrap_i64 (show -(9223372036854775808 : Int) ≤ (24 - (c : Int)) by omega) (show (24 - (c : Int)) < 9223372036854775808 by omega), show ¬ (24 - (c : Int) < (f : Int)) by omega, hb_b2]
    refine loopW_of (fun m' f' h' => ∃ (j : Nat), m' + j = c ∧ f' 0 = .slice va (0 + 1) vc ∧ f' 2 = ptr b2 0 ∧ f' 3 = sl b3 0 24 24 ∧ f' 4 = i64 (0 : Nat) ∧ f' 5 = i64 ((f + j : Nat) : Int) ∧ Ext h h' ∧ h'.get b2 = some ⟨[nils, i64 0], 2⟩ ∧ h'.get b3 = some ⟨(ints (takL f j)).flatten, 24⟩) c
      ⟨0, by simp, by simp -implicitDefEqProofs only [go_sem, f0, hb_b2], by simp -implicitDefEqProofs only [go_sem, f2, hb_b2], by simp -implicitDefEqProofs only [go_sem, f3, hb_b2], by simp -implicitDefEqProofs only [go_sem, f4, hb_b2], by simp -implicitDefEqProofs only [go_sem, hb_b2], e, g2, g3⟩ ?_
    clear f0 f2 f3 f4 f' g2 g3 d0 d00 d01 r3 e hbb
    rintro m' f' h' ⟨j, hm', f0, f2, f3, f4, f5, e, g2, g3⟩
    have hbb := e.1
    obtain ⟨_, _, b'', o'', e', hc', r2', r3⟩ := hv.ext e
    simp only [Value.slice.injEq, List.length_map, List.length_cons, List.length_nil] at e' hc' r2'
    obtain ⟨rfl, _, rfl⟩ := e'
    have d0 := r3 0 [i64 f, i64 c] rfl
    rw [Nat.zero_mul, Nat.add_zero] at d0
    have d00 := ldc_part d0 0 1 (by omega)
    have d01 := ldc_part d0 1 1 (by omega)
    simp only [List.drop_zero, List.take_succ_cons, List.take_zero, Nat.add_zero, List.drop_succ_cons] at d00 d01
    have hw := wrap_i64 (show -(9223372036854775808 : Int) ≤ ((f : Int) + (c : Int)) by omega) (show ((f : Int) + (c : Int)) < 9223372036854775808 by omega)
    by_cases hj : j < c
    · have hfl : (ints (takL f j)).flatten = (takL f j).map i64 := ints_flat _
      have hlen : (ints (takL f j)).flatten.length = 24 := by rw [hfl]; simp [takL_len]
      have dj : ldc h' b3 (f + j) 1 = some [i64 0] := by
        rw [ldc_get g3, if_pos (by rw [hlen]; omega)]
        simp only
        rw [hfl, List.drop_eq_getElem_cons (by simp [takL_len]; omega)]
        have := takL_get (f := f) (j := j) (k := f + j) (by omega)
        obtain ⟨q1, q2⟩ := List.getElem?_eq_some_iff.1 this
        simp only [List.getElem_map, q2, List.take_succ_cons, List.take_zero]
        unfold takB
        rw [if_neg (by omega)]
      have hst : stc h' b3 (f + j) [i64 1] 1 = some (h'.set b3 ⟨(ints (takL f (j + 1))).flatten, 24⟩) := by
        rw [stc_get g3, if_pos ⟨rfl, by rw [hlen]; omega, rfl⟩]
        simp only
        have := flat_splice (w := 1) (rows := ints (takL f j)) (Wid.map fun _ => rfl) (f + j) (by simp [takL_len]; omega) (r := [i64 1]) rfl
        rw [Nat.mul_one] at this
        rw [this, ← takL_succ (by omega)]
        simp [ints, List.map_set]
      simp -implicitDefEqProofs only [go_sem, f0, f2, f3, f4, f5, r2', d00, d01, hw, Int.natCast_nonneg, Int.toNat_natCast, show ((0 : Nat) : Int) < ((0 + 1 : Nat) : Int) by decide, Nat.zero_mul, Nat.add_zero, Nat.mul_one, show ((f + j : Nat) : Int) < (f : Int) + (c : Int) by omega, show ((f + j : Nat) : Int) < ((24 : Nat) : Int) by omega, dj, hbb, hb3, hst, show IntKind.i64.wrap ((0 : Int) + 1) = 1 from rfl, wrap_i64 (show -(9223372036854775808 : Int) ≤ (((f + j : Nat) : Int) + 1) by omega) (show (((f + j : Nat) : Int) + 1) < 9223372036854775808 by omega), hb_b2]
      refine ⟨m' - 1, by omega, _, Ext.refl _, j + 1, by omega, rfl, e.set' n3h _, by rw [H.set_get_ne _ _ _ _ (fun q => of_eq_false z32 q.symm)]; exact g2, H.set_get_same _ _ _⟩
    · obtain rfl : j = c := by omega
      simp -implicitDefEqProofs only [go_sem, f0, f2, f3, f4, f5, r2', d00, d01, hw, Int.natCast_nonneg, Int.toNat_natCast, show ((0 : Nat) : Int) < ((0 + 1 : Nat) : Int) by decide, Nat.zero_mul, Nat.add_zero, show ¬ (((f + j : Nat) : Int) < (f : Int) + (j : Int)) by omega, wrap_i64 (show -(9223372036854775808 : Int) ≤ (((0 : Nat) : Int) + 1) by omega) (show (((0 : Nat) : Int) + 1) < 9223372036854775808 by omega), hb_b2]
      exact ⟨m - 1, by omega, _, Ext.refl _, 1, by omega, rfl, e, g2, by simpa using g3⟩
  obtain rfl : i = 1 := by omega
  simp only [if_neg hi] at g3
  simp -implicitDefEqProofs only [go_sem, f0, f2, f3, f4, show ¬ (((1 : Nat) : Int) < ((0 + 1 : Nat) : Int)) by decide, hb_b2]
  intro b6 hb6 n6
  simp -implicitDefEqProofs only [go_sem, f2, f3, hb_b2]
  have o6 : Own h (h'.set b6 ⟨[], 0⟩) (sl b6 0 0 0) 1 (ints (runTo f c 0)) := .inr ⟨b6, 0, 0, by simp [runTo], by simp [runTo], by rw [H.set_base]; exact hb6, e.none n6, by rw [H.set_get_same]; simp [runTo], by simp, by intro r hr; simp [runTo] at hr⟩
  have e6 := e.set n6 ⟨[], 0⟩
  have z62 : b2 ≠ b6 := fun q => by rw [← q, g2] at n6; cases n6
  have z63 : b3 ≠ b6 := fun q => by rw [← q, g3] at n6; cases n6
  refine loopW_of (fun m f' h' => ∃ (k : Nat) (u : Value), m + k = 24 ∧ f' 2 = ptr b2 0 ∧ f' 3 = sl b3 0 24 24 ∧ f' 6 = u ∧ f' 7 = i64 k ∧ Ext h h' ∧ h'.get b2 = some ⟨[nils, i64 0], 2⟩ ∧ h'.get b3 = some ⟨(ints (takL f c)).flatten, 24⟩ ∧ Own h h' u 1 (ints (runTo f c k)) ∧ ob u ≠ some b2 ∧ ob u ≠ some b3) 24
    ⟨0, _, by simp, by simp -implicitDefEqProofs only [go_sem, f2, hb_b2], by simp -implicitDefEqProofs only [go_sem, f3, hb_b2], by simp -implicitDefEqProofs only [go_sem, hb_b2], by simp -implicitDefEqProofs only [go_sem, hb_b2]; rfl, e6, by rw [H.set_get_ne _ _ _ _ z62]; exact g2, by rw [H.set_get_ne _ _ _ _ z63]; exact g3, o6, fun q => z62 (by simpa [ob] using q.symm), fun q => z63 (by simpa [ob] using q.symm)⟩ ?_
  clear f0 f2 f3 f4 f' hm m e g2 g3 hbb e6 o6 d0 d00 d01 r3
  rintro m f' h' ⟨k, u, hm, f2, f3, rfl, f7, e, g2, g3, o, ne2, ne3⟩
  have hbb := e.1
  obtain ⟨au, cu, f6⟩ := o.shape
  rw [ints_len] at f6
  rw [f6] at o ne2 ne3
  by_cases hk : k < 24
  rotate_left
  · obtain rfl : k = 24 := by omega
    simp -implicitDefEqProofs only [go_sem, f2, f3, f6, f7, show ¬ (((24 : Nat) : Int) < 24) by omega, hbb, hb_b2, stc_get g2, ldc_get (H.set_get_same _ _ _), hb_b2]
    exact ⟨⟨_, rfl, o.setOb ne2 _⟩, e.set' n_b2 _⟩
  have hfl : (ints (takL f c)).flatten = (takL f c).map i64 := ints_flat _
  have dk : ldc h' b3 k 1 = some [i64 (takB f c k)] := by
    rw [ldc_get g3, if_pos (by rw [hfl]; simp [takL_len]; omega)]
    simp only
    rw [hfl, List.drop_eq_getElem_cons (by simp [takL_len]; omega)]
    obtain ⟨q1, q2⟩ := List.getElem?_eq_some_iff.1 (takL_get (f := f) (j := c) hk)
    simp only [List.getElem_map, q2, List.take_succ_cons, List.take_zero]
  by_cases hin : f ≤ k ∧ k < f + c
  · have ht : takB f c k = 1 := by unfold takB; rw [if_pos hin]
    rw [ht] at dk
    simp -implicitDefEqProofs only [go_sem, f2, f3, f6, f7, show (k : Int) < 24 by omega, show (k : Int) < ((24 : Nat) : Int) by omega, Int.natCast_nonneg, Int.toNat_natCast, Nat.mul_one, dk, hb_b2]
    intro bx hbx nx
    simp -implicitDefEqProofs only [go_sem, f6, hb_b2]
    have z2x : b2 ≠ bx := fun q => by rw [← q, g2] at nx; cases nx
    have z3x : b3 ≠ bx := fun q => by rw [← q, g3] at nx; cases nx
    have rl := runTo_len f c k
    refine appW_ownB (h0 := h) (rows := ints (runTo f c k)) (new := ints [(k : Int)]) (fun d hd => e.none (by
      by_cases q : d = bx
      · subst q; rw [H.set_get_same] at hd; cases hd
      · rw [H.set_get_ne _ _ _ _ q] at hd; exact hd)) (o.ext ((Ext.refl _).set nx _)) rfl (by intro r hr; simp at hr; subst hr; rfl) rfl (by rw [ints_len, rl]; simp; omega) ?_ (by intro q; simp at q)
    intro v' b'' y q1 q2 q3 q4
    have k2 : b2 ≠ b'' := fun q => by
      rcases q2 with q2 | q2
      · exact ne2 (by rw [q]; exact q2)
      · rw [← q, H.set_get_ne _ _ _ _ z2x, g2] at q2; cases q2
    have k3 : b3 ≠ b'' := fun q => by
      rcases q2 with q2 | q2
      · exact ne3 (by rw [q]; exact q2)
      · rw [← q, H.set_get_ne _ _ _ _ z3x, g3] at q2; cases q2
    simp -implicitDefEqProofs only [go_sem, f2, f3, f7, wrap_i64 (show -(9223372036854775808 : Int) ≤ ((k : Int) + 1) by omega) (show ((k : Int) + 1) < 9223372036854775808 by omega), hb_b2]
    refine ⟨m - 1, by omega, _, Ext.refl _, k + 1, v', by omega, rfl, rfl, (e.set nx _).set' q1 _, by rw [H.set_get_ne _ _ _ _ k2, H.set_get_ne _ _ _ _ z2x]; exact g2, by rw [H.set_get_ne _ _ _ _ k3, H.set_get_ne _ _ _ _ z3x]; exact g3, by rw [runTo_in hin.1 hin.2]; simpa using q4, fun q => k2 (q3 _ q), fun q => k3 (q3 _ q)⟩
  · have ht : takB f c k = 0 := by unfold takB; rw [if_neg hin]
    rw [ht] at dk
    simp -implicitDefEqProofs only [go_sem, f2, f3, f6, f7, show (k : Int) < 24 by omega, show (k : Int) < ((24 : Nat) : Int) by omega, Int.natCast_nonneg, Int.toNat_natCast, Nat.mul_one, dk, wrap_i64 (show -(9223372036854775808 : Int) ≤ ((k : Int) + 1) by omega) (show ((k : Int) + 1) < 9223372036854775808 by omega), hb_b2]
    exact ⟨m - 1, by omega, _, Ext.refl _, k + 1, _, by omega, rfl, rfl, e, g2, g3, by rw [runTo_out hin]; exact o, ne2, ne3⟩
end Go.Proofs.Ytdofcojbjcpikaa
