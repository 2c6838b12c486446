/- A helper of this seat's claims (contracts of the functions): what it shows is shown for every input that its statements name, on no other condition. -/
import Derived.Test.YthjbhdmjfakfaaaGreatDoorMCDw
set_option linter.unusedVariables false
set_option linter.unusedSimpArgs false
set_option maxRecDepth 100000
namespace Go.Proofs.YthjbhdmjfakfaaaGreatDoor
open Go.KH

/-! ## Steps held together, and places drawn, in the laws -/
/-- laws.lwSteps -/
def b_laws_lwSteps : C := (.seq (.ops [q 4 (.mv (.c (.bool false)))])
 (.seq (.seq (.ops [q 6 (.mv (.t 0)), q 7 (.len (.t 6)), q 8 (.mv (.t 1)), q 9 (.len (.t 8)), q 10 (.bin .neq (.t 7) (.t 9))])
 (.cond (.t 10) (.seq (.ops [q 4 (.mv (.c (.bool false)))])
 .ret) .skip))
 (.seq (.seq (.ops [q 5 (.mv (.c (i64 0)))])
 (.block 0 (.loop (.seq (.seq (.ops [q 11 (.mv (.t 5)), q 12 (.mv (.t 0)), q 13 (.len (.t 12)), q 14 (.bin .lss (.t 11) (.t 13))])
 (.cond (.t 14) .skip (.exit 0)))
 (.seq (.block 1 (.seq (.dops true (.tk (q 17 (.mv (.t 0))) (.tk (q 18 (.mv (.t 5))) (.tk (q 19 (.idx 4 (.t 17) (.t 18))) (.tk (q 20 (.ld true 4 (.t 19))) (.tk (q 21 (.mv (.t 1))) (.tk (q 22 (.mv (.t 5))) (.tk (q 23 (.idx 4 (.t 21) (.t 22))) (.tk (q 24 (.ld true 4 (.t 23))) (.tk (q 25 (.eqa true [.i, .i, .i, .s] (.t 20) (.t 24))) .nil))))))))))
 (.cond (.t 25) (.seq (.ops [q 4 (.mv (.c (.bool false)))])
 .ret) .skip)))
 (.ops [q 15 (.mv (.t 5)), q 16 (.bin .add (.t 15) (.c (i64 1))), q 5 (.mv (.t 16))]))))))
 (.seq (.ops [q 4 (.mv (.c (.bool true)))])
 .ret))))
theorem w_laws_lwSteps {args : List Value} {h : H} {Q : Value → H → Prop} (hl : args.length ≤ 26) (hk : wpc Tryz.prog b_laws_lwSteps (retw [.tmp 4] Q) (argsFr args) h) : AC Tryz.prog 50 args h Q :=
  AC.of_wpc mixedOrders Tryz.func50 (by kernel_rfl) (by kernel_rfl : prepF Tryz.prog Tryz.f50 = some ⟨26, [.tmp 4], b_laws_lwSteps⟩) hl hk

theorem lwSteps_pc {h : H} {v1 v2 : Value} {l1 l2 : List UStep} (hv : Sl h v1 4 (List.map UStep.cells l1)) (hu : Sl h v2 4 (List.map UStep.cells l2)) (hn : l1.length ≤ 1048576) : PC Tryz.prog 50 [v1, v2] h (.bool (decide (l1 = l2))) := by
  obtain ⟨a, c, b, o, rfl, hc, r2, r3⟩ := hv
  obtain ⟨a', c', b', o', rfl, hc', q2, q3⟩ := hu
  have e1 : (List.map UStep.cells l1).length = l1.length := by simp
  have e2 : (List.map UStep.cells l2).length = l2.length := by simp
  rw [e1] at r2
  rw [e2] at q2
  skip
  by_cases hl : l1.length = l2.length
  rotate_left
  · refine w_laws_lwSteps (by simp) ?_
    unfold b_laws_lwSteps
    simp -implicitDefEqProofs only [go_sem, hl, show ¬ ((l1.length : Int) = (l2.length : Int)) by omega, e1, e2]
    exact dec_f fun h => hl (by rw [h])
  have hl0 : decide ((l1.length : Int) = (l2.length : Int)) = true := decide_eq_true (by omega)
  have hl1 : ((l1.length : Int) ≠ (l2.length : Int)) = False := eq_false fun h => h (by omega)
  refine w_laws_lwSteps (by simp) ?_
  unfold b_laws_lwSteps
  simp -implicitDefEqProofs only [go_sem, hl0, hl1, e1, e2]
  refine loopW_of (fun m f h' => ∃ k, m + k = l1.length ∧ h' = h ∧ f 0 = .slice a l1.length c ∧ f 1 = .slice a' l2.length c' ∧ f 5 = i64 k ∧ l1.take k = l2.take k) l1.length
    ⟨0, by simp, rfl, by simp -implicitDefEqProofs only [go_sem, e1, e2], by simp -implicitDefEqProofs only [go_sem, e1, e2], by simp -implicitDefEqProofs only [go_sem, e1, e2]; rfl, by simp⟩ ?_
  rintro m f h' ⟨k, hm, rfl, f0, f1, f5, ht⟩
  skip
  by_cases hk : k < l1.length
  · have hk2 : k < l2.length := by omega
    have d1 := r3 k _ (show (List.map UStep.cells l1)[k]? = some (l1[k]).cells by simp [hk])
    have d2 := q3 k _ (show (List.map UStep.cells l2)[k]? = some (l2[k]).cells by simp [hk2])
    have hs : l1.take (k + 1) = l2.take (k + 1) ↔ l1[k] = l2[k] := by
      rw [List.take_succ_eq_append_getElem hk, List.take_succ_eq_append_getElem hk2, ht]
      exact ⟨fun h => (List.cons.inj (List.append_cancel_left h)).1, fun h => by rw [h]⟩
    by_cases he : l1[k] = l2[k]
    · have he2 : (l1[k].kind = l2[k].kind ∧ l1[k].dst = l2[k].dst ∧ l1[k].src = l2[k].src ∧ l1[k].data = l2[k].data) = True := eq_true (by rw [he]; simp)
      simp -implicitDefEqProofs only [go_sem, hk, hk2, r2, q2, d1, d2, cellsEq_iiis, he2, wrap_i64 (show -(9223372036854775808 : Int) ≤ ((k : Int) + 1) by omega) (show ((k : Int) + 1) < 9223372036854775808 by omega), e1, e2, f0, f1, f5, Int.ofNat_lt, Int.natCast_nonneg]
      exact ⟨m - 1, by omega, h', Ext.refl _, k + 1, by omega, rfl, rfl, hs.2 he⟩
    · have he2 : (l1[k].kind = l2[k].kind ∧ l1[k].dst = l2[k].dst ∧ l1[k].src = l2[k].src ∧ l1[k].data = l2[k].data) = False := eq_false fun q => he (by cases h1 : l1[k]; cases h2 : l2[k]; simp_all)
      simp -implicitDefEqProofs only [go_sem, hk, hk2, r2, q2, d1, d2, cellsEq_iiis, he2, e1, e2, f0, f1, f5, Int.ofNat_lt, Int.natCast_nonneg]
      exact dec_f fun h => he (hs.1 (by rw [h]))
  · have e : k = l1.length := by omega
    subst e
    simp -implicitDefEqProofs only [go_sem, Nat.lt_irrefl, e1, e2, f0, f1, f5, Int.ofNat_lt, Int.natCast_nonneg]
    exact dec_t (by rw [List.take_length, hl, List.take_length] at ht; exact ht)
/-- laws.lwAt -/
def b_laws_lwAt : C := (.seq (.ops [q 6 (.mv (.c (i64 0)))])
 (.seq (.seq (.ops [q 7 (.mv (.t 2)), q 8 (.bin .leq (.t 7) (.c (i64 1))), q 9 (.mv (.t 8)), qg 10 9 false (.mv (.t 0)), qg 11 9 false (.len (.t 10)), qg 12 9 false (.bin .eql (.t 11) (.c (i64 0))), q 13 (.pick (.t 9) (.c (.bool true)) (.t 12))])
 (.cond (.t 13) (.seq (.ops [q 6 (.mv (.c (i64 0)))])
 .ret) .skip))
 (.seq (.ops [q 14 (.mv (.t 0)), q 15 (.mv (.t 1)), q 16 (.mv (.t 0)), q 17 (.len (.t 16)), q 18 (.bin .rem (.t 15) (.t 17)), q 19 (.idx 1 (.t 14) (.t 18)), q 20 (.ld false 1 (.t 19)), q 21 (.cv .i64 (.t 20)), q 22 (.mv (.t 2)), q 23 (.bin .rem (.t 21) (.t 22)), q 6 (.mv (.t 23))])
 .ret)))
theorem w_laws_lwAt {args : List Value} {h : H} {Q : Value → H → Prop} (hl : args.length ≤ 24) (hk : wpc Tryz.prog b_laws_lwAt (retw [.tmp 6] Q) (argsFr args) h) : AC Tryz.prog 21 args h Q :=
  AC.of_wpc mixedOrders Tryz.func21 (by kernel_rfl) (by kernel_rfl : prepF Tryz.prog Tryz.f21 = some ⟨24, [.tmp 6], b_laws_lwAt⟩) hl hk

theorem lwAt_pc {h : H} {v : Value} {l : List UInt8} {at' : Nat} {most : Int} (hv : Sl h v 1 (bys l)) (hn : l.length ≤ 1048576) (ha : at' ≤ 1000) (hm : in64 most) : ∃ k : Int, (0 ≤ k ∧ (1 < most → k < most) ∧ (most ≤ 1 → k = 0)) ∧ PC Tryz.prog 21 [v, i64 at', i64 most] h (i64 k) := by
  obtain ⟨a, c, b, o, rfl, hc, r2, r3⟩ := hv
  have e1 : (bys l).length = l.length := by simp [bys]
  rw [e1] at r2
  by_cases h1 : most ≤ 1
  · refine ⟨0, ⟨by omega, by omega, fun _ => rfl⟩, PC_of ?_⟩
    skip
    refine w_laws_lwAt (by simp) ?_
    unfold b_laws_lwAt
    simp -implicitDefEqProofs only [go_sem, h1, e1]
    exact Ext.refl _
  by_cases h0 : l.length = 0
  · refine ⟨0, ⟨by omega, by omega, fun _ => rfl⟩, PC_of ?_⟩
    skip
    refine w_laws_lwAt (by simp) ?_
    unfold b_laws_lwAt
    simp -implicitDefEqProofs only [go_sem, h1, h0, show ((0 : Nat) : Int) = 0 from rfl, e1, e1]
    exact Ext.refl _
  · have hlt := Nat.mod_lt at' (show l.length > 0 by omega)
    have hq : (at' : Int).tmod (l.length : Int) = ((at' % l.length : Nat) : Int) := by
      rw [Int.tmod_eq_emod_of_nonneg (by omega), ← Int.natCast_emod]
    have d := r3 (at' % l.length) [u8 (l[at' % l.length]).toNat] (by simp [bys, hlt])
    obtain ⟨x, hx⟩ : ∃ x : Nat, (l[at' % l.length]).toNat = x := ⟨_, rfl⟩
    have hx2 : x < 256 := by rw [← hx]; exact UInt8.toNat_lt _
    rw [hx] at d
    have hw : IntKind.i64.wrap (x : Int) = (x : Int) := wrap_i64 (by omega) (by omega)
    have h5 : (0 : Int) ≤ (x : Int).tmod most ∧ (x : Int).tmod most < most ∧ (x : Int).tmod most ≤ x := by
      rw [Int.tmod_eq_emod_of_nonneg (by omega)]
      exact ⟨Int.emod_nonneg _ (by omega), Int.emod_lt_of_pos _ (by omega), by
        have := Int.emod_add_mul_ediv (x : Int) most
        have h6 : 0 ≤ (x : Int) / most := Int.ediv_nonneg (by omega) (by omega)
        have h7 : 0 ≤ most * ((x : Int) / most) := Int.mul_nonneg (by omega) h6
        omega⟩
    refine ⟨(x : Int).tmod most, ⟨h5.1, fun _ => h5.2.1, fun h => absurd h h1⟩, PC_of ?_⟩
    have hw2 : IntKind.i64.wrap ((x : Int).tmod most) = (x : Int).tmod most := wrap_i64 (by omega) (by omega)
    skip
    refine w_laws_lwAt (by simp) ?_
    unfold b_laws_lwAt
    simp -implicitDefEqProofs only [go_sem, h1, show ¬ ((l.length : Int) = 0) by omega, hq, show ¬ (most = 0) by omega, Int.ofNat_lt, Int.natCast_nonneg, hlt, r2, d, hw, hw2, e1, e1, e1]
    exact Ext.refl _
end Go.Proofs.YthjbhdmjfakfaaaGreatDoor
