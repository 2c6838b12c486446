/- A helper of this seat's claims (contracts of the functions): what it shows is shown for every input that its statements name, on no other condition. -/
import Derived.Test.YtdofcojbjcpikaaGreatDoorC0
set_option linter.unusedVariables false
set_option linter.unusedSimpArgs false
set_option maxRecDepth 100000
namespace Go.Proofs.YtdofcojbjcpikaaGreatDoor
open Go.KH

/-! ## Records -/
def kept (l : List UStep) : Int := foldi (fun (a : Int) i s => if s.kind = 5 then (i : Int) + 1 else a) 0 l
def keptOf (l : List UStep) : Int := if l.length ≤ 20 then kept l else 0
theorem kept_le (l : List UStep) : 0 ≤ kept l ∧ kept l ≤ l.length := by
  have key : ∀ k, k ≤ l.length → 0 ≤ kept (l.take k) ∧ kept (l.take k) ≤ k := by
    intro k
    induction k with
    | zero => intro _; simp [kept, foldi]
    | succ k ih =>
      intro hk
      have h1 := ih (by omega)
      have ht : kept (l.take (k + 1)) = if l[k].kind = 5 then (k : Int) + 1 else kept (l.take k) := foldi_take _ _ l k (by omega)
      rw [ht]
      split <;> omega
  have := key l.length (Nat.le_refl _)
  rwa [List.take_length] at this
/-- impl.keptOf -/
def b_impl_keptOf : C := (.seq (.ops [q 2 (.mv (.c (i64 0)))])
 (.seq (.ops [q 3 (.mv (.c (i64 0)))])
 (.seq (.seq (.ops [q 6 (.mv (.t 0)), q 7 (.len (.t 6)), q 8 (.mv (.c (i64 0)))])
 (.block 0 (.loop (.seq (.ops [q 9 (.bin .lss (.t 8) (.t 7))])
 (.seq (.cond (.t 9) .skip (.exit 0))
 (.seq (.block 1 (.seq (.ops [q 10 (.mv (.t 8)), q 11 (.idx 4 (.t 6) (.t 8)), q 12 (.ld true 4 (.t 11)), ⟨(some 5), none, .alloc [(i64 0), (i64 0), (i64 0), (str [])]⟩, q 4 (.mv (.t 10)), ⟨none, none, .st 4 (.t 5) (.t 12)⟩])
 (.seq (.ops [q 13 (.fld 0 (.t 5)), q 14 (.ld false 1 (.t 13)), q 15 (.bin .eql (.t 14) (.c (i64 5)))])
 (.cond (.t 15) (.ops [q 16 (.mv (.t 4)), q 17 (.bin .add (.t 16) (.c (i64 1))), q 3 (.mv (.t 17))]) .skip))))
 (.ops [q 18 (.bin .add (.t 8) (.c (i64 1))), q 8 (.mv (.t 18))])))))))
 (.seq (.ops [q 19 (.mv (.t 3)), q 2 (.mv (.t 19))])
 .ret))))
theorem w_impl_keptOf {args : List Value} {h : H} {Q : Value → H → Prop} (hl : args.length ≤ 20) (hk : wpc Tryz.prog b_impl_keptOf (retw [.tmp 2] Q) (argsFr args) h) : AC Tryz.prog 115 args h Q :=
  AC.of_wpc mixedOrders Tryz.func115 (by kernel_rfl) (by kernel_rfl : prepF Tryz.prog Tryz.f115 = some ⟨20, [.tmp 2], b_impl_keptOf⟩) hl hk

theorem keptOf_pc {h : H} {v : Value} {l : List UStep} (hv : Sl h v 4 (l.map UStep.cells)) (hb : l.length ≤ 1048576) : PC Tryz.prog 115 [v] h (i64 (kept l)) := by
  obtain ⟨a, c, b, o, rfl, hcap, h2, h3⟩ := hv
  simp only [List.length_map] at h2
  refine PC_of ?_
  refine w_impl_keptOf (by simp) ?_
  unfold b_impl_keptOf
  simp -implicitDefEqProofs only [go_sem, List.length_map]
  refine loopW_of (fun m f h' => ∃ k, m + k = l.length ∧ h' = h ∧ f 6 = .slice a l.length c ∧ f 7 = i64 l.length ∧ f 8 = i64 k ∧ f 3 = i64 (kept (l.take k))) l.length ⟨0, by simp, rfl, by simp -implicitDefEqProofs only [go_sem, List.length_map], by simp -implicitDefEqProofs only [go_sem, List.length_map], by simp -implicitDefEqProofs only [go_sem]; rfl, by simp -implicitDefEqProofs only [go_sem]; rfl⟩ ?_
  rintro m f h' ⟨k, hm, rfl, f6, f7, f8, f3⟩
  skip
  by_cases hk : k < l.length
  · have e1 := h3 k (l[k]).cells (by simp [hk])
    have ht : kept (l.take (k + 1)) = if l[k].kind = 5 then (k : Int) + 1 else kept (l.take k) := foldi_take _ _ l k hk
    simp -implicitDefEqProofs only [go_sem, hk, e1, f6, f7, f8, f3, h2, Int.ofNat_lt, Int.natCast_nonneg]
    intro b1 hb_b1 n_b1
    simp -implicitDefEqProofs only [go_sem, f6, f7, f8, f3, h2, Int.ofNat_lt, Int.natCast_nonneg, hb_b1]
    refine Br.of (fun hkind => ?_) (fun hkind => ?_)
    · simp -implicitDefEqProofs only [go_sem, hkind, wrap_i64 (show -(9223372036854775808 : Int) ≤ ((k : Int) + 1) by omega) (show ((k : Int) + 1) < 9223372036854775808 by omega), f6, f7, f8, f3, h2, Int.ofNat_lt, Int.natCast_nonneg, hb_b1]
      refine ⟨m - 1, by omega, _, ((Ext.refl _).set' n_b1 _), k + 1, by omega, ?_⟩
      rw [ht, if_pos hkind]
      repeat' first | apply And.intro | rfl | trivial | assumption | omega
    · simp -implicitDefEqProofs only [go_sem, hkind, wrap_i64 (show -(9223372036854775808 : Int) ≤ ((k : Int) + 1) by omega) (show ((k : Int) + 1) < 9223372036854775808 by omega), f6, f7, f8, f3, h2, Int.ofNat_lt, Int.natCast_nonneg, hb_b1]
      refine ⟨m - 1, by omega, _, ((Ext.refl _).set' n_b1 _), k + 1, by omega, ?_⟩
      rw [ht, if_neg hkind]
      repeat' first | apply And.intro | rfl | trivial | assumption | omega
  · have e : k = l.length := by omega
    subst e
    skip
    simp -implicitDefEqProofs only [go_sem, Nat.lt_irrefl, List.take_length, f6, f7, f8, f3, h2, Int.ofNat_lt, Int.natCast_nonneg]
    exact Ext.refl _
/-- spec.KeptOf -/
def b_spec_KeptOf : C := (.seq (.ops [q 2 (.mv (.c (i64 0)))])
 (.seq (.ops [q 3 (.mv (.c (i64 0)))])
 (.seq (.seq (.ops [q 4 (.mv (.c (i64 0)))])
 (.block 0 (.loop (.seq (.seq (.ops [q 5 (.mv (.t 4)), q 6 (.mv (.t 0)), q 7 (.len (.t 6)), q 8 (.bin .lss (.t 5) (.t 7)), q 9 (.mv (.t 8)), qg 10 9 true (.mv (.t 0)), qg 11 9 true (.len (.t 10)), qg 12 9 true (.bin .leq (.t 11) (.c (i64 20))), q 13 (.pick (.t 9) (.t 12) (.c (.bool false)))])
 (.cond (.t 13) .skip (.exit 0)))
 (.seq (.block 1 (.seq (.ops [q 16 (.mv (.t 0)), q 17 (.mv (.t 4)), q 18 (.idx 4 (.t 16) (.t 17)), q 19 (.fld 0 (.t 18)), q 20 (.ld false 1 (.t 19)), q 21 (.bin .eql (.t 20) (.c (i64 5)))])
 (.cond (.t 21) (.ops [q 22 (.mv (.t 4)), q 23 (.bin .add (.t 22) (.c (i64 1))), q 3 (.mv (.t 23))]) .skip)))
 (.ops [q 14 (.mv (.t 4)), q 15 (.bin .add (.t 14) (.c (i64 1))), q 4 (.mv (.t 15))]))))))
 (.seq (.ops [q 24 (.mv (.t 3)), q 2 (.mv (.t 24))])
 .ret))))
theorem w_spec_KeptOf {args : List Value} {h : H} {Q : Value → H → Prop} (hl : args.length ≤ 25) (hk : wpc Tryz.prog b_spec_KeptOf (retw [.tmp 2] Q) (argsFr args) h) : AC Tryz.prog 124 args h Q :=
  AC.of_wpc mixedOrders Tryz.func124 (by kernel_rfl) (by kernel_rfl : prepF Tryz.prog Tryz.f124 = some ⟨25, [.tmp 2], b_spec_KeptOf⟩) hl hk

theorem specKeptOf_pc {h : H} {v : Value} {l : List UStep} (hv : Sl h v 4 (l.map UStep.cells)) (hb : l.length ≤ 1048576) : PC Tryz.prog 124 [v] h (i64 (keptOf l)) := by
  obtain ⟨a, c, b, o, rfl, hcap, h2, h3⟩ := hv
  simp only [List.length_map] at h2
  refine w_spec_KeptOf (by simp) ?_
  unfold b_spec_KeptOf
  simp -implicitDefEqProofs only [go_sem, List.length_map]
  refine loopW_of (fun m f h' => ∃ k, m + k = l.length ∧ h' = h ∧ f 0 = .slice a l.length c ∧ f 4 = i64 k ∧ f 3 = i64 (kept (l.take k)) ∧ (k ≠ 0 → l.length ≤ 20)) l.length ⟨0, by simp, rfl, by simp -implicitDefEqProofs only [go_sem, List.length_map], by simp -implicitDefEqProofs only [go_sem]; rfl, by simp -implicitDefEqProofs only [go_sem]; rfl, by simp⟩ ?_
  rintro m f h' ⟨k, hm, rfl, f0, f4, f3, h0⟩
  skip
  by_cases h40 : l.length ≤ 20
  · by_cases hk : k < l.length
    · have e1 := h3 k (l[k]).cells (by simp [hk])
      have e2 := ldc_part e1 0 1 (by omega)
      simp only [Nat.add_zero] at e2
      have ht : kept (l.take (k + 1)) = if l[k].kind = 5 then (k : Int) + 1 else kept (l.take k) := foldi_take _ _ l k hk
      simp -implicitDefEqProofs only [go_sem, hk, e2, show (l.length : Int) ≤ 20 by omega, wrap_i64 (show -(9223372036854775808 : Int) ≤ ((k : Int) + 1) by omega) (show ((k : Int) + 1) < 9223372036854775808 by omega), f0, f4, f3, h2, Int.ofNat_lt, Int.natCast_nonneg]
      refine Br.of (fun hkind => ?_) (fun hkind => ?_)
      · simp -implicitDefEqProofs only [go_sem, hkind, wrap_i64 (show -(9223372036854775808 : Int) ≤ ((k : Int) + 1) by omega) (show ((k : Int) + 1) < 9223372036854775808 by omega), f0, f4, f3, h2, Int.ofNat_lt, Int.natCast_nonneg]
        refine ⟨m - 1, by omega, _, Ext.refl _, k + 1, by omega, ?_⟩
        rw [ht, if_pos hkind]
        repeat' first | apply And.intro | rfl | trivial | assumption | omega
      · simp -implicitDefEqProofs only [go_sem, hkind, wrap_i64 (show -(9223372036854775808 : Int) ≤ ((k : Int) + 1) by omega) (show ((k : Int) + 1) < 9223372036854775808 by omega), f0, f4, f3, h2, Int.ofNat_lt, Int.natCast_nonneg]
        refine ⟨m - 1, by omega, _, Ext.refl _, k + 1, by omega, ?_⟩
        rw [ht, if_neg hkind]
        repeat' first | apply And.intro | rfl | trivial | assumption | omega
    · have e : k = l.length := by omega
      subst e
      simp -implicitDefEqProofs only [go_sem, Nat.lt_irrefl, List.take_length, keptOf, h40, f0, f4, f3, h2, Int.ofNat_lt, Int.natCast_nonneg]
  · have e : k = 0 := Decidable.byContradiction fun e => h40 (h0 e)
    subst e
    simp -implicitDefEqProofs only [go_sem, show 0 < l.length by omega, show ¬ (l.length : Int) ≤ 20 by omega, keptOf, h40, f0, f4, f3, h2, Int.ofNat_lt, Int.natCast_nonneg]
    rfl
end Go.Proofs.YtdofcojbjcpikaaGreatDoor
