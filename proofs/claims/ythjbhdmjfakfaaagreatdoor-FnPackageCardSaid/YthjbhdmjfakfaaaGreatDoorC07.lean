/- A helper of this seat's claims (contracts of the functions): what it shows is shown for every input that its statements name, on no other condition. -/
import Derived.Test.YthjbhdmjfakfaaaGreatDoorMC0
import Derived.Test.YthjbhdmjfakfaaaGreatDoorC06
set_option linter.unusedVariables false
set_option linter.unusedSimpArgs false
set_option maxRecDepth 100000
namespace Go.Proofs.YthjbhdmjfakfaaaGreatDoor
open Go.KH

/-! ## Images -/
def imageOk (l : List (List UInt8)) : Prop := (1 ≤ l.length ∧ l.length ≤ 8) ∧ ∀ s ∈ l, s.length = 8
instance (l : List (List UInt8)) : Decidable (imageOk l) := by unfold imageOk; infer_instance
theorem firstAt_any {α : Type} (p : α → Bool) (l : List α) : decide (0 ≤ firstAt p l) = l.any p := by
  cases h : l.any p with
  | true =>
    obtain ⟨x, hx, hp⟩ := List.any_eq_true.1 h
    obtain ⟨k, hk, e⟩ : ∃ k, ∃ hk : k < l.length, p l[k] = true := by obtain ⟨k, hk, rfl⟩ := List.getElem_of_mem hx; exact ⟨k, hk, hp⟩
    apply decide_eq_true
    by_cases h0 : 0 ≤ firstAt p l
    · exact h0
    · have hle := firstAt_le p l
      have : firstAt p l = -1 := by omega
      unfold firstAt at this
      split at this
      · omega
      · rename_i hn; rw [List.findIdx?_eq_none_iff] at hn; have := hn _ (List.getElem_mem hk); rw [e] at this; cases this
  | false =>
    apply decide_eq_false
    rw [firstAt_none (fun i hi => by
      have := List.any_eq_false.1 h l[i] (List.getElem_mem hi)
      simpa using this)]
    omega
/-- impl.size[string] -/
def b_impl_size_string : C := (.seq (.ops [q 2 (.mv (.c (i64 0)))])
 (.seq (.ops [q 3 (.mv (.t 0)), q 4 (.len (.t 3)), q 2 (.mv (.t 4))])
 .ret))
theorem w_impl_size_string {args : List Value} {h : H} {Q : Value → H → Prop} (hl : args.length ≤ 5) (hk : wpc Tryz.prog b_impl_size_string (retw [.tmp 2] Q) (argsFr args) h) : AC Tryz.prog 35 args h Q :=
  AC.of_wpc mixedOrders Tryz.func35 (by kernel_rfl) (by kernel_rfl : prepF Tryz.prog Tryz.f35 = some ⟨5, [.tmp 2], b_impl_size_string⟩) hl hk

theorem sizeStr_pc {h : H} {v : Value} {l : List (List UInt8)} (hv : Sl h v 1 (strs l)) : PC Tryz.prog 35 [v] h (i64 l.length) := by
  obtain ⟨a, c, b, o, rfl, hcap, h2, h3⟩ := hv
  rw [List.length_map]
  refine w_impl_size_string (by simp) ?_
  unfold b_impl_size_string
  simp -implicitDefEqProofs only [go_sem]
/-- impl.isBlocks -/
def b_impl_isBlocks : C := (.seq (.ops [q 2 (.mv (.c (.bool false)))])
 (.seq (.ops [q 3 (.mv (.t 0)), ⟨(some 4), none, .call (.c (.func (.func 140) #[] #[])) [(.t 3), (.c (i64 1)), (.c (i64 8))]⟩, q 2 (.mv (.t 4))])
 .ret))
theorem w_impl_isBlocks {args : List Value} {h : H} {Q : Value → H → Prop} (hl : args.length ≤ 5) (hk : wpc Tryz.prog b_impl_isBlocks (retw [.tmp 2] Q) (argsFr args) h) : AC Tryz.prog 84 args h Q :=
  AC.of_wpc mixedOrders Tryz.func84 (by kernel_rfl) (by kernel_rfl : prepF Tryz.prog Tryz.f84 = some ⟨5, [.tmp 2], b_impl_isBlocks⟩) hl hk

theorem isBlocks_pc (h : H) (n : Int) : PC Tryz.prog 84 [i64 n] h (.bool (decide (1 ≤ n ∧ n ≤ 8))) := by
  refine w_impl_isBlocks (by simp) ?_
  unfold b_impl_isBlocks
  simp -implicitDefEqProofs only [go_sem]
  refine (within_pc _ _ _ _).use ?_
  simp -implicitDefEqProofs only [go_sem]
/-- slices.IndexFunc[[]string,string] -/
def b_slices_IndexFunc_string_string : C := (.seq (.ops [q 4 (.mv (.c (i64 0)))])
 (.seq (.seq (.ops [q 6 (.mv (.t 0)), q 7 (.len (.t 6)), q 8 (.mv (.c (i64 0)))])
 (.block 0 (.loop (.seq (.ops [q 9 (.bin .lss (.t 8) (.t 7))])
 (.seq (.cond (.t 9) .skip (.exit 0))
 (.seq (.block 1 (.seq (.ops [q 10 (.mv (.t 8)), q 5 (.mv (.t 10))])
 (.seq (.ops [q 11 (.mv (.t 1)), q 12 (.mv (.t 0)), q 13 (.mv (.t 5)), q 14 (.idx 1 (.t 12) (.t 13)), q 15 (.ld false 1 (.t 14)), ⟨(some 16), none, .call (.t 11) [(.t 15)]⟩])
 (.cond (.t 16) (.seq (.ops [q 17 (.mv (.t 5)), q 4 (.mv (.t 17))])
 .ret) .skip))))
 (.ops [q 18 (.bin .add (.t 8) (.c (i64 1))), q 8 (.mv (.t 18))])))))))
 (.seq (.ops [q 4 (.mv (.c (i64 (-1))))])
 .ret)))
theorem w_slices_IndexFunc_string_string {args : List Value} {h : H} {Q : Value → H → Prop} (hl : args.length ≤ 19) (hk : wpc Tryz.prog b_slices_IndexFunc_string_string (retw [.tmp 4] Q) (argsFr args) h) : AC Tryz.prog 90 args h Q :=
  AC.of_wpc mixedOrders Tryz.func90 (by kernel_rfl) (by kernel_rfl : prepF Tryz.prog Tryz.f90 = some ⟨19, [.tmp 4], b_slices_IndexFunc_string_string⟩) hl hk

theorem indexStr_pc {h : H} {v : Value} {l : List (List UInt8)} {p : List UInt8 → Bool} {n : Nat} {caps : List Value} (hv : Sl h v 1 (strs l)) (hn : l.length ≤ 1048576) (hc : ∀ x, x ∈ l → PC Tryz.prog n (str x :: caps) h (.bool (p x))) :
    PC Tryz.prog 90 [v, .func (.func n) #[] caps.toArray] h (i64 (firstAt p l)) :=
  w_slices_IndexFunc_string_string (by simp) (if1_wpc hv hn hc ⟨rfl, rfl⟩)
/-- slices.ContainsFunc[[]string,string] -/
def b_slices_ContainsFunc_string_string : C := (.seq (.ops [q 4 (.mv (.c (.bool false)))])
 (.seq (.ops [q 5 (.mv (.t 0)), q 6 (.mv (.t 1)), ⟨(some 7), none, .call (.c (.func (.func 90) #[] #[])) [(.t 5), (.t 6)]⟩, q 8 (.bin .geq (.t 7) (.c (i64 0))), q 4 (.mv (.t 8))])
 .ret))
theorem w_slices_ContainsFunc_string_string {args : List Value} {h : H} {Q : Value → H → Prop} (hl : args.length ≤ 9) (hk : wpc Tryz.prog b_slices_ContainsFunc_string_string (retw [.tmp 4] Q) (argsFr args) h) : AC Tryz.prog 85 args h Q :=
  AC.of_wpc mixedOrders Tryz.func85 (by kernel_rfl) (by kernel_rfl : prepF Tryz.prog Tryz.f85 = some ⟨9, [.tmp 4], b_slices_ContainsFunc_string_string⟩) hl hk

theorem containsStr_pc {h : H} {v : Value} {l : List (List UInt8)} {p : List UInt8 → Bool} {n : Nat} {caps : List Value} (hv : Sl h v 1 (strs l)) (hn : l.length ≤ 1048576) (hc : ∀ x, x ∈ l → PC Tryz.prog n (str x :: caps) h (.bool (p x))) :
    PC Tryz.prog 85 [v, .func (.func n) #[] caps.toArray] h (.bool (l.any p)) := by
  rw [← firstAt_any]
  refine w_slices_ContainsFunc_string_string (by simp) ?_
  unfold b_slices_ContainsFunc_string_string
  simp -implicitDefEqProofs only [go_sem]
  refine (indexStr_pc hv hn hc).use ?_
  simp -implicitDefEqProofs only [go_sem]
/-- impl.isImage$1 -/
def b_impl_isImage_1 : C := (.seq (.ops [q 2 (.mv (.c (.bool false)))])
 (.seq (.ops [q 3 (.mv (.t 0)), q 4 (.slen (.t 3)), q 5 (.bin .neq (.t 4) (.c (i64 8))), q 2 (.mv (.t 5))])
 .ret))
theorem w_impl_isImage_1 {args : List Value} {h : H} {Q : Value → H → Prop} (hl : args.length ≤ 6) (hk : wpc Tryz.prog b_impl_isImage_1 (retw [.tmp 2] Q) (argsFr args) h) : AC Tryz.prog 86 args h Q :=
  AC.of_wpc mixedOrders Tryz.func86 (by kernel_rfl) (by kernel_rfl : prepF Tryz.prog Tryz.f86 = some ⟨6, [.tmp 2], b_impl_isImage_1⟩) hl hk

theorem isImage1_pc (h : H) (s : List UInt8) : PC Tryz.prog 86 [str s] h (.bool (decide (¬ s.length = 8))) := by
  refine w_impl_isImage_1 (by simp) ?_
  unfold b_impl_isImage_1
  simp -implicitDefEqProofs only [go_sem]
  exact bool_eq (by omega)
/-- impl.isImage -/
def b_impl_isImage : C := (.seq (.ops [q 2 (.mv (.c (.bool false)))])
 (.seq (.ops [q 3 (.mv (.t 0)), ⟨(some 4), none, .call (.c (.func (.func 35) #[] #[])) [(.t 3)]⟩, ⟨(some 5), none, .call (.c (.func (.func 84) #[] #[])) [(.t 4)]⟩, q 6 (.mv (.t 5)), qg 7 6 true (.mv (.t 0)), ⟨(some 8), (some (6, true)), .call (.c (.func (.func 85) #[] #[])) [(.t 7), (.c (.func (.func 86) #[] #[]))]⟩, qg 9 6 true (.un .not (.t 8)), q 10 (.pick (.t 6) (.t 9) (.c (.bool false))), q 2 (.mv (.t 10))])
 .ret))
theorem w_impl_isImage {args : List Value} {h : H} {Q : Value → H → Prop} (hl : args.length ≤ 11) (hk : wpc Tryz.prog b_impl_isImage (retw [.tmp 2] Q) (argsFr args) h) : AC Tryz.prog 34 args h Q :=
  AC.of_wpc mixedOrders Tryz.func34 (by kernel_rfl) (by kernel_rfl : prepF Tryz.prog Tryz.f34 = some ⟨11, [.tmp 2], b_impl_isImage⟩) hl hk

theorem isImage_pc {h : H} {v : Value} {l : List (List UInt8)} (hv : Sl h v 1 (strs l)) (hn : l.length ≤ 1048576) : PC Tryz.prog 34 [v] h (.bool (decide (imageOk l))) := by
  refine w_impl_isImage (by simp) ?_
  unfold b_impl_isImage
  simp -implicitDefEqProofs only [go_sem]
  refine (sizeStr_pc hv).use ?_
  simp -implicitDefEqProofs only [go_sem]
  refine (isBlocks_pc _ _).use ?_
  simp -implicitDefEqProofs only [go_sem]
  refine Br.of (fun h1 => ?_) (fun h1 => ?_)
  · simp -implicitDefEqProofs only [go_sem, h1]
    have := containsStr_pc (caps := []) hv hn (fun x _ => isImage1_pc h x)
    refine this.use ?_
    simp -implicitDefEqProofs only [go_sem]
    by_cases h2 : ∀ s ∈ l, s.length = 8
    · have : l.any (fun s => decide (¬ s.length = 8)) = false := by rw [List.any_eq_false]; intro x hx; simp [h2 x hx]
      rw [this]
      simp -implicitDefEqProofs only [go_sem, h1]
      exact dec_t (p := imageOk l) ⟨by omega, h2⟩
    · have : l.any (fun s => decide (¬ s.length = 8)) = true := by
        rw [List.any_eq_true]
        obtain ⟨x, hx⟩ := Classical.not_forall.1 h2
        obtain ⟨hx, hy⟩ := Classical.not_imp.1 hx
        exact ⟨x, hx, by simp [hy]⟩
      rw [this]
      simp -implicitDefEqProofs only [go_sem, h1]
      exact dec_f (p := imageOk l) fun h => h2 h.2
  · simp -implicitDefEqProofs only [go_sem, h1]
    exact dec_f (p := imageOk l) fun h => h1 (by have := h.1; omega)
/-- spec.ImageRight -/
def b_spec_ImageRight : C := (.seq (.ops [q 2 (.mv (.c (.bool false)))])
 (.seq (.seq (.ops [q 4 (.mv (.t 0)), q 5 (.len (.t 4)), q 6 (.bin .lss (.t 5) (.c (i64 1))), q 7 (.mv (.t 6)), qg 8 7 false (.mv (.t 0)), qg 9 7 false (.len (.t 8)), qg 10 7 false (.bin .gtr (.t 9) (.c (i64 8))), q 11 (.pick (.t 7) (.c (.bool true)) (.t 10))])
 (.cond (.t 11) (.seq (.ops [q 2 (.mv (.c (.bool false)))])
 .ret) .skip))
 (.seq (.seq (.ops [q 3 (.mv (.c (i64 0)))])
 (.block 0 (.loop (.seq (.seq (.ops [q 12 (.mv (.t 3)), q 13 (.mv (.t 0)), q 14 (.len (.t 13)), q 15 (.bin .lss (.t 12) (.t 14))])
 (.cond (.t 15) .skip (.exit 0)))
 (.seq (.block 1 (.seq (.ops [q 18 (.mv (.t 0)), q 19 (.mv (.t 3)), q 20 (.idx 1 (.t 18) (.t 19)), q 21 (.ld false 1 (.t 20)), q 22 (.slen (.t 21)), q 23 (.bin .neq (.t 22) (.c (i64 8)))])
 (.cond (.t 23) (.seq (.ops [q 2 (.mv (.c (.bool false)))])
 .ret) .skip)))
 (.ops [q 16 (.mv (.t 3)), q 17 (.bin .add (.t 16) (.c (i64 1))), q 3 (.mv (.t 17))]))))))
 (.seq (.ops [q 2 (.mv (.c (.bool true)))])
 .ret))))
theorem w_spec_ImageRight {args : List Value} {h : H} {Q : Value → H → Prop} (hl : args.length ≤ 24) (hk : wpc Tryz.prog b_spec_ImageRight (retw [.tmp 2] Q) (argsFr args) h) : AC Tryz.prog 52 args h Q :=
  AC.of_wpc mixedOrders Tryz.func52 (by kernel_rfl) (by kernel_rfl : prepF Tryz.prog Tryz.f52 = some ⟨24, [.tmp 2], b_spec_ImageRight⟩) hl hk

theorem specImageRight_pc {h : H} {v : Value} {l : List (List UInt8)} (hv : Sl h v 1 (strs l)) (hn : l.length ≤ 1048576) : PC Tryz.prog 52 [v] h (.bool (decide (imageOk l))) := by
  obtain ⟨a, c, b, o, rfl, hcap, h2, h3⟩ := hv
  simp only [List.length_map] at h2
  skip
  refine w_spec_ImageRight (by simp) ?_
  unfold b_spec_ImageRight
  simp -implicitDefEqProofs only [go_sem, List.length_map]
  by_cases h1 : l.length < 1
  · simp -implicitDefEqProofs only [go_sem, show (l.length : Int) < 1 by omega, List.length_map]
    exact dec_f (p := imageOk l) fun h => by have := h.1; omega
  by_cases h8 : 8 < l.length
  · simp -implicitDefEqProofs only [go_sem, show ¬ ((l.length : Int) < 1) by omega, show (8 : Int) < (l.length : Int) by omega, List.length_map]
    exact dec_f (p := imageOk l) fun h => by have := h.1; omega
  simp -implicitDefEqProofs only [go_sem, show ¬ ((l.length : Int) < 1) by omega, show ¬ ((8 : Int) < (l.length : Int)) by omega, List.length_map]
  refine loopW_of (fun m f h' => ∃ k, m + k = l.length ∧ h' = h ∧ f 0 = .slice a l.length c ∧ f 3 = i64 k ∧ ∀ i, (hi : i < l.length) → i < k → l[i].length = 8) l.length
    ⟨0, by simp, rfl, by simp -implicitDefEqProofs only [go_sem, List.length_map, List.length_map], by simp -implicitDefEqProofs only [go_sem, List.length_map]; rfl, by omega⟩ ?_
  rintro m f h' ⟨k, hm, rfl, f0, f3, hok⟩
  skip
  by_cases hk : k < l.length
  · have e1 := h3 k [str l[k]] (by simp [hk])
    simp -implicitDefEqProofs only [go_sem, hk, e1, List.length_map, f0, f3, h2, Int.ofNat_lt, Int.natCast_nonneg]
    by_cases h4 : l[k].length = 8
    · simp -implicitDefEqProofs only [go_sem, show (l[k].length : Int) = 8 by omega, wrap_i64 (show -(9223372036854775808 : Int) ≤ ((k : Int) + 1) by omega) (show ((k : Int) + 1) < 9223372036854775808 by omega), List.length_map, f0, f3, h2, Int.ofNat_lt, Int.natCast_nonneg]
      refine ⟨m - 1, by omega, h', Ext.refl _, k + 1, by omega, rfl, rfl, fun i hi1 hi2 => ?_⟩
      by_cases e : i = k
      · subst e; exact h4
      · exact hok i hi1 (by omega)
    · simp -implicitDefEqProofs only [go_sem, show ¬ ((l[k].length : Int) = 8) by omega, List.length_map, f0, f3, h2, Int.ofNat_lt, Int.natCast_nonneg]
      exact dec_f (p := imageOk l) fun h => h4 (h.2 _ (List.getElem_mem hk))
  · have e : k = l.length := by omega
    subst e
    simp -implicitDefEqProofs only [go_sem, Nat.lt_irrefl, List.length_map, f0, f3, h2, Int.ofNat_lt, Int.natCast_nonneg]
    exact dec_t (p := imageOk l) ⟨by omega, fun s hs => by obtain ⟨i, hi, rfl⟩ := List.getElem_of_mem hs; exact hok i hi hi⟩
/-- slices.Clone[[]string,string] -/
def b_slices_Clone_string_string : C := (.seq (.ops [q 2 (.mv (.c nils))])
 (.seq (.seq (.ops [q 3 (.mv (.t 0)), q 4 (.eqs false (.t 3) (.c nils))])
 (.cond (.t 4) (.seq (.ops [q 2 (.mv (.c nils))])
 .ret) .skip))
 (.seq (.ops [⟨(some 5), none, .bsl 0 [] []⟩, q 6 (.mv (.t 0)), ⟨(some 7), none, .app 1 16 (.t 5) (.t 6)⟩, q 2 (.mv (.t 7))])
 .ret)))
theorem w_slices_Clone_string_string {args : List Value} {h : H} {Q : Value → H → Prop} (hl : args.length ≤ 8) (hk : wpc Tryz.prog b_slices_Clone_string_string (retw [.tmp 2] Q) (argsFr args) h) : AC Tryz.prog 124 args h Q :=
  AC.of_wpc mixedOrders Tryz.func124 (by kernel_rfl) (by kernel_rfl : prepF Tryz.prog Tryz.f124 = some ⟨8, [.tmp 2], b_slices_Clone_string_string⟩) hl hk

theorem cloneStrs_ac {h : H} {v : Value} {l : List (List UInt8)} (hv : Sl h v 1 (strs l)) (hb : l.length ≤ 1048576) : AC Tryz.prog 124 [v] h fun v' h' => Ext h h' ∧ Fre h h' v' 1 (strs l) := by
  obtain ⟨a, c, rfl⟩ := hv.shape
  have hl : (strs l).length = l.length := by simp
  refine w_slices_Clone_string_string (by simp) ?_
  unfold b_slices_Clone_string_string
  simp -implicitDefEqProofs only [go_sem]
  cases a with
  | none =>
    simp -implicitDefEqProofs only [go_sem, Option.isNone_none]
    exact ⟨Ext.refl _, .inl ⟨none, 0, rfl, hv.none⟩⟩
  | some a =>
    simp -implicitDefEqProofs only [go_sem, Option.isNone_some]
    intro b1 hb1 hn1
    have hsrc := src0 hn1 hv (strs_wid l) (by decide)
    simp -implicitDefEqProofs only [go_sem, hsrc]
    refine app0 hb1 hn1 rfl (strs_wid l) (strs_one l) (by rw [hl]; omega) ?_
    intro v' h' e o
    simp -implicitDefEqProofs only [go_sem]
    exact ⟨e, o.fre⟩
end Go.Proofs.YthjbhdmjfakfaaaGreatDoor
