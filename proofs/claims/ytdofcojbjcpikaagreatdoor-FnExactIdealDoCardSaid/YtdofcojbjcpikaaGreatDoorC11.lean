/- A helper of this seat's claims (contracts of the functions): what it shows is shown for every input that its statements name, on no other condition. -/
import Derived.Test.YtdofcojbjcpikaaGreatDoorC0
set_option linter.unusedVariables false
set_option linter.unusedSimpArgs false
set_option maxRecDepth 100000
namespace Go.Proofs.YtdofcojbjcpikaaGreatDoor
open Go.KH

/-! ## Plans -/
def slots (l : List UMove) : Int := (l.filter fun m => m.kind = 1).length
theorem slots_take (l : List UMove) (k : Nat) (hk : k < l.length) : slots (l.take (k + 1)) = slots (l.take k) + if l[k].kind = 1 then 1 else 0 := by
  unfold slots
  rw [List.take_succ_eq_append_getElem hk, List.filter_append]
  by_cases h : l[k].kind = 1 <;> simp [h]
theorem slots_le (l : List UMove) : 0 ≤ slots l ∧ slots l ≤ l.length := by
  unfold slots; have := List.length_filter_le (fun m : UMove => decide (m.kind = 1)) l; omega
def slotsOf (l : List UMove) : Int := if l.length ≤ 40 then slots l else 0
/-- impl.slotsOf -/
def b_impl_slotsOf : C := (.seq (.ops [q 2 (.mv (.c (i64 0)))])
 (.seq (.ops [q 3 (.mv (.c (i64 0)))])
 (.seq (.seq (.ops [q 6 (.mv (.t 0)), q 7 (.len (.t 6)), q 8 (.mv (.c (i64 0)))])
 (.block 0 (.loop (.seq (.ops [q 9 (.bin .lss (.t 8) (.t 7))])
 (.seq (.cond (.t 9) .skip (.exit 0))
 (.seq (.block 1 (.seq (.ops [q 10 (.idx 4 (.t 6) (.t 8)), q 11 (.ld true 4 (.t 10)), ⟨(some 5), none, .alloc [(i64 0), (i64 0), (i64 0), (i64 0)]⟩, ⟨none, none, .st 4 (.t 5) (.t 11)⟩])
 (.seq (.ops [q 12 (.fld 0 (.t 5)), q 13 (.ld false 1 (.t 12)), q 14 (.bin .eql (.t 13) (.c (i64 1)))])
 (.cond (.t 14) (.ops [q 15 (.mv (.t 3)), q 16 (.bin .add (.t 15) (.c (i64 1))), q 3 (.mv (.t 16))]) .skip))))
 (.ops [q 17 (.bin .add (.t 8) (.c (i64 1))), q 8 (.mv (.t 17))])))))))
 (.seq (.ops [q 18 (.mv (.t 3)), q 2 (.mv (.t 18))])
 .ret))))
theorem w_impl_slotsOf {args : List Value} {h : H} {Q : Value → H → Prop} (hl : args.length ≤ 19) (hk : wpc Tryz.prog b_impl_slotsOf (retw [.tmp 2] Q) (argsFr args) h) : AC Tryz.prog 130 args h Q :=
  AC.of_wpc mixedOrders Tryz.func130 (by kernel_rfl) (by kernel_rfl : prepF Tryz.prog Tryz.f130 = some ⟨19, [.tmp 2], b_impl_slotsOf⟩) hl hk

theorem slotsOf_pc {h : H} {v : Value} {l : List UMove} (hv : Sl h v 4 (l.map UMove.cells)) (hb : l.length ≤ 1048576) : PC Tryz.prog 130 [v] h (i64 (slots l)) := by
  obtain ⟨a, c, b, o, rfl, hcap, h2, h3⟩ := hv
  refine PC_of ?_
  simp only [List.length_map] at h2
  refine w_impl_slotsOf (by simp) ?_
  unfold b_impl_slotsOf
  simp -implicitDefEqProofs only [go_sem, List.length_map]
  refine loopW_of (fun m f h' => ∃ k, m + k = l.length ∧ h' = h ∧ f 6 = .slice a l.length c ∧ f 7 = i64 l.length ∧ f 8 = i64 k ∧ f 3 = i64 (slots (l.take k))) l.length ⟨0, by simp, rfl, by simp -implicitDefEqProofs only [go_sem, List.length_map], by simp -implicitDefEqProofs only [go_sem, List.length_map], by simp -implicitDefEqProofs only [go_sem]; rfl, by simp -implicitDefEqProofs only [go_sem]; rfl⟩ ?_
  rintro m f h' ⟨k, hm, rfl, f6, f7, f8, f3⟩
  skip
  by_cases hk : k < l.length
  · have e1 := h3 k (l[k]).cells (by simp [hk])
    have hs := slots_le (l.take k)
    have hs2 : (l.take k).length = k := by simp; omega
    have ht := slots_take l k hk
    simp -implicitDefEqProofs only [go_sem, hk, e1, f6, f7, f8, f3, h2, Int.ofNat_lt, Int.natCast_nonneg]
    intro b1 hb_b1 n_b1
    simp -implicitDefEqProofs only [go_sem, wrap_i64 (show -(9223372036854775808 : Int) ≤ (slots (l.take k) + 1) by omega) (show (slots (l.take k) + 1) < 9223372036854775808 by omega), wrap_i64 (show -(9223372036854775808 : Int) ≤ ((k : Int) + 1) by omega) (show ((k : Int) + 1) < 9223372036854775808 by omega), f6, f7, f8, f3, h2, Int.ofNat_lt, Int.natCast_nonneg, hb_b1]
    refine Br.of (fun hkind => ?_) (fun hkind => ?_)
    · simp -implicitDefEqProofs only [go_sem, hkind, wrap_i64 (show -(9223372036854775808 : Int) ≤ (slots (l.take k) + 1) by omega) (show (slots (l.take k) + 1) < 9223372036854775808 by omega), wrap_i64 (show -(9223372036854775808 : Int) ≤ ((k : Int) + 1) by omega) (show ((k : Int) + 1) < 9223372036854775808 by omega), f6, f7, f8, f3, h2, Int.ofNat_lt, Int.natCast_nonneg, hb_b1]
      refine ⟨m - 1, by omega, _, ((Ext.refl _).set' n_b1 _), k + 1, by omega, ?_⟩
      rw [ht, if_pos hkind]
      repeat' first | apply And.intro | rfl | trivial | assumption | omega
    · simp -implicitDefEqProofs only [go_sem, hkind, wrap_i64 (show -(9223372036854775808 : Int) ≤ ((k : Int) + 1) by omega) (show ((k : Int) + 1) < 9223372036854775808 by omega), f6, f7, f8, f3, h2, Int.ofNat_lt, Int.natCast_nonneg, hb_b1]
      refine ⟨m - 1, by omega, _, ((Ext.refl _).set' n_b1 _), k + 1, by omega, ?_⟩
      rw [ht, if_neg hkind, Int.add_zero]
      repeat' first | apply And.intro | rfl | trivial | assumption | omega
  · have e : k = l.length := by omega
    subst e
    skip
    simp -implicitDefEqProofs only [go_sem, Nat.lt_irrefl, List.take_length, f6, f7, f8, f3, h2, Int.ofNat_lt, Int.natCast_nonneg]
    exact Ext.refl _
/-- spec.SlotsOf -/
def b_spec_SlotsOf : C := (.seq (.ops [q 2 (.mv (.c (i64 0)))])
 (.seq (.ops [q 3 (.mv (.c (i64 0)))])
 (.seq (.seq (.ops [q 4 (.mv (.c (i64 0)))])
 (.block 0 (.loop (.seq (.seq (.ops [q 5 (.mv (.t 4)), q 6 (.mv (.t 0)), q 7 (.len (.t 6)), q 8 (.bin .lss (.t 5) (.t 7)), q 9 (.mv (.t 8)), qg 10 9 true (.mv (.t 0)), qg 11 9 true (.len (.t 10)), qg 12 9 true (.bin .leq (.t 11) (.c (i64 40))), q 13 (.pick (.t 9) (.t 12) (.c (.bool false)))])
 (.cond (.t 13) .skip (.exit 0)))
 (.seq (.block 1 (.seq (.ops [q 16 (.mv (.t 0)), q 17 (.mv (.t 4)), q 18 (.idx 4 (.t 16) (.t 17)), q 19 (.fld 0 (.t 18)), q 20 (.ld false 1 (.t 19)), q 21 (.bin .eql (.t 20) (.c (i64 1)))])
 (.cond (.t 21) (.ops [q 22 (.mv (.t 3)), q 23 (.bin .add (.t 22) (.c (i64 1))), q 3 (.mv (.t 23))]) .skip)))
 (.ops [q 14 (.mv (.t 4)), q 15 (.bin .add (.t 14) (.c (i64 1))), q 4 (.mv (.t 15))]))))))
 (.seq (.ops [q 24 (.mv (.t 3)), q 2 (.mv (.t 24))])
 .ret))))
theorem w_spec_SlotsOf {args : List Value} {h : H} {Q : Value → H → Prop} (hl : args.length ≤ 25) (hk : wpc Tryz.prog b_spec_SlotsOf (retw [.tmp 2] Q) (argsFr args) h) : AC Tryz.prog 225 args h Q :=
  AC.of_wpc mixedOrders Tryz.func225 (by kernel_rfl) (by kernel_rfl : prepF Tryz.prog Tryz.f225 = some ⟨25, [.tmp 2], b_spec_SlotsOf⟩) hl hk

theorem specSlotsOf_pc {h : H} {v : Value} {l : List UMove} (hv : Sl h v 4 (l.map UMove.cells)) (hb : l.length ≤ 1048576) : PC Tryz.prog 225 [v] h (i64 (slotsOf l)) := by
  obtain ⟨a, c, b, o, rfl, hcap, h2, h3⟩ := hv
  simp only [List.length_map] at h2
  refine w_spec_SlotsOf (by simp) ?_
  unfold b_spec_SlotsOf
  simp -implicitDefEqProofs only [go_sem, List.length_map]
  refine loopW_of (fun m f h' => ∃ k, m + k = l.length ∧ h' = h ∧ f 0 = .slice a l.length c ∧ f 4 = i64 k ∧ f 3 = i64 (slots (l.take k)) ∧ (k ≠ 0 → l.length ≤ 40)) l.length ⟨0, by simp, rfl, by simp -implicitDefEqProofs only [go_sem, List.length_map], by simp -implicitDefEqProofs only [go_sem]; rfl, by simp -implicitDefEqProofs only [go_sem]; rfl, by simp⟩ ?_
  rintro m f h' ⟨k, hm, rfl, f0, f4, f3, h0⟩
  skip
  by_cases h40 : l.length ≤ 40
  · by_cases hk : k < l.length
    · have e1 := h3 k (l[k]).cells (by simp [hk])
      have e2 := ldc_part e1 0 1 (by omega)
      simp only [Nat.add_zero] at e2
      have hs := slots_le (l.take k)
      have hs2 : (l.take k).length = k := by simp; omega
      have ht := slots_take l k hk
      simp -implicitDefEqProofs only [go_sem, hk, e2, show (l.length : Int) ≤ 40 by omega, wrap_i64 (show -(9223372036854775808 : Int) ≤ (slots (l.take k) + 1) by omega) (show (slots (l.take k) + 1) < 9223372036854775808 by omega), wrap_i64 (show -(9223372036854775808 : Int) ≤ ((k : Int) + 1) by omega) (show ((k : Int) + 1) < 9223372036854775808 by omega), f0, f4, f3, h2, Int.ofNat_lt, Int.natCast_nonneg]
      refine Br.of (fun hkind => ?_) (fun hkind => ?_)
      · simp -implicitDefEqProofs only [go_sem, hkind, wrap_i64 (show -(9223372036854775808 : Int) ≤ (slots (l.take k) + 1) by omega) (show (slots (l.take k) + 1) < 9223372036854775808 by omega), wrap_i64 (show -(9223372036854775808 : Int) ≤ ((k : Int) + 1) by omega) (show ((k : Int) + 1) < 9223372036854775808 by omega), f0, f4, f3, h2, Int.ofNat_lt, Int.natCast_nonneg]
        refine ⟨m - 1, by omega, _, Ext.refl _, k + 1, by omega, ?_⟩
        rw [ht, if_pos hkind]
        repeat' first | apply And.intro | rfl | trivial | assumption | omega
      · simp -implicitDefEqProofs only [go_sem, hkind, wrap_i64 (show -(9223372036854775808 : Int) ≤ ((k : Int) + 1) by omega) (show ((k : Int) + 1) < 9223372036854775808 by omega), f0, f4, f3, h2, Int.ofNat_lt, Int.natCast_nonneg]
        refine ⟨m - 1, by omega, _, Ext.refl _, k + 1, by omega, ?_⟩
        rw [ht, if_neg hkind, Int.add_zero]
        repeat' first | apply And.intro | rfl | trivial | assumption | omega
    · have e : k = l.length := by omega
      subst e
      simp -implicitDefEqProofs only [go_sem, Nat.lt_irrefl, List.take_length, slotsOf, h40, f0, f4, f3, h2, Int.ofNat_lt, Int.natCast_nonneg]
  · have e : k = 0 := Decidable.byContradiction fun e => h40 (h0 e)
    subst e
    simp -implicitDefEqProofs only [go_sem, show 0 < l.length by omega, show ¬ (l.length : Int) ≤ 40 by omega, slotsOf, h40, f0, f4, f3, h2, Int.ofNat_lt, Int.natCast_nonneg]
    rfl
def isStash (block : Int) (m : UMove) : Bool := decide (m.kind = 1 ∧ m.block = block)
def source (l : List UMove) (block : Int) : Int := match l.find? (isStash block) with | some m => m.slot | none => -1
theorem source_some {l : List UMove} {block : Int} {k : Nat} (hk : k < l.length) (h : isStash block l[k] = true) (hn : ∀ i, (hi : i < k) → isStash block (l[i]'(by omega)) = false) : source l block = l[k].slot := by
  unfold source
  rw [List.find?_eq_some_iff_getElem.2 ⟨h, k, hk, rfl, fun j hj => by simp [hn j hj]⟩]
theorem source_none {l : List UMove} {block : Int} (hn : ∀ i, (hi : i < l.length) → isStash block l[i] = false) : source l block = -1 := by
  unfold source
  rw [List.find?_eq_none.2 (fun x hx => by obtain ⟨i, hi, rfl⟩ := List.getElem_of_mem hx; simp [hn i hi])]
def sourceOf (l : List UMove) (done block : Int) : Int := if l.length ≤ 40 ∧ (0 ≤ done ∧ done ≤ l.length) ∧ 0 ≤ block ∧ block ≤ 7 then source (l.take done.toNat) block else -2
/-- impl.sourceOf -/
def b_impl_sourceOf : C := (.seq (.ops [q 6 (.mv (.c (i64 0)))])
 (.seq (.seq (.ops [q 9 (.mv (.t 0)), q 10 (.mv (.t 1)), q 11 (.lsl 4 (.t 9) none (some (.t 10))), q 12 (.len (.t 11)), q 13 (.mv (.c (i64 0)))])
 (.block 0 (.loop (.seq (.ops [q 14 (.bin .lss (.t 13) (.t 12))])
 (.seq (.cond (.t 14) .skip (.exit 0))
 (.seq (.block 1 (.seq (.ops [q 15 (.idx 4 (.t 11) (.t 13)), q 16 (.ld true 4 (.t 15)), ⟨(some 8), none, .alloc [(i64 0), (i64 0), (i64 0), (i64 0)]⟩, ⟨none, none, .st 4 (.t 8) (.t 16)⟩])
 (.seq (.ops [q 17 (.fld 0 (.t 8)), q 18 (.ld false 1 (.t 17)), q 19 (.bin .eql (.t 18) (.c (i64 1))), q 20 (.mv (.t 19)), qg 21 20 true (.fld 2 (.t 8)), qg 22 20 true (.ld false 1 (.t 21)), qg 23 20 true (.mv (.t 2)), qg 24 20 true (.bin .eql (.t 22) (.t 23)), q 25 (.pick (.t 20) (.t 24) (.c (.bool false)))])
 (.cond (.t 25) (.seq (.ops [q 26 (.fld 3 (.t 8)), q 27 (.ld false 1 (.t 26)), q 6 (.mv (.t 27))])
 .ret) .skip))))
 (.ops [q 28 (.bin .add (.t 13) (.c (i64 1))), q 13 (.mv (.t 28))])))))))
 (.seq (.ops [q 6 (.mv (.c (i64 (-1))))])
 .ret)))
theorem w_impl_sourceOf {args : List Value} {h : H} {Q : Value → H → Prop} (hl : args.length ≤ 29) (hk : wpc Tryz.prog b_impl_sourceOf (retw [.tmp 6] Q) (argsFr args) h) : AC Tryz.prog 271 args h Q :=
  AC.of_wpc mixedOrders Tryz.func271 (by kernel_rfl) (by kernel_rfl : prepF Tryz.prog Tryz.f271 = some ⟨29, [.tmp 6], b_impl_sourceOf⟩) hl hk

theorem sourceOf_pc {h : H} {v : Value} {l : List UMove} {d : Nat} {block : Int} (hv : Sl h v 4 (l.map UMove.cells)) (hb : l.length ≤ 1048576) (hd : d ≤ l.length) : PC Tryz.prog 271 [v, i64 d, i64 block] h (i64 (source (l.take d) block)) := by
  obtain ⟨a, n, c, rfl, hcap, hp⟩ : ∃ a n c, v = .slice a n c ∧ d ≤ c ∧ Sl h (.slice a d c) 4 ((l.take d).map UMove.cells) := by
    obtain ⟨a, c, b, o, rfl, hcap, h2, h3⟩ := id hv
    exact ⟨a, _, c, rfl, by simp at hcap; omega, by rw [List.map_take]; exact hv.take (by simpa using hd)⟩
  obtain ⟨t, ht⟩ : ∃ t, t = l.take d := ⟨_, rfl⟩
  have hlen : d = t.length := by rw [ht]; simp; omega
  rw [← ht] at hp ⊢
  have htb : d ≤ 1048576 := by omega
  clear hd hv
  subst hlen
  obtain ⟨a', c', b', o', hsl, hcap', k2, k3⟩ := hp
  simp only [Value.slice.injEq, List.length_map, true_and] at hsl
  obtain ⟨rfl, rfl⟩ := hsl
  simp only [List.length_map] at k2
  refine PC_of ?_
  refine w_impl_sourceOf (by simp) ?_
  unfold b_impl_sourceOf
  simp -implicitDefEqProofs only [go_sem, Int.natCast_nonneg, Int.ofNat_le, show t.length ≤ c by omega]
  refine loopW_of (fun m f h' => ∃ k, m + k = t.length ∧ h' = h ∧ f 2 = i64 block ∧ f 11 = .slice a t.length c ∧ f 12 = i64 t.length ∧ f 13 = i64 k ∧ ∀ i, (hi : i < t.length) → i < k → isStash block t[i] = false) t.length
    ⟨0, by simp, rfl, by simp -implicitDefEqProofs only [go_sem], by simp -implicitDefEqProofs only [go_sem], by simp -implicitDefEqProofs only [go_sem], by simp -implicitDefEqProofs only [go_sem]; rfl, by omega⟩ ?_
  rintro m f h' ⟨k, hm, rfl, f2, f11, f12, f13, hno⟩
  skip
  by_cases hk : k < t.length
  · have e1 := k3 k (t[k]).cells (by simp [hk])
    simp -implicitDefEqProofs only [go_sem, hk, e1, f2, f11, f12, f13, k2, Int.ofNat_lt, Int.natCast_nonneg]
    intro b1 hb_b1 n_b1
    simp -implicitDefEqProofs only [go_sem, f2, f11, f12, f13, k2, Int.ofNat_lt, Int.natCast_nonneg, hb_b1]
    refine Br.of (fun hk1 => ?_) (fun hk1 => ?_)
    · simp -implicitDefEqProofs only [go_sem, hk1, f2, f11, f12, f13, k2, Int.ofNat_lt, Int.natCast_nonneg, hb_b1]
      refine Br.of (fun hk2 => ?_) (fun hk2 => ?_)
      · simp -implicitDefEqProofs only [go_sem, hk1, hk2, f2, f11, f12, f13, k2, Int.ofNat_lt, Int.natCast_nonneg, hb_b1]
        rw [source_some (k := k) (by omega) (by simp [isStash, hk1, hk2]) (fun i hi => hno i (by omega) hi)]
        exact ⟨((Ext.refl _).set' n_b1 _), rfl⟩
      · simp -implicitDefEqProofs only [go_sem, hk1, hk2, wrap_i64 (show -(9223372036854775808 : Int) ≤ ((k : Int) + 1) by omega) (show ((k : Int) + 1) < 9223372036854775808 by omega), f2, f11, f12, f13, k2, Int.ofNat_lt, Int.natCast_nonneg, hb_b1]
        refine ⟨m - 1, by omega, _, ((Ext.refl _).set' n_b1 _), k + 1, by omega, rfl, rfl, fun i hi1 hi2 => ?_⟩
        by_cases e : i = k
        · subst e; simp [isStash, hk2]
        · exact hno i hi1 (by omega)
    · simp -implicitDefEqProofs only [go_sem, hk1, wrap_i64 (show -(9223372036854775808 : Int) ≤ ((k : Int) + 1) by omega) (show ((k : Int) + 1) < 9223372036854775808 by omega), f2, f11, f12, f13, k2, Int.ofNat_lt, Int.natCast_nonneg, hb_b1]
      refine ⟨m - 1, by omega, _, ((Ext.refl _).set' n_b1 _), k + 1, by omega, rfl, rfl, fun i hi1 hi2 => ?_⟩
      by_cases e : i = k
      · subst e; simp [isStash, hk1]
      · exact hno i hi1 (by omega)
  · have e : k = t.length := by omega
    subst e
    skip
    simp -implicitDefEqProofs only [go_sem, Nat.lt_irrefl, f2, f11, f12, f13, k2, Int.ofNat_lt, Int.natCast_nonneg]
    rw [source_none (fun i hi => hno i hi (by omega))]
    exact ⟨Ext.refl _, rfl⟩
end Go.Proofs.YtdofcojbjcpikaaGreatDoor
