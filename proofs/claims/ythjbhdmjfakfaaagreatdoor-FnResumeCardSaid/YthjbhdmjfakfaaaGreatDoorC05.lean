/- A helper of this seat's claims (contracts of the functions): what it shows is shown for every input that its statements name, on no other condition. -/
import Derived.Test.YthjbhdmjfakfaaaGreatDoorMC0
import Derived.Test.YthjbhdmjfakfaaaGreatDoorKD
set_option linter.unusedVariables false
set_option linter.unusedSimpArgs false
set_option maxRecDepth 100000
namespace Go.Proofs.YthjbhdmjfakfaaaGreatDoor
open Go.KH

abbrev ints (l : List Int) : List (List Value) := l.map fun n => [i64 n]
def listAt (l : List Int) (i : Nat) (hi : i < l.length) : Prop := (0 ≤ l[i] ∧ l[i] ≤ 23) ∧ (0 < i → l[i - 1]'(by omega) < l[i])
instance (l : List Int) (i : Nat) (hi : i < l.length) : Decidable (listAt l i hi) := by unfold listAt; infer_instance
def listOk (l : List Int) : Prop := ∀ i, (hi : i < l.length) → listAt l i hi
instance (l : List Int) : Decidable (listOk l) := by unfold listOk; infer_instance
theorem listOk_ge {l : List Int} (h : listOk l) : ∀ i (hi : i < l.length), (i : Int) ≤ l[i]
 | 0, hi => (h 0 hi).1.1
 | i + 1, hi => by
  have h1 := listOk_ge h i (by omega)
  have h2 := (h (i + 1) hi).2 (by omega)
  simp only [Nat.add_sub_cancel] at h2
  omega
theorem listOk_le {l : List Int} (h : listOk l) : l.length ≤ 24 := by
 rcases Nat.lt_or_ge 24 l.length with hl | hl
 ·have h1 := listOk_ge h 24 hl
  have h2 := (h 24 hl).1.2
  omega
 ·exact hl
def b_impl_isList : C := (jo [q 2 (.mv (.c (.bool false)))]
 (.seq (jo [jm 5 0, q 6 (.len (.t 5)), q 7 (.mv (.c (i64 0)))]
 (.block 0 (.loop (jo [jb 8 .lss 7 6]
 (.seq (.cond (.t 8) .skip (.exit 0))
 (.seq (.block 1 (jo [jm 9 7, q 10 (.idx 1 (.t 5) (.t 7)), jl 11 10, jm 3 9, jm 4 11]
 (jo [jm 12 4, jc 13 140 [(.t 12), (.c (i64 0)), (.c (i64 23))], q 14 (.un .not (.t 13)), jm 15 14, qg 16 15 false (.mv (.t 3)), qg 17 15 false (.bin .gtr (.t 16) (.c (i64 0))), qg 18 15 false (.mv (.t 17)), qg 19 18 true (.mv (.t 0)), qg 20 18 true (.mv (.t 3)), qg 21 18 true (.bin .sub (.t 20) (.c (i64 1))), qg 22 18 true (.idx 1 (.t 19) (.t 21)), qg 23 18 true (.ld false 1 (.t 22)), qg 24 18 true (.mv (.t 4)), qg 25 18 true (.bin .geq (.t 23) (.t 24)), qg 26 15 false (.pick (.t 18) (.t 25) (.c (.bool false))), q 27 (.pick (.t 15) (.c (.bool true)) (.t 26))]
 (.cond (.t 27) (jo [q 2 (.mv (.c (.bool false)))]
 .ret) .skip))))
 (.ops [jk 28 .add 7 1, jm 7 28])))))))
 (jo [q 2 (.mv (.c (.bool true)))]
 .ret)))
theorem w_impl_isList : Wk Tryz.prog 77 29 [.tmp 2] b_impl_isList := Wk.of mixedOrders Tryz.func77 (by kernel_rfl) (by kernel_rfl)

theorem isList_pc {h : H} {v : Value} {l : List Int} (hv : Sl h v 1 (ints l)) (hb : l.length ≤ 1048576) : PC Tryz.prog 77 [v] h (.bool (decide (listOk l))) := by
 obtain ⟨a, c, b, o, rfl, hcap, h2, h3⟩ := hv
 simp only [List.length_map] at h2
 refine w_impl_isList (by simp) ?_
 unfold b_impl_isList
 simp -implicitDefEqProofs only [go_sem, List.length_map]
 refine loopW_of (fun m f h' => ∃ k, m + k = l.length ∧ h' = h ∧ f 0 = .slice a l.length c ∧ f 5 = .slice a l.length c ∧ f 6 = i64 l.length ∧ f 7 = i64 k ∧ ∀ i, (hi : i < l.length) → i < k → listAt l i hi) l.length
  ⟨0, by simp, rfl, by simp -implicitDefEqProofs only [go_sem, List.length_map], by simp -implicitDefEqProofs only [go_sem, List.length_map], by simp -implicitDefEqProofs only [go_sem, List.length_map], by simp -implicitDefEqProofs only [go_sem]; rfl, by omega⟩ ?_
 rintro m f h' ⟨k, hm, rfl, f0, f5, f6, f7, hok⟩
 skip
 by_cases hk : k < l.length
 ·have e1 := h3 k [i64 l[k]] (by simp [hk])
  skip
  simp -implicitDefEqProofs only [go_sem, f0, f5, f6, f7, h2, Int.ofNat_lt, Int.natCast_nonneg, hk, e1]
  refine (within_pc _ _ _ _).use ?_
  simp -implicitDefEqProofs only [go_sem, f0, f5, f6, f7, h2, Int.ofNat_lt, Int.natCast_nonneg, hk, e1]
  have next : listAt l k hk → ∃ m', m' < m ∧ ∃ h'', Ext h'' h' ∧ ∃ k_1, m' + k_1 = l.length ∧ h'' = h' ∧ Value.int IntKind.i64 (k + 1) = i64 k_1 ∧ ∀ i, (hi : i < l.length) → i < k_1 → listAt l i hi := fun hn =>
   ⟨m - 1, by omega, h', Ext.refl _, k + 1, by omega, rfl, rfl, fun i hi1 hi2 => by
    by_cases e : i = k
    ·subst e; exact hn
    ·exact hok i hi1 (by omega)⟩
  refine Br.of (fun h4 => ?_) (fun h4 => ?_)
  ·simp -implicitDefEqProofs only [go_sem, h4, f0, f5, f6, f7, h2, Int.ofNat_lt, Int.natCast_nonneg, hk, e1]
   by_cases k0 : k = 0
   ·subst k0
    simp -implicitDefEqProofs only [go_sem, h4, Int.lt_irrefl, show ¬ (0 : Int) < ((0 : Nat) : Int) by omega, wrap_i64 (show -(9223372036854775808 : Int) ≤ (((0 : Nat) : Int) + 1) by omega) (show (((0 : Nat) : Int) + 1) < 9223372036854775808 by omega), f0, f5, f6, f7, h2, Int.ofNat_lt, Int.natCast_nonneg, hk, e1]
    exact next ⟨h4, by omega⟩
   ·have e2 := h3 (k - 1) [i64 (l[k - 1]'(by omega))] (by simp)
    simp -implicitDefEqProofs only [go_sem, h4, show (0 : Int) < (k : Int) by omega, wrap_i64 (show -(9223372036854775808 : Int) ≤ ((k : Int) - 1) by omega) (show ((k : Int) - 1) < 9223372036854775808 by omega), show ((k : Int) - 1).toNat = k - 1 by omega, show (0 : Int) ≤ (k : Int) - 1 by omega, show (k : Int) - 1 < (l.length : Int) by omega, e2, f0, f5, f6, f7, h2, Int.ofNat_lt, Int.natCast_nonneg, hk, e1]
    refine Br.of (fun h5 => ?_) (fun h5 => ?_)
    ·simp -implicitDefEqProofs only [go_sem, h5, f0, f5, f6, f7, h2, Int.ofNat_lt, Int.natCast_nonneg, hk, e1]
     refine dec_f fun h6 => ?_
     have := (h6 k hk).2 (by omega)
     omega
    ·simp -implicitDefEqProofs only [go_sem, h5, wrap_i64 (show -(9223372036854775808 : Int) ≤ ((k : Int) + 1) by omega) (show ((k : Int) + 1) < 9223372036854775808 by omega), f0, f5, f6, f7, h2, Int.ofNat_lt, Int.natCast_nonneg, hk, e1]
     exact next ⟨h4, fun _ => by omega⟩
  ·simp -implicitDefEqProofs only [go_sem, h4, f0, f5, f6, f7, h2, Int.ofNat_lt, Int.natCast_nonneg, hk, e1]
   exact dec_f (p := listOk l) fun h6 => h4 (h6 k hk).1
 ·have e : k = l.length := by omega
  subst e
  skip
  simp -implicitDefEqProofs only [go_sem, Nat.lt_irrefl, f0, f5, f6, f7, h2, Int.ofNat_lt, Int.natCast_nonneg]
  exact dec_t fun i hi => hok i hi hi
def b_spec_ListRight : C := (jo [q 2 (.mv (.c (.bool false)))]
 (.seq (jo [jm 4 0, q 5 (.len (.t 4)), jk 6 .gtr 5 24]
 (.cond (.t 6) (jo [q 2 (.mv (.c (.bool false)))]
 .ret) .skip))
 (.seq (jo [q 3 (.mv (.c (i64 0)))]
 (.block 0 (.loop (.seq (jo [jm 7 3, jm 8 0, q 9 (.len (.t 8)), jb 10 .lss 7 9]
 (.cond (.t 10) .skip (.exit 0)))
 (.seq (.block 1 (.seq (.dops true (.tk (jm 13 0) (.tk (jm 14 3) (.tk (q 15 (.idx 1 (.t 13) (.t 14))) (.tk (jl 16 15) (.sq (jc 17 118 [(.t 16), (.c (i64 0)), (.c (i64 23))]) (.tk (q 18 (.un .not (.t 17))) (.tk (jm 19 18) (.tk (qg 20 19 false (.mv (.t 3))) (.tk (qg 21 19 false (.bin .gtr (.t 20) (.c (i64 0)))) (.tk (qg 22 19 false (.mv (.t 21))) (.tk (qg 23 22 true (.mv (.t 0))) (.tk (qg 24 22 true (.mv (.t 3))) (.tk (qg 25 22 true (.bin .sub (.t 24) (.c (i64 1)))) (.tk (qg 26 22 true (.idx 1 (.t 23) (.t 25))) (.tk (qg 27 22 true (.ld false 1 (.t 26))) (.tk (qg 28 22 true (.mv (.t 0))) (.tk (qg 29 22 true (.mv (.t 3))) (.tk (qg 30 22 true (.idx 1 (.t 28) (.t 29))) (.tk (qg 31 22 true (.ld false 1 (.t 30))) (.tk (qg 32 22 true (.bin .geq (.t 27) (.t 31))) (.tk (qg 33 19 false (.pick (.t 22) (.t 32) (.c (.bool false)))) (.tk (q 34 (.pick (.t 19) (.c (.bool true)) (.t 33))) .nil)))))))))))))))))))))))
 (.cond (.t 34) (jo [q 2 (.mv (.c (.bool false)))]
 .ret) .skip)))
 (.ops [jm 11 3, jk 12 .add 11 1, jm 3 12]))))))
 (jo [q 2 (.mv (.c (.bool true)))]
 .ret))))
theorem w_spec_ListRight : Wk Tryz.prog 202 35 [.tmp 2] b_spec_ListRight := Wk.of mixedOrders Tryz.func202 (by kernel_rfl) (by kernel_rfl)

theorem specListRight_pc {h : H} {v : Value} {l : List Int} (hv : Sl h v 1 (ints l)) (hb : l.length ≤ 1048576) : PC Tryz.prog 202 [v] h (.bool (decide (listOk l))) := by
 obtain ⟨a, c, b, o, rfl, hcap, h2, h3⟩ := hv
 simp only [List.length_map] at h2
 refine w_spec_ListRight (by simp) ?_
 unfold b_spec_ListRight
 simp -implicitDefEqProofs only [go_sem, List.length_map]
 refine Br.of (fun hl => ?_) (fun hl => ?_)
 ·simp -implicitDefEqProofs only [go_sem, hl]
  exact dec_f fun h6 => by have := listOk_le h6; omega
 simp -implicitDefEqProofs only [go_sem, hl]
 refine loopW_of (fun m f h' => ∃ k, m + k = l.length ∧ h' = h ∧ f 0 = .slice a l.length c ∧ f 3 = i64 k ∧ ∀ i, (hi : i < l.length) → i < k → listAt l i hi) l.length
  ⟨0, by simp, rfl, by simp -implicitDefEqProofs only [go_sem, List.length_map], by simp -implicitDefEqProofs only [go_sem]; rfl, by omega⟩ ?_
 rintro m f h' ⟨k, hm, rfl, f0, f3, hok⟩
 skip
 by_cases hk : k < l.length
 ·have e1 := h3 k [i64 l[k]] (by simp [hk])
  skip
  simp -implicitDefEqProofs only [go_sem, f0, f3, h2, Int.ofNat_lt, Int.natCast_nonneg, hk, e1]
  refine (l03Is_pc _ _ _ _).use ?_
  simp -implicitDefEqProofs only [go_sem, f0, f3, h2, Int.ofNat_lt, Int.natCast_nonneg, hk, e1]
  have next : listAt l k hk → ∃ m', m' < m ∧ ∃ h'', Ext h'' h' ∧ ∃ k_1, m' + k_1 = l.length ∧ h'' = h' ∧ Value.int IntKind.i64 (k + 1) = i64 k_1 ∧ ∀ i, (hi : i < l.length) → i < k_1 → listAt l i hi := fun hn =>
   ⟨m - 1, by omega, h', Ext.refl _, k + 1, by omega, rfl, rfl, fun i hi1 hi2 => by
    by_cases e : i = k
    ·subst e; exact hn
    ·exact hok i hi1 (by omega)⟩
  refine Br.of (fun h4 => ?_) (fun h4 => ?_)
  ·simp -implicitDefEqProofs only [go_sem, h4, f0, f3, h2, Int.ofNat_lt, Int.natCast_nonneg, hk, e1]
   by_cases k0 : k = 0
   ·subst k0
    simp -implicitDefEqProofs only [go_sem, h4, Int.lt_irrefl, show ¬ (0 : Int) < ((0 : Nat) : Int) by omega, wrap_i64 (show -(9223372036854775808 : Int) ≤ (((0 : Nat) : Int) + 1) by omega) (show (((0 : Nat) : Int) + 1) < 9223372036854775808 by omega), f0, f3, h2, Int.ofNat_lt, Int.natCast_nonneg, hk, e1]
    exact next ⟨h4, by omega⟩
   ·have e2 := h3 (k - 1) [i64 (l[k - 1]'(by omega))] (by simp)
    simp -implicitDefEqProofs only [go_sem, h4, show (0 : Int) < (k : Int) by omega, wrap_i64 (show -(9223372036854775808 : Int) ≤ ((k : Int) - 1) by omega) (show ((k : Int) - 1) < 9223372036854775808 by omega), show ((k : Int) - 1).toNat = k - 1 by omega, show (0 : Int) ≤ (k : Int) - 1 by omega, show (k : Int) - 1 < (l.length : Int) by omega, e2, f0, f3, h2, Int.ofNat_lt, Int.natCast_nonneg, hk, e1]
    refine Br.of (fun h5 => ?_) (fun h5 => ?_)
    ·simp -implicitDefEqProofs only [go_sem, h5, f0, f3, h2, Int.ofNat_lt, Int.natCast_nonneg, hk, e1]
     refine dec_f fun h6 => ?_
     have := (h6 k hk).2 (by omega)
     omega
    ·simp -implicitDefEqProofs only [go_sem, h5, wrap_i64 (show -(9223372036854775808 : Int) ≤ ((k : Int) + 1) by omega) (show ((k : Int) + 1) < 9223372036854775808 by omega), f0, f3, h2, Int.ofNat_lt, Int.natCast_nonneg, hk, e1]
     exact next ⟨h4, fun _ => by omega⟩
  ·simp -implicitDefEqProofs only [go_sem, h4, f0, f3, h2, Int.ofNat_lt, Int.natCast_nonneg, hk, e1]
   exact dec_f (p := listOk l) fun h6 => h4 (h6 k hk).1
 ·have e : k = l.length := by omega
  subst e
  skip
  simp -implicitDefEqProofs only [go_sem, Nat.lt_irrefl, f0, f3, h2, Int.ofNat_lt, Int.natCast_nonneg]
  exact dec_t fun i hi => hok i hi hi
def b_impl_size_int64 : C := (jo [q 2 (.mv (.c (i64 0)))]
 (jo [jm 3 0, q 4 (.len (.t 3)), jm 2 4]
 .ret))
theorem w_impl_size_int64 : Wk Tryz.prog 150 5 [.tmp 2] b_impl_size_int64 := Wk.of mixedOrders Tryz.func150 (by kernel_rfl) (by kernel_rfl)

theorem sizeInt_pc {h : H} {v : Value} {rows : List (List Value)} {w : Nat} (hv : Sl h v w rows) : PC Tryz.prog 150 [v] h (i64 rows.length) := by
 obtain ⟨a, c, b, o, rfl, hcap, h2, h3⟩ := hv
 refine w_impl_size_int64 (by simp) ?_
 unfold b_impl_size_int64
 simp -implicitDefEqProofs only [go_sem]
theorem sizeInts_pc {h : H} {v : Value} {l : List Int} (hv : Sl h v 1 (ints l)) : PC Tryz.prog 150 [v] h (i64 l.length) := by
 have := sizeInt_pc hv
 rwa [List.length_map] at this
def b_impl_bitsOf : C := (jo [q 2 (.mv (.c (i64 0)))]
 (jo [q 3 (.mv (.c (i64 0)))]
 (.seq (jo [jm 6 0, q 7 (.len (.t 6)), q 8 (.mv (.c (i64 0)))]
 (.block 0 (.loop (jo [jb 9 .lss 8 7]
 (.seq (.cond (.t 9) .skip (.exit 0))
 (.seq (.block 1 (jo [q 10 (.idx 1 (.t 6) (.t 8)), jl 11 10, jm 5 11]
 (.ops [jm 12 3, jm 13 5, q 14 (.bin .shl (.c (i64 1)) (.t 13)), jb 15 .or 12 14, jm 3 15])))
 (.ops [jk 16 .add 8 1, jm 8 16])))))))
 (jo [jm 17 3, jm 2 17]
 .ret))))
theorem w_impl_bitsOf : Wk Tryz.prog 153 18 [.tmp 2] b_impl_bitsOf := Wk.of mixedOrders Tryz.func153 (by kernel_rfl) (by kernel_rfl)

theorem listOk_mem {l : List Int} (h : listOk l) : ∀ x ∈ l, 0 ≤ x ∧ x ≤ 23 := fun x hx => by
 obtain ⟨i, hi, rfl⟩ := List.getElem_of_mem hx
 exact (h i hi).1
theorem bits24 {l : List Int} (h : listOk l) : bitsN l < 16777216 := bitsN_lt (k := 24) fun x hx => by have := listOk_mem h x hx; omega
theorem bits_take_lt {l : List Int} (h : listOk l) (k : Nat) (hk : k < l.length) : bitsN (l.take k) < 2 ^ l[k].toNat := bitsN_lt fun x hx => by
 obtain ⟨i, hi, rfl⟩ := List.getElem_of_mem hx
 rw [List.getElem_take]
 have hik : i < k := by simp at hi; omega
 have : ∀ d, (hd : i + d + 1 < l.length) → l[i] < l[i + d + 1] := fun d => by
  induction d with
  | zero => intro hd; exact (h (i + 1) hd).2 (by omega)
  | succ d ih => intro hd; have h1 := ih (by omega); have h2 := (h (i + (d + 1) + 1) hd).2 (by omega); simp only [Nat.add_sub_cancel] at h2; exact Int.lt_trans h1 h2
 have h1 := this (k - i - 1) (by omega)
 have e : i + (k - i - 1) + 1 = k := by omega
 simp only [e] at h1
 have h2 := (h i (by omega)).1
 have h3 := (h k hk).1
 omega
theorem pow24 {n : Nat} (h : n < 24) : 2 ^ n < 16777216 := Nat.pow_lt_pow_right (m := n) (n := 24) (by decide) h
theorem bitsOf_pc {h : H} {v : Value} {l : List Int} (hv : Sl h v 1 (ints l)) (hok : listOk l) : PC Tryz.prog 153 [v] h (i64 (bitsN l)) := by
 have hb := listOk_le hok
 obtain ⟨a, c, b, o, rfl, hcap, h2, h3⟩ := hv
 simp only [List.length_map] at h2
 refine w_impl_bitsOf (by simp) ?_
 unfold b_impl_bitsOf
 simp -implicitDefEqProofs only [go_sem, List.length_map]
 refine loopW_of (fun m f h' => ∃ k, m + k = l.length ∧ h' = h ∧ f 6 = .slice a l.length c ∧ f 7 = i64 l.length ∧ f 8 = i64 k ∧ f 3 = i64 (bitsN (l.take k))) l.length
  ⟨0, by simp, rfl, by simp -implicitDefEqProofs only [go_sem, List.length_map], by simp -implicitDefEqProofs only [go_sem, List.length_map], by simp -implicitDefEqProofs only [go_sem]; rfl, by simp -implicitDefEqProofs only [go_sem]; rfl⟩ ?_
 rintro m f h' ⟨k, hm, rfl, f6, f7, f8, f3⟩
 skip
 by_cases hk : k < l.length
 ·have e1 := h3 k [i64 l[k]] (by simp [hk])
  have hx := (hok k hk).1
  have h5 : bitsN (l.take k) < 16777216 := bitsN_lt (k := 24) fun x hx => by have := listOk_mem hok x (List.mem_of_mem_take hx); omega
  have h6 : 1 <<< l[k].toNat < 16777216 := by
   rw [Nat.shiftLeft_eq, Nat.one_mul]
   exact pow24 (by omega)
  simp -implicitDefEqProofs only [go_sem, hk, e1, shl1_i64 hx.1 (by omega), or_i64 (Nat.lt_trans h5 (by decide)) (Nat.lt_trans h6 (by decide)), wrap_i64 (show -(9223372036854775808 : Int) ≤ ((k : Int) + 1) by omega) (show ((k : Int) + 1) < 9223372036854775808 by omega), f6, f7, f8, f3, h2, Int.ofNat_lt, Int.natCast_nonneg]
  exact ⟨m - 1, by omega, h', Ext.refl _, k + 1, by omega, rfl, rfl, by rw [bitsN_take l k hk]⟩
 ·have e : k = l.length := by omega
  subst e
  simp -implicitDefEqProofs only [go_sem, Nat.lt_irrefl, List.take_length, f6, f7, f8, f3, h2, Int.ofNat_lt, Int.natCast_nonneg]
def b_spec_BitsOf : C := (jo [q 2 (.mv (.c (i64 0)))]
 (.seq (jo [jm 5 0, jc 6 202 [(.t 5)], q 7 (.un .not (.t 6))]
 (.cond (.t 7) (jo [q 2 (.mv (.c (i64 (-1))))]
 .ret) .skip))
 (jo [q 3 (.mv (.c (i64 0)))]
 (.seq (jo [q 4 (.mv (.c (i64 0)))]
 (.block 0 (.loop (.seq (jo [jm 8 4, jm 9 0, q 10 (.len (.t 9)), jb 11 .lss 8 10]
 (.cond (.t 11) .skip (.exit 0)))
 (.seq (.block 1 (.ops [jm 14 3, jm 15 0, jm 16 4, q 17 (.idx 1 (.t 15) (.t 16)), jl 18 17, q 19 (.bin .shl (.c (i64 1)) (.t 18)), jb 20 .add 14 19, jm 3 20]))
 (.ops [jm 12 4, jk 13 .add 12 1, jm 4 13]))))))
 (jo [jm 21 3, jm 2 21]
 .ret)))))
theorem w_spec_BitsOf : Wk Tryz.prog 135 22 [.tmp 2] b_spec_BitsOf := Wk.of mixedOrders Tryz.func135 (by kernel_rfl) (by kernel_rfl)

theorem wrap_addN {z y : Nat} (hz : z < 16777216) (hy : y < 16777216) : IntKind.i64.wrap ((z : Int) + (y : Int)) = ((z + y : Nat) : Int) := by
 rw [wrap_i64 (by omega) (by omega)]; exact (Int.natCast_add z y).symm
theorem specListRight_ok {h : H} {v : Value} {l : List Int} (hv : Sl h v 1 (ints l)) (hok : listOk l) : PC Tryz.prog 202 [v] h (.bool true) := by
 have := specListRight_pc hv (by have := listOk_le hok; omega)
 rwa [decide_eq_true hok] at this
theorem specBitsOf_pc {h : H} {v : Value} {l : List Int} (hv : Sl h v 1 (ints l)) (hok : listOk l) : PC Tryz.prog 135 [v] h (i64 (bitsN l)) := by
 have hv' := hv
 have hb := listOk_le hok
 obtain ⟨a, c, b, o, rfl, hcap, h2, h3⟩ := hv
 simp only [List.length_map] at h2 hv'
 refine w_spec_BitsOf (by simp) ?_
 unfold b_spec_BitsOf
 simp -implicitDefEqProofs only [go_sem, List.length_map]
 refine (specListRight_ok hv' hok).use ?_
 simp -implicitDefEqProofs only [go_sem, List.length_map]
 refine loopW_of (fun m f h' => ∃ k, m + k = l.length ∧ h' = h ∧ f 0 = .slice a l.length c ∧ f 4 = i64 k ∧ f 3 = i64 (bitsN (l.take k))) l.length
  ⟨0, by simp, rfl, by simp -implicitDefEqProofs only [go_sem, List.length_map], by simp -implicitDefEqProofs only [go_sem]; rfl, by simp -implicitDefEqProofs only [go_sem]; rfl⟩ ?_
 rintro m f h' ⟨k, hm, rfl, f0, f4, f3⟩
 skip
 by_cases hk : k < l.length
 ·have e1 := h3 k [i64 l[k]] (by simp [hk])
  have hx := (hok k hk).1
  have h5 : bitsN (l.take k) < 16777216 := bitsN_lt (k := 24) fun x hx => by have := listOk_mem hok x (List.mem_of_mem_take hx); omega
  have h6 : 1 <<< l[k].toNat < 16777216 := by
   rw [Nat.shiftLeft_eq, Nat.one_mul]
   exact pow24 (by omega)
  have h7 : bitsN (l.take (k + 1)) = bitsN (l.take k) + 1 <<< l[k].toNat := by
   rw [bitsN_take l k hk, or_eq_add (bits_take_lt hok k hk), Nat.shiftLeft_eq, Nat.one_mul]
  have h9 := wrap_addN h5 h6
  simp -implicitDefEqProofs only [go_sem, hk, e1, shl1_i64 hx.1 (by omega), h9, wrap_i64 (show -(9223372036854775808 : Int) ≤ ((k : Int) + 1) by omega) (show ((k : Int) + 1) < 9223372036854775808 by omega), f0, f4, f3, h2, Int.ofNat_lt, Int.natCast_nonneg]
  exact ⟨m - 1, by omega, h', Ext.refl _, k + 1, by omega, rfl, rfl, by rw [h7]⟩
 ·have e : k = l.length := by omega
  subst e
  simp -implicitDefEqProofs only [go_sem, Nat.lt_irrefl, List.take_length, f0, f4, f3, h2, Int.ofNat_lt, Int.natCast_nonneg]
end Go.Proofs.YthjbhdmjfakfaaaGreatDoor