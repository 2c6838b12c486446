/- A helper of this seat's claims (contracts of the functions): what it shows is shown for every input that its statements name, on no other condition. -/
import Derived.Test.YthjbhdmjfakfaaaGreatDoorCA
import Derived.Test.YthjbhdmjfakfaaaGreatDoorKD
set_option linter.unusedVariables false
set_option linter.unusedSimpArgs false
set_option maxRecDepth 100000
namespace Go.Proofs.YthjbhdmjfakfaaaGreatDoor
open Go.KH

def b_impl_within : C := (jo [q 6 (.mv (.c (.bool false)))]
 (jo [jm 7 0, jm 8 1, jb 9 .geq 7 8, jm 10 9, qg 11 10 true (.mv (.t 0)), qg 12 10 true (.mv (.t 2)), qg 13 10 true (.bin .leq (.t 11) (.t 12)), q 14 (.pick (.t 10) (.t 13) (.c (.bool false))), jm 6 14]
 .ret))
theorem w_impl_within : Wk Tryz.prog 140 15 [.tmp 6] b_impl_within := Wk.of mixedOrders Tryz.func140 (by kernel_rfl) (by kernel_rfl)

theorem within_pc (h : H) (n a b : Int) : PC Tryz.prog 140 [i64 n, i64 a, i64 b] h (.bool (decide (a ≤ n ∧ n ≤ b))) := by
 refine w_impl_within (by simp) ?_
 unfold b_impl_within
 simp -implicitDefEqProofs only [go_sem]
 repeat' (refine Br.of (fun hc => ?_) (fun hc => ?_) <;> simp -implicitDefEqProofs only [go_sem, hc])
 all_goals simp_all
def b_impl_size_impl_Move : C := (jo [q 2 (.mv (.c (i64 0)))]
 (jo [jm 3 0, q 4 (.len (.t 3)), jm 2 4]
 .ret))
theorem w_impl_size_impl_Move : Wk Tryz.prog 139 5 [.tmp 2] b_impl_size_impl_Move := Wk.of mixedOrders Tryz.func139 (by kernel_rfl) (by kernel_rfl)

theorem sizeMove_pc {h : H} {v : Value} {rows : List (List Value)} {w : Nat} (hv : Sl h v w rows) : PC Tryz.prog 139 [v] h (i64 rows.length) := by
 obtain ⟨a, c, b, o, rfl, hcap, h2, h3⟩ := hv
 refine w_impl_size_impl_Move (by simp) ?_
 unfold b_impl_size_impl_Move
 simp -implicitDefEqProofs only [go_sem]
def b_spec_l03Is : C := (jo [q 6 (.mv (.c (.bool false)))]
 (jo [jm 7 0, jm 8 1, jb 9 .geq 7 8, jm 10 9, qg 11 10 true (.mv (.t 0)), qg 12 10 true (.mv (.t 2)), qg 13 10 true (.bin .leq (.t 11) (.t 12)), q 14 (.pick (.t 10) (.t 13) (.c (.bool false))), jm 6 14]
 .ret))
theorem w_spec_l03Is : Wk Tryz.prog 118 15 [.tmp 6] b_spec_l03Is := Wk.of mixedOrders Tryz.func118 (by kernel_rfl) (by kernel_rfl)

theorem l03Is_pc (h : H) (n a b : Int) : PC Tryz.prog 118 [i64 n, i64 a, i64 b] h (.bool (decide (a ≤ n ∧ n ≤ b))) := by
 refine w_spec_l03Is (by simp) ?_
 unfold b_spec_l03Is
 simp -implicitDefEqProofs only [go_sem]
 repeat' (refine Br.of (fun hc => ?_) (fun hc => ?_) <;> simp -implicitDefEqProofs only [go_sem, hc])
 all_goals simp_all
end Go.Proofs.YthjbhdmjfakfaaaGreatDoor
namespace Go.Proofs.YthjbhdmjfakfaaaGreatDoor
open Go.KH

theorem drop_cons {t : List UInt8} {i : Nat} (h : i < t.length) : t.drop i = t[i] :: t.drop (i + 1) := List.drop_eq_getElem_cons h
theorem decN_step {t : List UInt8} {a k u : Nat} (h : a + k < t.length) : decN k u (t.drop (a + k)) = if k = 9 ∧ 1 < t[a + k].toNat then (3, 0, 0) else if t[a + k].toNat < 128 then (if t[a + k].toNat = 0 ∧ 0 < k then (3, 0, 0) else (0, u + t[a + k].toNat * 2 ^ (7 * k), k + 1)) else decN (k + 1) (u + t[a + k].toNat % 128 * 2 ^ (7 * k)) (t.drop (a + (k + 1))) := by
 rw [drop_cons h, decN, Nat.add_assoc]
theorem decN_end {t : List UInt8} {a k u : Nat} (h : ¬ a + k < t.length) : decN k u (t.drop (a + k)) = (4, 0, 0) := by
 rw [List.drop_eq_nil_of_le (by omega), decN]
theorem getN_of {t : List UInt8} {a c u k : Nat} (h : decN 0 0 (t.drop a) = (c, u, k)) : getN t a = if c = 0 then (zag u, a + k, 0) else (0, 0, c) := by
 unfold getN
 rw [h]
 split
 ·rename_i e; simp only [Prod.mk.injEq] at e; obtain ⟨rfl, rfl, rfl⟩ := e; rfl
 ·rename_i hne e
  simp only [Prod.mk.injEq] at e
  obtain ⟨rfl, _, _⟩ := e
  by_cases h0 : c = 0
  ·exact (hne h0).elim
  ·rw [if_neg h0]
def b_impl_getNum : C := (jo [q 4 (.mv (.c (i64 0))), q 5 (.mv (.c (i64 0))), q 6 (.mv (.c (i64 0)))]
 (.seq (jo [jm 11 1, jk 12 .lss 11 0]
 (.cond (.t 12) (jo [q 4 (.mv (.c (i64 0))), q 5 (.mv (.c (i64 0))), q 6 (.mv (.c (i64 1)))]
 .ret) .skip))
 (jo [q 7 (.mv (.c (.int .u64 0)))]
 (jo [q 8 (.mv (.c (i64 0)))]
 (.block 0 (.loop (.seq (.block 1 (.seq (jo [jm 15 1, jm 16 0, q 17 (.slen (.t 16)), jm 18 8, jb 19 .sub 17 18, jb 20 .geq 15 19]
 (.cond (.t 20) (jo [q 4 (.mv (.c (i64 0))), q 5 (.mv (.c (i64 0))), q 6 (.mv (.c (i64 4)))]
 .ret) .skip))
 (jo [jm 21 0, jm 22 1, jm 23 8, jb 24 .add 22 23, q 25 (.sidx (.t 21) (.t 24)), jm 9 25]
 (.seq (jo [jm 26 8, jk 27 .eql 26 9, jm 28 27, qg 29 28 true (.mv (.t 9)), qg 30 28 true (.bin .gtr (.t 29) (.c (u8 1))), q 31 (.pick (.t 28) (.t 30) (.c (.bool false)))]
 (.cond (.t 31) (jo [q 4 (.mv (.c (i64 0))), q 5 (.mv (.c (i64 0))), q 6 (.mv (.c (i64 3)))]
 .ret) .skip))
 (jo [jm 32 7, jm 33 9, q 34 (.bin .and (.t 33) (.c (u8 127))), q 35 (.cv .u64 (.t 34)), jm 36 8, q 37 (.bin .mul (.c (i64 7)) (.t 36)), jb 38 .shl 35 37, jb 39 .or 32 38, jm 7 39]
 (.seq (jo [jm 40 9, q 41 (.bin .gtr (.t 40) (.c (u8 127)))]
 (.cond (.t 41) (.exit 1) .skip))
 (.seq (jo [jm 42 9, q 43 (.bin .eql (.t 42) (.c (u8 0))), jm 44 43, qg 45 44 true (.mv (.t 8)), qg 46 44 true (.bin .gtr (.t 45) (.c (i64 0))), q 47 (.pick (.t 44) (.t 46) (.c (.bool false)))]
 (.cond (.t 47) (jo [q 4 (.mv (.c (i64 0))), q 5 (.mv (.c (i64 0))), q 6 (.mv (.c (i64 3)))]
 .ret) .skip))
 (jo [jm 48 7, q 49 (.bin .shr (.t 48) (.c (.int .u64 1))), q 50 (.cv .i64 (.t 49)), jm 10 50]
 (.seq (jo [jm 51 7, q 52 (.bin .and (.t 51) (.c (.int .u64 1))), q 53 (.bin .eql (.t 52) (.c (.int .u64 1)))]
 (.cond (.t 53) (.ops [jm 54 10, q 55 (.un .xor (.t 54)), jm 10 55]) .skip))
 (jo [jm 56 10, jm 57 1, jm 58 8, jb 59 .add 57 58, jk 60 .add 59 1, jm 4 56, jm 5 60, q 6 (.mv (.c (i64 0)))]
 .ret))))))))))
 (.ops [jm 13 8, jk 14 .add 13 1, jm 8 14]))))))))
theorem w_impl_getNum : Wk Tryz.prog 185 61 [.tmp 4, .tmp 5, .tmp 6] b_impl_getNum := Wk.of mixedOrders Tryz.func185 (by kernel_rfl) (by kernel_rfl)

theorem getNum_pc (h : H) (t : List UInt8) (a : Nat) (ht : t.length ≤ 1099511627776) (ha : a ≤ 1099511627776) : PC Tryz.prog 185 [str t, i64 a] h (.tuple #[i64 (getN t a).1, i64 (getN t a).2.1, i64 (getN t a).2.2]) := by
 refine w_impl_getNum (by simp) ?_
 unfold b_impl_getNum
 simp -implicitDefEqProofs only [go_sem]
 simp -implicitDefEqProofs only [go_sem, show ¬ ((a : Int) < 0) by omega]
 refine loopW_of (fun m f h' => ∃ k u, m + k = 10 ∧ k ≤ 9 ∧ u < 2 ^ (7 * k) ∧ decN 0 0 (t.drop a) = decN k u (t.drop (a + k)) ∧ h' = h ∧ f 0 = str t ∧ f 1 = i64 a ∧ f 7 = .int .u64 (u : Int) ∧ f 8 = i64 k) 10
  ⟨0, 0, rfl, by omega, by decide, rfl, rfl, by simp -implicitDefEqProofs only [go_sem], by simp -implicitDefEqProofs only [go_sem], by simp -implicitDefEqProofs only [go_sem]; rfl, by simp -implicitDefEqProofs only [go_sem]; rfl⟩ ?_
 rintro m f h' ⟨k, u, hm, hk, hu, hd, rfl, f0, f1, f7, f8⟩
 have hp := pow7 hk
 skip
 by_cases hlt : a + k < t.length
 ·have hst := decN_step (u := u) hlt
  rw [← hd] at hst
  obtain ⟨b, hb⟩ : ∃ b, b = t[a + k] := ⟨_, rfl⟩
  rw [← hb] at hst
  have e1 : t[((a : Int) + (k : Int)).toNat]? = some b := by rw [show ((a : Int) + (k : Int)).toNat = a + k by omega, hb]; exact List.getElem?_eq_getElem hlt
  have hbl := b.toNat_lt
  have e7 : IntKind.i64.wrap (7 * (k : Int)) = ((7 * k : Nat) : Int) := by rw [wrap_i64 (by omega) (by omega)]; norm_cast
  have c1 : ¬ ((t.length : Int) - (k : Int) ≤ (a : Int)) := by omega
  have c2 : (0 : Int) ≤ (a : Int) + (k : Int) := by omega
  have n127 := and127 b
  skip
  by_cases hA : k = 9 ∧ 1 < b.toNat
  ·rw [if_pos hA] at hst
   have hg := getN_of hst
   have d9 : decide ((k : Int) = 9) = true := decide_eq_true (by omega)
   have d1 : decide ((1 : Int) < (b.toNat : Int)) = true := decide_eq_true (by omega)
   simp -implicitDefEqProofs only [go_sem, d9, d1, f0, f1, f7, f8, wrap_i64 (show -(9223372036854775808 : Int) ≤ ((t.length : Int) - (k : Int)) by omega) (show ((t.length : Int) - (k : Int)) < 9223372036854775808 by omega), wrap_i64 (show -(9223372036854775808 : Int) ≤ ((a : Int) + (k : Int)) by omega) (show ((a : Int) + (k : Int)) < 9223372036854775808 by omega), c1, c2, e1, n127, e7]
   rw [hg]; rfl
  rw [if_neg hA] at hst
  have hlt64 := dec_lt hk hu hA
  have f9 : decide ((k : Int) = 9) = false ∨ decide ((k : Int) = 9) = true ∧ decide ((1 : Int) < (b.toNat : Int)) = false := by
   by_cases e : k = 9
   ·exact .inr ⟨decide_eq_true (by omega), decide_eq_false (by omega)⟩
   ·exact .inl (decide_eq_false (by omega))
  have shl := shl_u64 (x := b.toNat % 128) (s := 7 * k) (k := .i64) (by omega) (by omega)
  have orr := or_u64 (a := u) (x := b.toNat % 128) (s := 7 * k) hu hlt64
  have hlt7 := dec_lt7 (x := b.toNat) hu
  have eu := wrap_u64 (n := ((b.toNat % 128 : Nat) : Int)) (by omega) (by omega)
  obtain ⟨v, hv⟩ : ∃ v, v = u + b.toNat % 128 * 2 ^ (7 * k) := ⟨_, rfl⟩
  rw [← hv] at orr hlt64 hlt7
  have shr := shr1_u64 v
  have an1 := and1_u64 hlt64
  have ev := wrap_i64 (n := ((v / 2 : Nat) : Int)) (by omega) (by omega)
  have nx := not_i64 (n := v / 2) (by omega)
  by_cases h128 : b.toNat < 128
  ·have hm128 : b.toNat % 128 = b.toNat := by omega
   rw [if_pos h128] at hst
   have c3 : ¬ ((127 : Int) < (b.toNat : Int)) := by omega
   by_cases h0 : b.toNat = 0 ∧ 0 < k
   ·rw [if_pos h0] at hst
    have hg := getN_of hst
    have d0 : decide ((b.toNat : Int) = 0) = true := decide_eq_true (by omega)
    have c4 : (0 : Int) < (k : Int) := by omega
    rcases f9 with q9 | ⟨q9, q1⟩
    ·simp -implicitDefEqProofs only [go_sem, q9, eu, shl, orr, c3, d0, c4, f0, f1, f7, f8, wrap_i64 (show -(9223372036854775808 : Int) ≤ ((t.length : Int) - (k : Int)) by omega) (show ((t.length : Int) - (k : Int)) < 9223372036854775808 by omega), wrap_i64 (show -(9223372036854775808 : Int) ≤ ((a : Int) + (k : Int)) by omega) (show ((a : Int) + (k : Int)) < 9223372036854775808 by omega), c1, c2, e1, n127, e7]
     rw [hg]; rfl
    ·simp -implicitDefEqProofs only [go_sem, q9, q1, eu, shl, orr, c3, d0, c4, f0, f1, f7, f8, wrap_i64 (show -(9223372036854775808 : Int) ≤ ((t.length : Int) - (k : Int)) by omega) (show ((t.length : Int) - (k : Int)) < 9223372036854775808 by omega), wrap_i64 (show -(9223372036854775808 : Int) ≤ ((a : Int) + (k : Int)) by omega) (show ((a : Int) + (k : Int)) < 9223372036854775808 by omega), c1, c2, e1, n127, e7]
     rw [hg]; rfl
   ·rw [if_neg h0, ← hm128, ← hv] at hst
    have hg := getN_of hst
    rw [if_pos rfl] at hg
    have d0 : decide ((b.toNat : Int) = 0) = false ∨ decide ((b.toNat : Int) = 0) = true ∧ decide ((0 : Int) < (k : Int)) = false := by
     by_cases e : b.toNat = 0
     ·exact .inr ⟨decide_eq_true (by omega), decide_eq_false (by omega)⟩
     ·exact .inl (decide_eq_false (by omega))
    have e8 : IntKind.i64.wrap ((a : Int) + (k : Int) + 1) = ((a + (k + 1) : Nat) : Int) := by rw [wrap_i64 (by omega) (by omega)]; omega
    have od : decide (((v % 2 : Nat) : Int) = 1) = true ∧ zag v = -((v / 2 : Nat) : Int) - 1 ∨ decide (((v % 2 : Nat) : Int) = 1) = false ∧ zag v = ((v / 2 : Nat) : Int) := by
     by_cases e : v % 2 = 1
     ·exact .inl ⟨decide_eq_true (by omega), by unfold zag; rw [if_pos e]⟩
     ·exact .inr ⟨decide_eq_false (by omega), by unfold zag; rw [if_neg e]⟩
    skip
    rcases f9 with q9 | ⟨q9, q1⟩ <;> rcases d0 with q0 | ⟨q0, q2⟩ <;> rcases od with ⟨o1, o2⟩ | ⟨o1, o2⟩
    all_goals first | (simp -implicitDefEqProofs only [go_sem, q9, q1, q0, q2, o1, f0, f1, f7, f8, wrap_i64 (show -(9223372036854775808 : Int) ≤ ((t.length : Int) - (k : Int)) by omega) (show ((t.length : Int) - (k : Int)) < 9223372036854775808 by omega), wrap_i64 (show -(9223372036854775808 : Int) ≤ ((a : Int) + (k : Int)) by omega) (show ((a : Int) + (k : Int)) < 9223372036854775808 by omega), c1, c2, e1, n127, e7, eu, shl, orr, c3, shr, an1, ev, nx, e8]) | (simp -implicitDefEqProofs only [go_sem, q9, q1, q0, o1, f0, f1, f7, f8, wrap_i64 (show -(9223372036854775808 : Int) ≤ ((t.length : Int) - (k : Int)) by omega) (show ((t.length : Int) - (k : Int)) < 9223372036854775808 by omega), wrap_i64 (show -(9223372036854775808 : Int) ≤ ((a : Int) + (k : Int)) by omega) (show ((a : Int) + (k : Int)) < 9223372036854775808 by omega), c1, c2, e1, n127, e7, eu, shl, orr, c3, shr, an1, ev, nx, e8]) | (simp -implicitDefEqProofs only [go_sem, q9, q0, q2, o1, f0, f1, f7, f8, wrap_i64 (show -(9223372036854775808 : Int) ≤ ((t.length : Int) - (k : Int)) by omega) (show ((t.length : Int) - (k : Int)) < 9223372036854775808 by omega), wrap_i64 (show -(9223372036854775808 : Int) ≤ ((a : Int) + (k : Int)) by omega) (show ((a : Int) + (k : Int)) < 9223372036854775808 by omega), c1, c2, e1, n127, e7, eu, shl, orr, c3, shr, an1, ev, nx, e8]) | (simp -implicitDefEqProofs only [go_sem, q9, q0, o1, f0, f1, f7, f8, wrap_i64 (show -(9223372036854775808 : Int) ≤ ((t.length : Int) - (k : Int)) by omega) (show ((t.length : Int) - (k : Int)) < 9223372036854775808 by omega), wrap_i64 (show -(9223372036854775808 : Int) ≤ ((a : Int) + (k : Int)) by omega) (show ((a : Int) + (k : Int)) < 9223372036854775808 by omega), c1, c2, e1, n127, e7, eu, shl, orr, c3, shr, an1, ev, nx, e8])
    all_goals (rw [hg, o2]; rfl)
  ·skip
   rw [if_neg h128, ← hv] at hst
   have c3 : (127 : Int) < (b.toNat : Int) := by omega
   have hk9 : k ≠ 9 := fun e => hA ⟨e, by omega⟩
   have q9 : decide ((k : Int) = 9) = false := decide_eq_false (by omega)
   simp -implicitDefEqProofs only [go_sem, q9, eu, shl, orr, c3, wrap_i64 (show -(9223372036854775808 : Int) ≤ ((k : Int) + 1) by omega) (show ((k : Int) + 1) < 9223372036854775808 by omega), f0, f1, f7, f8, wrap_i64 (show -(9223372036854775808 : Int) ≤ ((t.length : Int) - (k : Int)) by omega) (show ((t.length : Int) - (k : Int)) < 9223372036854775808 by omega), wrap_i64 (show -(9223372036854775808 : Int) ≤ ((a : Int) + (k : Int)) by omega) (show ((a : Int) + (k : Int)) < 9223372036854775808 by omega), c1, c2, e1, n127, e7]
   exact ⟨m - 1, by omega, h', Ext.refl _, k + 1, v, by omega, by omega, hlt7, hst, rfl, rfl, rfl⟩
 ·skip
  have he := decN_end (u := u) hlt
  rw [← hd] at he
  have hg := getN_of he
  simp -implicitDefEqProofs only [go_sem, show (t.length : Int) - (k : Int) ≤ (a : Int) by omega, f0, f1, f7, f8, wrap_i64 (show -(9223372036854775808 : Int) ≤ ((t.length : Int) - (k : Int)) by omega) (show ((t.length : Int) - (k : Int)) < 9223372036854775808 by omega), wrap_i64 (show -(9223372036854775808 : Int) ≤ ((a : Int) + (k : Int)) by omega) (show ((a : Int) + (k : Int)) < 9223372036854775808 by omega)]
  rw [hg]; rfl
def b_spec_GetNum : C := (jo [⟨(some 4), none, .alloc [(i64 0), (i64 0), (i64 0)]⟩]
 (.seq (jo [jm 9 0, q 10 (.slen (.t 9)), jk 11 .gtr 10 8000]
 (.cond (.t 11) (jo [q 12 (.build [(i64 0), (i64 0), (i64 0)] [(2, 1, (.c (i64 2)))]), js 3 4 12]
 .ret) .skip))
 (.seq (jo [jm 13 1, jk 14 .lss 13 0]
 (.cond (.t 14) (jo [q 15 (.build [(i64 0), (i64 0), (i64 0)] [(2, 1, (.c (i64 1)))]), js 3 4 15]
 .ret) .skip))
 (jo [q 5 (.mv (.c (.int .u64 0)))]
 (.seq (jo [q 6 (.mv (.c (i64 0)))]
 (.block 0 (.loop (.seq (jo [jm 16 6, jk 17 .lss 16 10]
 (.cond (.t 17) .skip (.exit 0)))
 (.seq (.block 1 (.seq (jo [jm 20 1, jm 21 0, q 22 (.slen (.t 21)), jm 23 6, jb 24 .sub 22 23, jb 25 .geq 20 24]
 (.cond (.t 25) (jo [q 26 (.build [(i64 0), (i64 0), (i64 0)] [(2, 1, (.c (i64 4)))]), js 3 4 26]
 .ret) .skip))
 (jo [jm 27 0, jm 28 1, jm 29 6, jb 30 .add 28 29, q 31 (.sidx (.t 27) (.t 30)), q 32 (.cv .u64 (.t 31)), jm 7 32]
 (.seq (jo [jm 33 6, jk 34 .eql 33 9, jm 35 34, qg 36 35 true (.mv (.t 7)), qg 37 35 true (.bin .gtr (.t 36) (.c (.int .u64 1))), q 38 (.pick (.t 35) (.t 37) (.c (.bool false)))]
 (.cond (.t 38) (jo [q 39 (.build [(i64 0), (i64 0), (i64 0)] [(2, 1, (.c (i64 3)))]), js 3 4 39]
 .ret) .skip))
 (jo [jm 40 5, jm 41 7, q 42 (.bin .rem (.t 41) (.c (.int .u64 128))), jm 43 6, q 44 (.bin .mul (.c (i64 7)) (.t 43)), q 45 (.cv .u64 (.t 44)), jb 46 .shl 42 45, jb 47 .add 40 46, jm 5 47]
 (jo [jm 48 7, q 49 (.bin .lss (.t 48) (.c (.int .u64 128)))]
 (.cond (.t 49) (.seq (jo [jm 50 7, q 51 (.bin .eql (.t 50) (.c (.int .u64 0))), jm 52 51, qg 53 52 true (.mv (.t 6)), qg 54 52 true (.bin .gtr (.t 53) (.c (i64 0))), q 55 (.pick (.t 52) (.t 54) (.c (.bool false)))]
 (.cond (.t 55) (jo [q 56 (.build [(i64 0), (i64 0), (i64 0)] [(2, 1, (.c (i64 3)))]), js 3 4 56]
 .ret) .skip))
 (jo [jm 57 5, q 58 (.bin .quo (.t 57) (.c (.int .u64 2))), q 59 (.cv .i64 (.t 58)), jm 8 59]
 (.seq (jo [jm 60 5, q 61 (.bin .rem (.t 60) (.c (.int .u64 2))), q 62 (.bin .eql (.t 61) (.c (.int .u64 1)))]
 (.cond (.t 62) (.ops [jm 63 8, q 64 (.un .neg (.t 63)), jk 65 .sub 64 1, jm 8 65]) .skip))
 (jo [jm 66 8, jm 67 1, jm 68 6, jb 69 .add 67 68, jk 70 .add 69 1, q 71 (.build [(i64 0), (i64 0), (i64 0)] [(0, 1, (.t 66)), (1, 1, (.t 70))]), js 3 4 71]
 .ret)))) .skip)))))))
 (.ops [jm 18 6, jk 19 .add 18 1, jm 6 19]))))))
 (jo [q 72 (.build [(i64 0), (i64 0), (i64 0)] [(2, 1, (.c (i64 3)))]), js 3 4 72]
 .ret))))))
theorem w_spec_GetNum : Wk Tryz.prog 114 73 [.cell 4 true 3] b_spec_GetNum := Wk.of mixedOrders Tryz.func114 (by kernel_rfl) (by kernel_rfl)

theorem specGetNum_pc (h : H) (t : List UInt8) (a : Nat) (ht : t.length ≤ 8000) (ha : a ≤ 1099511627776) : PC Tryz.prog 114 [str t, i64 a] h (.agg #[i64 (getN t a).1, i64 (getN t a).2.1, i64 (getN t a).2.2]) := by
 refine PC_of ?_
 refine w_spec_GetNum (by simp) ?_
 unfold b_spec_GetNum
 simp -implicitDefEqProofs only [go_sem]
 intro b4 hb_b4 n_b4
 simp -implicitDefEqProofs only [go_sem, show ¬ ((8000 : Int) < (t.length : Int)) by omega, show ¬ ((a : Int) < 0) by omega, hb_b4]
 refine loopW_of (fun m f h' => ∃ k u, m + k = 10 ∧ k ≤ 9 ∧ u < 2 ^ (7 * k) ∧ decN 0 0 (t.drop a) = decN k u (t.drop (a + k)) ∧ h' = h.set b4 ⟨[i64 0, i64 0, i64 0], 3⟩ ∧ f 0 = str t ∧ f 1 = i64 a ∧ f 4 = ptr b4 0 ∧ f 5 = .int .u64 (u : Int) ∧ f 6 = i64 k) 10
  ⟨0, 0, rfl, by omega, by decide, rfl, rfl, by simp -implicitDefEqProofs only [go_sem, hb_b4], by simp -implicitDefEqProofs only [go_sem, hb_b4], by simp -implicitDefEqProofs only [go_sem, hb_b4], by simp -implicitDefEqProofs only [go_sem, hb_b4]; rfl, by simp -implicitDefEqProofs only [go_sem, hb_b4]; rfl⟩ ?_
 rintro m f h' ⟨k, u, hm, hk, hu, hd, rfl, f0, f1, f4, f5, f6⟩
 have hp := pow7 hk
 have ck : ((k : Nat) : Int) < 10 := by omega
 skip
 by_cases hlt : a + k < t.length
 ·have hst := decN_step (u := u) hlt
  rw [← hd] at hst
  obtain ⟨b, hb⟩ : ∃ b, b = t[a + k] := ⟨_, rfl⟩
  rw [← hb] at hst
  have e1 : t[((a : Int) + (k : Int)).toNat]? = some b := by rw [show ((a : Int) + (k : Int)).toNat = a + k by omega, hb]; exact List.getElem?_eq_getElem hlt
  have hbl := b.toNat_lt
  have e7 : IntKind.i64.wrap (7 * (k : Int)) = ((7 * k : Nat) : Int) := by rw [wrap_i64 (by omega) (by omega)]; norm_cast
  have e7u := wrap_u64 (n := ((7 * k : Nat) : Int)) (by omega) (by omega)
  have ec := wrap_u64 (n := (b.toNat : Int)) (by omega) (by omega)
  have tm : (b.toNat : Int).tmod 128 = ((b.toNat % 128 : Nat) : Int) := by rw [Int.tmod_eq_emod_of_nonneg (by omega)]; norm_cast
  have c1 : ¬ ((t.length : Int) - (k : Int) ≤ (a : Int)) := by omega
  have c2 : (0 : Int) ≤ (a : Int) + (k : Int) := by omega
  skip
  by_cases hA : k = 9 ∧ 1 < b.toNat
  ·rw [if_pos hA] at hst
   have hg := getN_of hst
   have d9 : decide ((k : Int) = 9) = true := decide_eq_true (by omega)
   have d1 : decide ((1 : Int) < (b.toNat : Int)) = true := decide_eq_true (by omega)
   simp -implicitDefEqProofs only [go_sem, d9, d1, hb_b4, f0, f1, f4, f5, f6, ck, wrap_i64 (show -(9223372036854775808 : Int) ≤ ((t.length : Int) - (k : Int)) by omega) (show ((t.length : Int) - (k : Int)) < 9223372036854775808 by omega), wrap_i64 (show -(9223372036854775808 : Int) ≤ ((a : Int) + (k : Int)) by omega) (show ((a : Int) + (k : Int)) < 9223372036854775808 by omega), c1, c2, e1, e7, e7u, ec, tm]
   rw [hg]; exact ⟨((Ext.refl _).set' n_b4 _), rfl⟩
  rw [if_neg hA] at hst
  have hlt64 := dec_lt hk hu hA
  have f9 : decide ((k : Int) = 9) = false ∨ decide ((k : Int) = 9) = true ∧ decide ((1 : Int) < (b.toNat : Int)) = false := by
   by_cases e : k = 9
   ·exact .inr ⟨decide_eq_true (by omega), decide_eq_false (by omega)⟩
   ·exact .inl (decide_eq_false (by omega))
  have shl := shl_u64 (x := b.toNat % 128) (s := 7 * k) (k := .u64) (by omega) (by omega)
  have hlt7 := dec_lt7 (x := b.toNat) hu
  obtain ⟨y, hy⟩ : ∃ y, y = b.toNat % 128 * 2 ^ (7 * k) := ⟨_, rfl⟩
  obtain ⟨v, hv⟩ : ∃ v, v = u + b.toNat % 128 * 2 ^ (7 * k) := ⟨_, rfl⟩
  rw [← hv] at hlt64 hlt7
  rw [← hy] at shl hv
  have add : IntKind.u64.wrap ((u : Int) + (y : Int)) = (v : Int) := by rw [wrap_u64 (by omega) (by omega)]; omega
  have quo : IntKind.u64.wrap ((v : Int).tdiv 2) = ((v / 2 : Nat) : Int) := by
   rw [Int.tdiv_eq_ediv_of_nonneg (by omega), wrap_u64 (by omega) (by omega)]; omega
  have rem : (v : Int).tmod 2 = ((v % 2 : Nat) : Int) := by rw [Int.tmod_eq_emod_of_nonneg (by omega)]; norm_cast
  have ev := wrap_i64 (n := ((v / 2 : Nat) : Int)) (by omega) (by omega)
  have eneg := wrap_i64 (n := 0 - ((v / 2 : Nat) : Int)) (by omega) (by omega)
  have esub := wrap_i64 (n := 0 - ((v / 2 : Nat) : Int) - 1) (by omega) (by omega)
  by_cases h128 : b.toNat < 128
  ·have hm128 : b.toNat % 128 = b.toNat := by omega
   rw [if_pos h128] at hst
   have c3 : (b.toNat : Int) < 128 := by omega
   by_cases h0 : b.toNat = 0 ∧ 0 < k
   ·rw [if_pos h0] at hst
    have hg := getN_of hst
    have d0 : decide ((b.toNat : Int) = 0) = true := decide_eq_true (by omega)
    have c4 : (0 : Int) < (k : Int) := by omega
    rcases f9 with q9 | ⟨q9, q1⟩
    ·simp -implicitDefEqProofs only [go_sem, q9, shl, add, c3, d0, c4, hb_b4, f0, f1, f4, f5, f6, ck, wrap_i64 (show -(9223372036854775808 : Int) ≤ ((t.length : Int) - (k : Int)) by omega) (show ((t.length : Int) - (k : Int)) < 9223372036854775808 by omega), wrap_i64 (show -(9223372036854775808 : Int) ≤ ((a : Int) + (k : Int)) by omega) (show ((a : Int) + (k : Int)) < 9223372036854775808 by omega), c1, c2, e1, e7, e7u, ec, tm]
     rw [hg]; exact ⟨((Ext.refl _).set' n_b4 _), rfl⟩
    ·simp -implicitDefEqProofs only [go_sem, q9, q1, shl, add, c3, d0, c4, hb_b4, f0, f1, f4, f5, f6, ck, wrap_i64 (show -(9223372036854775808 : Int) ≤ ((t.length : Int) - (k : Int)) by omega) (show ((t.length : Int) - (k : Int)) < 9223372036854775808 by omega), wrap_i64 (show -(9223372036854775808 : Int) ≤ ((a : Int) + (k : Int)) by omega) (show ((a : Int) + (k : Int)) < 9223372036854775808 by omega), c1, c2, e1, e7, e7u, ec, tm]
     rw [hg]; exact ⟨((Ext.refl _).set' n_b4 _), rfl⟩
   ·rw [if_neg h0, ← hm128, ← hy, ← hv] at hst
    have hg := getN_of hst
    rw [if_pos rfl] at hg
    have d0 : decide ((b.toNat : Int) = 0) = false ∨ decide ((b.toNat : Int) = 0) = true ∧ decide ((0 : Int) < (k : Int)) = false := by
     by_cases e : b.toNat = 0
     ·exact .inr ⟨decide_eq_true (by omega), decide_eq_false (by omega)⟩
     ·exact .inl (decide_eq_false (by omega))
    have e8 : IntKind.i64.wrap ((a : Int) + (k : Int) + 1) = ((a + (k + 1) : Nat) : Int) := by rw [wrap_i64 (by omega) (by omega)]; omega
    have od : decide (((v % 2 : Nat) : Int) = 1) = true ∧ zag v = 0 - ((v / 2 : Nat) : Int) - 1 ∨ decide (((v % 2 : Nat) : Int) = 1) = false ∧ zag v = ((v / 2 : Nat) : Int) := by
     by_cases e : v % 2 = 1
     ·exact .inl ⟨decide_eq_true (by omega), by unfold zag; rw [if_pos e]; omega⟩
     ·exact .inr ⟨decide_eq_false (by omega), by unfold zag; rw [if_neg e]⟩
    skip
    rcases f9 with q9 | ⟨q9, q1⟩ <;> rcases d0 with q0 | ⟨q0, q2⟩ <;> rcases od with ⟨o1, o2⟩ | ⟨o1, o2⟩
    all_goals first | (simp -implicitDefEqProofs only [go_sem, q9, q1, q0, q2, o1, hb_b4, f0, f1, f4, f5, f6, ck, wrap_i64 (show -(9223372036854775808 : Int) ≤ ((t.length : Int) - (k : Int)) by omega) (show ((t.length : Int) - (k : Int)) < 9223372036854775808 by omega), wrap_i64 (show -(9223372036854775808 : Int) ≤ ((a : Int) + (k : Int)) by omega) (show ((a : Int) + (k : Int)) < 9223372036854775808 by omega), c1, c2, e1, e7, e7u, ec, tm, shl, add, c3, quo, rem, ev, eneg, esub, e8]) | (simp -implicitDefEqProofs only [go_sem, q9, q1, q0, o1, hb_b4, f0, f1, f4, f5, f6, ck, wrap_i64 (show -(9223372036854775808 : Int) ≤ ((t.length : Int) - (k : Int)) by omega) (show ((t.length : Int) - (k : Int)) < 9223372036854775808 by omega), wrap_i64 (show -(9223372036854775808 : Int) ≤ ((a : Int) + (k : Int)) by omega) (show ((a : Int) + (k : Int)) < 9223372036854775808 by omega), c1, c2, e1, e7, e7u, ec, tm, shl, add, c3, quo, rem, ev, eneg, esub, e8]) | (simp -implicitDefEqProofs only [go_sem, q9, q0, q2, o1, hb_b4, f0, f1, f4, f5, f6, ck, wrap_i64 (show -(9223372036854775808 : Int) ≤ ((t.length : Int) - (k : Int)) by omega) (show ((t.length : Int) - (k : Int)) < 9223372036854775808 by omega), wrap_i64 (show -(9223372036854775808 : Int) ≤ ((a : Int) + (k : Int)) by omega) (show ((a : Int) + (k : Int)) < 9223372036854775808 by omega), c1, c2, e1, e7, e7u, ec, tm, shl, add, c3, quo, rem, ev, eneg, esub, e8]) | (simp -implicitDefEqProofs only [go_sem, q9, q0, o1, hb_b4, f0, f1, f4, f5, f6, ck, wrap_i64 (show -(9223372036854775808 : Int) ≤ ((t.length : Int) - (k : Int)) by omega) (show ((t.length : Int) - (k : Int)) < 9223372036854775808 by omega), wrap_i64 (show -(9223372036854775808 : Int) ≤ ((a : Int) + (k : Int)) by omega) (show ((a : Int) + (k : Int)) < 9223372036854775808 by omega), c1, c2, e1, e7, e7u, ec, tm, shl, add, c3, quo, rem, ev, eneg, esub, e8])
    all_goals (rw [hg, o2]; exact ⟨((Ext.refl _).set' n_b4 _), rfl⟩)
  ·skip
   rw [if_neg h128, ← hy, ← hv] at hst
   have c3 : ¬ ((b.toNat : Int) < 128) := by omega
   have hk9 : k ≠ 9 := fun e => hA ⟨e, by omega⟩
   have q9 : decide ((k : Int) = 9) = false := decide_eq_false (by omega)
   simp -implicitDefEqProofs only [go_sem, q9, shl, add, c3, wrap_i64 (show -(9223372036854775808 : Int) ≤ ((k : Int) + 1) by omega) (show ((k : Int) + 1) < 9223372036854775808 by omega), hb_b4, f0, f1, f4, f5, f6, ck, wrap_i64 (show -(9223372036854775808 : Int) ≤ ((t.length : Int) - (k : Int)) by omega) (show ((t.length : Int) - (k : Int)) < 9223372036854775808 by omega), wrap_i64 (show -(9223372036854775808 : Int) ≤ ((a : Int) + (k : Int)) by omega) (show ((a : Int) + (k : Int)) < 9223372036854775808 by omega), c1, c2, e1, e7, e7u, ec, tm]
   exact ⟨m - 1, by omega, _, Ext.refl _, k + 1, v, by omega, by omega, hlt7, hst, rfl, rfl, rfl⟩
 ·skip
  have he := decN_end (u := u) hlt
  rw [← hd] at he
  have hg := getN_of he
  simp -implicitDefEqProofs only [go_sem, show (t.length : Int) - (k : Int) ≤ (a : Int) by omega, hb_b4, f0, f1, f4, f5, f6, ck, wrap_i64 (show -(9223372036854775808 : Int) ≤ ((t.length : Int) - (k : Int)) by omega) (show ((t.length : Int) - (k : Int)) < 9223372036854775808 by omega), wrap_i64 (show -(9223372036854775808 : Int) ≤ ((a : Int) + (k : Int)) by omega) (show ((a : Int) + (k : Int)) < 9223372036854775808 by omega)]
  rw [hg]; exact ⟨((Ext.refl _).set' n_b4 _), rfl⟩
end Go.Proofs.YthjbhdmjfakfaaaGreatDoor