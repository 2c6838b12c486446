/- A helper of this seat's claims (contracts of the functions): what it shows is shown for every input that its statements name, on no other condition. -/
import Derived.Test.YthjbhdmjfakfaaaGreatDoorMC0
import Derived.Test.YthjbhdmjfakfaaaGreatDoorKD
set_option linter.unusedVariables false
set_option linter.unusedSimpArgs false
set_option maxRecDepth 100000
namespace Go.Proofs.YthjbhdmjfakfaaaGreatDoor
open Go.KH

/-! ## Numbers and texts read -/
theorem drop_cons {t : List UInt8} {i : Nat} (h : i < t.length) : t.drop i = t[i] :: t.drop (i + 1) := List.drop_eq_getElem_cons h
theorem decN_step {t : List UInt8} {a k u : Nat} (h : a + k < t.length) : decN k u (t.drop (a + k)) = if k = 9 ∧ 1 < t[a + k].toNat then (3, 0, 0) else if t[a + k].toNat < 128 then (if t[a + k].toNat = 0 ∧ 0 < k then (3, 0, 0) else (0, u + t[a + k].toNat * 2 ^ (7 * k), k + 1)) else decN (k + 1) (u + t[a + k].toNat % 128 * 2 ^ (7 * k)) (t.drop (a + (k + 1))) := by
  rw [drop_cons h, decN, Nat.add_assoc]
theorem decN_end {t : List UInt8} {a k u : Nat} (h : ¬ a + k < t.length) : decN k u (t.drop (a + k)) = (4, 0, 0) := by
  rw [List.drop_eq_nil_of_le (by omega), decN]
theorem getN_of {t : List UInt8} {a c u k : Nat} (h : decN 0 0 (t.drop a) = (c, u, k)) : getN t a = if c = 0 then (zag u, a + k, 0) else (0, 0, c) := by
  unfold getN
  rw [h]
  split
  · rename_i e; simp only [Prod.mk.injEq] at e; obtain ⟨rfl, rfl, rfl⟩ := e; rfl
  · rename_i hne e
    simp only [Prod.mk.injEq] at e
    obtain ⟨rfl, _, _⟩ := e
    by_cases h0 : c = 0
    · exact (hne h0).elim
    · rw [if_neg h0]
/-- impl.getNum -/
def b_impl_getNum : C := (.seq (.ops [q 4 (.mv (.c (i64 0))), q 5 (.mv (.c (i64 0))), q 6 (.mv (.c (i64 0)))])
 (.seq (.seq (.ops [q 11 (.mv (.t 1)), q 12 (.bin .lss (.t 11) (.c (i64 0)))])
 (.cond (.t 12) (.seq (.ops [q 4 (.mv (.c (i64 0))), q 5 (.mv (.c (i64 0))), q 6 (.mv (.c (i64 1)))])
 .ret) .skip))
 (.seq (.ops [q 7 (.mv (.c (.int .u64 0)))])
 (.seq (.ops [q 8 (.mv (.c (i64 0)))])
 (.block 0 (.loop (.seq (.block 1 (.seq (.seq (.ops [q 15 (.mv (.t 1)), q 16 (.mv (.t 0)), q 17 (.slen (.t 16)), q 18 (.mv (.t 8)), q 19 (.bin .sub (.t 17) (.t 18)), q 20 (.bin .geq (.t 15) (.t 19))])
 (.cond (.t 20) (.seq (.ops [q 4 (.mv (.c (i64 0))), q 5 (.mv (.c (i64 0))), q 6 (.mv (.c (i64 4)))])
 .ret) .skip))
 (.seq (.ops [q 21 (.mv (.t 0)), q 22 (.mv (.t 1)), q 23 (.mv (.t 8)), q 24 (.bin .add (.t 22) (.t 23)), q 25 (.sidx (.t 21) (.t 24)), q 9 (.mv (.t 25))])
 (.seq (.seq (.ops [q 26 (.mv (.t 8)), q 27 (.bin .eql (.t 26) (.c (i64 9))), q 28 (.mv (.t 27)), qg 29 28 true (.mv (.t 9)), qg 30 28 true (.bin .gtr (.t 29) (.c (u8 1))), q 31 (.pick (.t 28) (.t 30) (.c (.bool false)))])
 (.cond (.t 31) (.seq (.ops [q 4 (.mv (.c (i64 0))), q 5 (.mv (.c (i64 0))), q 6 (.mv (.c (i64 3)))])
 .ret) .skip))
 (.seq (.ops [q 32 (.mv (.t 7)), q 33 (.mv (.t 9)), q 34 (.bin .and (.t 33) (.c (u8 127))), q 35 (.cv .u64 (.t 34)), q 36 (.mv (.t 8)), q 37 (.bin .mul (.c (i64 7)) (.t 36)), q 38 (.bin .shl (.t 35) (.t 37)), q 39 (.bin .or (.t 32) (.t 38)), q 7 (.mv (.t 39))])
 (.seq (.seq (.ops [q 40 (.mv (.t 9)), q 41 (.bin .gtr (.t 40) (.c (u8 127)))])
 (.cond (.t 41) (.exit 1) .skip))
 (.seq (.seq (.ops [q 42 (.mv (.t 9)), q 43 (.bin .eql (.t 42) (.c (u8 0))), q 44 (.mv (.t 43)), qg 45 44 true (.mv (.t 8)), qg 46 44 true (.bin .gtr (.t 45) (.c (i64 0))), q 47 (.pick (.t 44) (.t 46) (.c (.bool false)))])
 (.cond (.t 47) (.seq (.ops [q 4 (.mv (.c (i64 0))), q 5 (.mv (.c (i64 0))), q 6 (.mv (.c (i64 3)))])
 .ret) .skip))
 (.seq (.ops [q 48 (.mv (.t 7)), q 49 (.bin .shr (.t 48) (.c (.int .u64 1))), q 50 (.cv .i64 (.t 49)), q 10 (.mv (.t 50))])
 (.seq (.seq (.ops [q 51 (.mv (.t 7)), q 52 (.bin .and (.t 51) (.c (.int .u64 1))), q 53 (.bin .eql (.t 52) (.c (.int .u64 1)))])
 (.cond (.t 53) (.ops [q 54 (.mv (.t 10)), q 55 (.un .xor (.t 54)), q 10 (.mv (.t 55))]) .skip))
 (.seq (.ops [q 56 (.mv (.t 10)), q 57 (.mv (.t 1)), q 58 (.mv (.t 8)), q 59 (.bin .add (.t 57) (.t 58)), q 60 (.bin .add (.t 59) (.c (i64 1))), q 4 (.mv (.t 56)), q 5 (.mv (.t 60)), q 6 (.mv (.c (i64 0)))])
 .ret))))))))))
 (.ops [q 13 (.mv (.t 8)), q 14 (.bin .add (.t 13) (.c (i64 1))), q 8 (.mv (.t 14))]))))))))
theorem w_impl_getNum {args : List Value} {h : H} {Q : Value → H → Prop} (hl : args.length ≤ 61) (hk : wpc Tryz.prog b_impl_getNum (retw [.tmp 4, .tmp 5, .tmp 6] Q) (argsFr args) h) : AC Tryz.prog 185 args h Q :=
  AC.of_wpc mixedOrders Tryz.func185 (by kernel_rfl) (by kernel_rfl : prepF Tryz.prog Tryz.f185 = some ⟨61, [.tmp 4, .tmp 5, .tmp 6], b_impl_getNum⟩) hl hk

theorem getNum_pc (h : H) (t : List UInt8) (a : Nat) (ht : t.length ≤ 1099511627776) (ha : a ≤ 1099511627776) : PC Tryz.prog 185 [str t, i64 a] h (.tuple #[i64 (getN t a).1, i64 (getN t a).2.1, i64 (getN t a).2.2]) := by
  refine w_impl_getNum (by simp) ?_
  unfold b_impl_getNum
  simp -implicitDefEqProofs only [go_sem]
  simp -implicitDefEqProofs only [go_sem, show ¬ ((a : Int) < 0) by omega]
  refine loopW_of (fun m f h' => ∃ k u, m + k = 10 ∧ k ≤ 9 ∧ u < 2 ^ (7 * k) ∧ decN 0 0 (t.drop a) = decN k u (t.drop (a + k)) ∧ h' = h ∧ f 0 = str t ∧ f 1 = i64 a ∧ f 7 = .int .u64 (u : Int) ∧ f 8 = i64 k) 10
    ⟨0, 0, rfl, by omega, by decide, rfl, rfl, by simp -implicitDefEqProofs only [go_sem], by simp -implicitDefEqProofs only [go_sem], by simp -implicitDefEqProofs only [go_sem]; rfl, by simp -implicitDefEqProofs only [go_sem]; rfl⟩ ?_
  rintro m f h' ⟨k, u, hm, hk, hu, hd, rfl, f0, f1, f7, f8⟩
  have hp := pow7 hk
  skip
  by_cases hlt : a + k < t.length
  · have hst := decN_step (u := u) hlt
    rw [← hd] at hst
    obtain ⟨b, hb⟩ : ∃ b, b = t[a + k] := ⟨_, rfl⟩
    rw [← hb] at hst
    have e1 : t[((a : Int) + (k : Int)).toNat]? = some b := by rw [show ((a : Int) + (k : Int)).toNat = a + k by omega, hb]; exact List.getElem?_eq_getElem hlt
    have hbl := b.toNat_lt
    have e7 : IntKind.i64.wrap (7 * (k : Int)) = ((7 * k : Nat) : Int) := by rw [wrap_i64 (by omega) (by omega)]; norm_cast
    have c1 : ¬ ((t.length : Int) - (k : Int) ≤ (a : Int)) := by omega
    have c2 : (0 : Int) ≤ (a : Int) + (k : Int) := by omega
    have n127 := and127 b
    skip
    by_cases hA : k = 9 ∧ 1 < b.toNat
    · rw [if_pos hA] at hst
      have hg := getN_of hst
      have d9 : decide ((k : Int) = 9) = true := decide_eq_true (by omega)
      have d1 : decide ((1 : Int) < (b.toNat : Int)) = true := decide_eq_true (by omega)
      simp -implicitDefEqProofs only [go_sem, d9, d1, f0, f1, f7, f8, wrap_i64 (show -(9223372036854775808 : Int) ≤ ((t.length : Int) - (k : Int)) by omega) (show ((t.length : Int) - (k : Int)) < 9223372036854775808 by omega), wrap_i64 (show -(9223372036854775808 : Int) ≤ ((a : Int) + (k : Int)) by omega) (show ((a : Int) + (k : Int)) < 9223372036854775808 by omega), c1, c2, e1, n127, e7]
      rw [hg]; rfl
    rw [if_neg hA] at hst
    have hlt64 := dec_lt hk hu hA
    have f9 : decide ((k : Int) = 9) = false ∨ decide ((k : Int) = 9) = true ∧ decide ((1 : Int) < (b.toNat : Int)) = false := by
      by_cases e : k = 9
      · exact .inr ⟨decide_eq_true (by omega), decide_eq_false (by omega)⟩
      · exact .inl (decide_eq_false (by omega))
    have shl := shl_u64 (x := b.toNat % 128) (s := 7 * k) (k := .i64) (by omega) (by omega)
    have orr := or_u64 (a := u) (x := b.toNat % 128) (s := 7 * k) hu hlt64
    have hlt7 := dec_lt7 (x := b.toNat) hu
    have eu := wrap_u64 (n := ((b.toNat % 128 : Nat) : Int)) (by omega) (by omega)
    obtain ⟨v, hv⟩ : ∃ v, v = u + b.toNat % 128 * 2 ^ (7 * k) := ⟨_, rfl⟩
    rw [← hv] at orr hlt64 hlt7
    have shr := shr1_u64 v
    have an1 := and1_u64 hlt64
    have ev := wrap_i64 (n := ((v / 2 : Nat) : Int)) (by omega) (by omega)
    have nx := not_i64 (n := v / 2) (by omega)
    by_cases h128 : b.toNat < 128
    · have hm128 : b.toNat % 128 = b.toNat := by omega
      rw [if_pos h128] at hst
      have c3 : ¬ ((127 : Int) < (b.toNat : Int)) := by omega
      by_cases h0 : b.toNat = 0 ∧ 0 < k
      · rw [if_pos h0] at hst
        have hg := getN_of hst
        have d0 : decide ((b.toNat : Int) = 0) = true := decide_eq_true (by omega)
        have c4 : (0 : Int) < (k : Int) := by omega
        rcases f9 with q9 | ⟨q9, q1⟩
        · simp -implicitDefEqProofs only [go_sem, q9, eu, shl, orr, c3, d0, c4, f0, f1, f7, f8, wrap_i64 (show -(9223372036854775808 : Int) ≤ ((t.length : Int) - (k : Int)) by omega) (show ((t.length : Int) - (k : Int)) < 9223372036854775808 by omega), wrap_i64 (show -(9223372036854775808 : Int) ≤ ((a : Int) + (k : Int)) by omega) (show ((a : Int) + (k : Int)) < 9223372036854775808 by omega), c1, c2, e1, n127, e7]
          rw [hg]; rfl
        · simp -implicitDefEqProofs only [go_sem, q9, q1, eu, shl, orr, c3, d0, c4, f0, f1, f7, f8, wrap_i64 (show -(9223372036854775808 : Int) ≤ ((t.length : Int) - (k : Int)) by omega) (show ((t.length : Int) - (k : Int)) < 9223372036854775808 by omega), wrap_i64 (show -(9223372036854775808 : Int) ≤ ((a : Int) + (k : Int)) by omega) (show ((a : Int) + (k : Int)) < 9223372036854775808 by omega), c1, c2, e1, n127, e7]
          rw [hg]; rfl
      · rw [if_neg h0, ← hm128, ← hv] at hst
        have hg := getN_of hst
        rw [if_pos rfl] at hg
        have d0 : decide ((b.toNat : Int) = 0) = false ∨ decide ((b.toNat : Int) = 0) = true ∧ decide ((0 : Int) < (k : Int)) = false := by
          by_cases e : b.toNat = 0
          · exact .inr ⟨decide_eq_true (by omega), decide_eq_false (by omega)⟩
          · exact .inl (decide_eq_false (by omega))
        have e8 : IntKind.i64.wrap ((a : Int) + (k : Int) + 1) = ((a + (k + 1) : Nat) : Int) := by rw [wrap_i64 (by omega) (by omega)]; omega
        have od : decide (((v % 2 : Nat) : Int) = 1) = true ∧ zag v = -((v / 2 : Nat) : Int) - 1 ∨ decide (((v % 2 : Nat) : Int) = 1) = false ∧ zag v = ((v / 2 : Nat) : Int) := by
          by_cases e : v % 2 = 1
          · exact .inl ⟨decide_eq_true (by omega), by unfold zag; rw [if_pos e]⟩
          · exact .inr ⟨decide_eq_false (by omega), by unfold zag; rw [if_neg e]⟩
        skip
        rcases f9 with q9 | ⟨q9, q1⟩ <;> rcases d0 with q0 | ⟨q0, q2⟩ <;> rcases od with ⟨o1, o2⟩ | ⟨o1, o2⟩
        all_goals first | (simp -implicitDefEqProofs only [go_sem, q9, q1, q0, q2, o1, f0, f1, f7, f8, wrap_i64 (show -(9223372036854775808 : Int) ≤ ((t.length : Int) - (k : Int)) by omega) (show ((t.length : Int) - (k : Int)) < 9223372036854775808 by omega), wrap_i64 (show -(9223372036854775808 : Int) ≤ ((a : Int) + (k : Int)) by omega) (show ((a : Int) + (k : Int)) < 9223372036854775808 by omega), c1, c2, e1, n127, e7, eu, shl, orr, c3, shr, an1, ev, nx, e8]) | (simp -implicitDefEqProofs only [go_sem, q9, q1, q0, o1, f0, f1, f7, f8, wrap_i64 (show -(9223372036854775808 : Int) ≤ ((t.length : Int) - (k : Int)) by omega) (show ((t.length : Int) - (k : Int)) < 9223372036854775808 by omega), wrap_i64 (show -(9223372036854775808 : Int) ≤ ((a : Int) + (k : Int)) by omega) (show ((a : Int) + (k : Int)) < 9223372036854775808 by omega), c1, c2, e1, n127, e7, eu, shl, orr, c3, shr, an1, ev, nx, e8]) | (simp -implicitDefEqProofs only [go_sem, q9, q0, q2, o1, f0, f1, f7, f8, wrap_i64 (show -(9223372036854775808 : Int) ≤ ((t.length : Int) - (k : Int)) by omega) (show ((t.length : Int) - (k : Int)) < 9223372036854775808 by omega), wrap_i64 (show -(9223372036854775808 : Int) ≤ ((a : Int) + (k : Int)) by omega) (show ((a : Int) + (k : Int)) < 9223372036854775808 by omega), c1, c2, e1, n127, e7, eu, shl, orr, c3, shr, an1, ev, nx, e8]) | (simp -implicitDefEqProofs only [go_sem, q9, q0, o1, f0, f1, f7, f8, wrap_i64 (show -(9223372036854775808 : Int) ≤ ((t.length : Int) - (k : Int)) by omega) (show ((t.length : Int) - (k : Int)) < 9223372036854775808 by omega), wrap_i64 (show -(9223372036854775808 : Int) ≤ ((a : Int) + (k : Int)) by omega) (show ((a : Int) + (k : Int)) < 9223372036854775808 by omega), c1, c2, e1, n127, e7, eu, shl, orr, c3, shr, an1, ev, nx, e8])
        all_goals (rw [hg, o2]; rfl)
    · skip
      rw [if_neg h128, ← hv] at hst
      have c3 : (127 : Int) < (b.toNat : Int) := by omega
      have hk9 : k ≠ 9 := fun e => hA ⟨e, by omega⟩
      have q9 : decide ((k : Int) = 9) = false := decide_eq_false (by omega)
      simp -implicitDefEqProofs only [go_sem, q9, eu, shl, orr, c3, wrap_i64 (show -(9223372036854775808 : Int) ≤ ((k : Int) + 1) by omega) (show ((k : Int) + 1) < 9223372036854775808 by omega), f0, f1, f7, f8, wrap_i64 (show -(9223372036854775808 : Int) ≤ ((t.length : Int) - (k : Int)) by omega) (show ((t.length : Int) - (k : Int)) < 9223372036854775808 by omega), wrap_i64 (show -(9223372036854775808 : Int) ≤ ((a : Int) + (k : Int)) by omega) (show ((a : Int) + (k : Int)) < 9223372036854775808 by omega), c1, c2, e1, n127, e7]
      exact ⟨m - 1, by omega, h', Ext.refl _, k + 1, v, by omega, by omega, hlt7, hst, rfl, rfl, rfl⟩
  · skip
    have he := decN_end (u := u) hlt
    rw [← hd] at he
    have hg := getN_of he
    simp -implicitDefEqProofs only [go_sem, show (t.length : Int) - (k : Int) ≤ (a : Int) by omega, f0, f1, f7, f8, wrap_i64 (show -(9223372036854775808 : Int) ≤ ((t.length : Int) - (k : Int)) by omega) (show ((t.length : Int) - (k : Int)) < 9223372036854775808 by omega), wrap_i64 (show -(9223372036854775808 : Int) ≤ ((a : Int) + (k : Int)) by omega) (show ((a : Int) + (k : Int)) < 9223372036854775808 by omega)]
    rw [hg]; rfl
/-- spec.GetNum -/
def b_spec_GetNum : C := (.seq (.ops [⟨(some 4), none, .alloc [(i64 0), (i64 0), (i64 0)]⟩])
 (.seq (.seq (.ops [q 9 (.mv (.t 0)), q 10 (.slen (.t 9)), q 11 (.bin .gtr (.t 10) (.c (i64 8000)))])
 (.cond (.t 11) (.seq (.ops [q 12 (.build [(i64 0), (i64 0), (i64 0)] [(2, 1, (.c (i64 2)))]), ⟨none, none, .st 3 (.t 4) (.t 12)⟩])
 .ret) .skip))
 (.seq (.seq (.ops [q 13 (.mv (.t 1)), q 14 (.bin .lss (.t 13) (.c (i64 0)))])
 (.cond (.t 14) (.seq (.ops [q 15 (.build [(i64 0), (i64 0), (i64 0)] [(2, 1, (.c (i64 1)))]), ⟨none, none, .st 3 (.t 4) (.t 15)⟩])
 .ret) .skip))
 (.seq (.ops [q 5 (.mv (.c (.int .u64 0)))])
 (.seq (.seq (.ops [q 6 (.mv (.c (i64 0)))])
 (.block 0 (.loop (.seq (.seq (.ops [q 16 (.mv (.t 6)), q 17 (.bin .lss (.t 16) (.c (i64 10)))])
 (.cond (.t 17) .skip (.exit 0)))
 (.seq (.block 1 (.seq (.seq (.ops [q 20 (.mv (.t 1)), q 21 (.mv (.t 0)), q 22 (.slen (.t 21)), q 23 (.mv (.t 6)), q 24 (.bin .sub (.t 22) (.t 23)), q 25 (.bin .geq (.t 20) (.t 24))])
 (.cond (.t 25) (.seq (.ops [q 26 (.build [(i64 0), (i64 0), (i64 0)] [(2, 1, (.c (i64 4)))]), ⟨none, none, .st 3 (.t 4) (.t 26)⟩])
 .ret) .skip))
 (.seq (.ops [q 27 (.mv (.t 0)), q 28 (.mv (.t 1)), q 29 (.mv (.t 6)), q 30 (.bin .add (.t 28) (.t 29)), q 31 (.sidx (.t 27) (.t 30)), q 32 (.cv .u64 (.t 31)), q 7 (.mv (.t 32))])
 (.seq (.seq (.ops [q 33 (.mv (.t 6)), q 34 (.bin .eql (.t 33) (.c (i64 9))), q 35 (.mv (.t 34)), qg 36 35 true (.mv (.t 7)), qg 37 35 true (.bin .gtr (.t 36) (.c (.int .u64 1))), q 38 (.pick (.t 35) (.t 37) (.c (.bool false)))])
 (.cond (.t 38) (.seq (.ops [q 39 (.build [(i64 0), (i64 0), (i64 0)] [(2, 1, (.c (i64 3)))]), ⟨none, none, .st 3 (.t 4) (.t 39)⟩])
 .ret) .skip))
 (.seq (.ops [q 40 (.mv (.t 5)), q 41 (.mv (.t 7)), q 42 (.bin .rem (.t 41) (.c (.int .u64 128))), q 43 (.mv (.t 6)), q 44 (.bin .mul (.c (i64 7)) (.t 43)), q 45 (.cv .u64 (.t 44)), q 46 (.bin .shl (.t 42) (.t 45)), q 47 (.bin .add (.t 40) (.t 46)), q 5 (.mv (.t 47))])
 (.seq (.ops [q 48 (.mv (.t 7)), q 49 (.bin .lss (.t 48) (.c (.int .u64 128)))])
 (.cond (.t 49) (.seq (.seq (.ops [q 50 (.mv (.t 7)), q 51 (.bin .eql (.t 50) (.c (.int .u64 0))), q 52 (.mv (.t 51)), qg 53 52 true (.mv (.t 6)), qg 54 52 true (.bin .gtr (.t 53) (.c (i64 0))), q 55 (.pick (.t 52) (.t 54) (.c (.bool false)))])
 (.cond (.t 55) (.seq (.ops [q 56 (.build [(i64 0), (i64 0), (i64 0)] [(2, 1, (.c (i64 3)))]), ⟨none, none, .st 3 (.t 4) (.t 56)⟩])
 .ret) .skip))
 (.seq (.ops [q 57 (.mv (.t 5)), q 58 (.bin .quo (.t 57) (.c (.int .u64 2))), q 59 (.cv .i64 (.t 58)), q 8 (.mv (.t 59))])
 (.seq (.seq (.ops [q 60 (.mv (.t 5)), q 61 (.bin .rem (.t 60) (.c (.int .u64 2))), q 62 (.bin .eql (.t 61) (.c (.int .u64 1)))])
 (.cond (.t 62) (.ops [q 63 (.mv (.t 8)), q 64 (.un .neg (.t 63)), q 65 (.bin .sub (.t 64) (.c (i64 1))), q 8 (.mv (.t 65))]) .skip))
 (.seq (.ops [q 66 (.mv (.t 8)), q 67 (.mv (.t 1)), q 68 (.mv (.t 6)), q 69 (.bin .add (.t 67) (.t 68)), q 70 (.bin .add (.t 69) (.c (i64 1))), q 71 (.build [(i64 0), (i64 0), (i64 0)] [(0, 1, (.t 66)), (1, 1, (.t 70))]), ⟨none, none, .st 3 (.t 4) (.t 71)⟩])
 .ret)))) .skip)))))))
 (.ops [q 18 (.mv (.t 6)), q 19 (.bin .add (.t 18) (.c (i64 1))), q 6 (.mv (.t 19))]))))))
 (.seq (.ops [q 72 (.build [(i64 0), (i64 0), (i64 0)] [(2, 1, (.c (i64 3)))]), ⟨none, none, .st 3 (.t 4) (.t 72)⟩])
 .ret))))))
theorem w_spec_GetNum {args : List Value} {h : H} {Q : Value → H → Prop} (hl : args.length ≤ 73) (hk : wpc Tryz.prog b_spec_GetNum (retw [.cell 4 true 3] Q) (argsFr args) h) : AC Tryz.prog 114 args h Q :=
  AC.of_wpc mixedOrders Tryz.func114 (by kernel_rfl) (by kernel_rfl : prepF Tryz.prog Tryz.f114 = some ⟨73, [.cell 4 true 3], b_spec_GetNum⟩) hl hk

theorem specGetNum_pc (h : H) (t : List UInt8) (a : Nat) (ht : t.length ≤ 8000) (ha : a ≤ 1099511627776) : PC Tryz.prog 114 [str t, i64 a] h (.agg #[i64 (getN t a).1, i64 (getN t a).2.1, i64 (getN t a).2.2]) := by
  refine PC_of ?_
  refine w_spec_GetNum (by simp) ?_
  unfold b_spec_GetNum
  simp -implicitDefEqProofs only [go_sem]
  intro b4 hb_b4 n_b4
  simp -implicitDefEqProofs only [go_sem, show ¬ ((8000 : Int) < (t.length : Int)) by omega, show ¬ ((a : Int) < 0) by omega, hb_b4]
  refine loopW_of (fun m f h' => ∃ k u, m + k = 10 ∧ k ≤ 9 ∧ u < 2 ^ (7 * k) ∧ decN 0 0 (t.drop a) = decN k u (t.drop (a + k)) ∧ h' = h.set b4 ⟨[i64 0, i64 0, i64 0], 3⟩ ∧ f 0 = str t ∧ f 1 = i64 a ∧ f 4 = ptr b4 0 ∧ f 5 = .int .u64 (u : Int) ∧ f 6 = i64 k) 10
    ⟨0, 0, rfl, by omega, by decide, rfl, rfl, by simp -implicitDefEqProofs only [go_sem, hb_b4], by simp -implicitDefEqProofs only [go_sem, hb_b4], by simp -implicitDefEqProofs only [go_sem, hb_b4], by simp -implicitDefEqProofs only [go_sem, hb_b4]; rfl, by simp -implicitDefEqProofs only [go_sem, hb_b4]; rfl⟩ ?_
  rintro m f h' ⟨k, u, hm, hk, hu, hd, rfl, f0, f1, f4, f5, f6⟩
  have hp := pow7 hk
  have ck : ((k : Nat) : Int) < 10 := by omega
  skip
  by_cases hlt : a + k < t.length
  · have hst := decN_step (u := u) hlt
    rw [← hd] at hst
    obtain ⟨b, hb⟩ : ∃ b, b = t[a + k] := ⟨_, rfl⟩
    rw [← hb] at hst
    have e1 : t[((a : Int) + (k : Int)).toNat]? = some b := by rw [show ((a : Int) + (k : Int)).toNat = a + k by omega, hb]; exact List.getElem?_eq_getElem hlt
    have hbl := b.toNat_lt
    have e7 : IntKind.i64.wrap (7 * (k : Int)) = ((7 * k : Nat) : Int) := by rw [wrap_i64 (by omega) (by omega)]; norm_cast
    have e7u := wrap_u64 (n := ((7 * k : Nat) : Int)) (by omega) (by omega)
    have ec := wrap_u64 (n := (b.toNat : Int)) (by omega) (by omega)
    have tm : (b.toNat : Int).tmod 128 = ((b.toNat % 128 : Nat) : Int) := by rw [Int.tmod_eq_emod_of_nonneg (by omega)]; norm_cast
    have c1 : ¬ ((t.length : Int) - (k : Int) ≤ (a : Int)) := by omega
    have c2 : (0 : Int) ≤ (a : Int) + (k : Int) := by omega
    skip
    by_cases hA : k = 9 ∧ 1 < b.toNat
    · rw [if_pos hA] at hst
      have hg := getN_of hst
      have d9 : decide ((k : Int) = 9) = true := decide_eq_true (by omega)
      have d1 : decide ((1 : Int) < (b.toNat : Int)) = true := decide_eq_true (by omega)
      simp -implicitDefEqProofs only [go_sem, d9, d1, hb_b4, f0, f1, f4, f5, f6, ck, wrap_i64 (show -(9223372036854775808 : Int) ≤ ((t.length : Int) - (k : Int)) by omega) (show ((t.length : Int) - (k : Int)) < 9223372036854775808 by omega), wrap_i64 (show -(9223372036854775808 : Int) ≤ ((a : Int) + (k : Int)) by omega) (show ((a : Int) + (k : Int)) < 9223372036854775808 by omega), c1, c2, e1, e7, e7u, ec, tm]
      rw [hg]; exact ⟨((Ext.refl _).set' n_b4 _), rfl⟩
    rw [if_neg hA] at hst
    have hlt64 := dec_lt hk hu hA
    have f9 : decide ((k : Int) = 9) = false ∨ decide ((k : Int) = 9) = true ∧ decide ((1 : Int) < (b.toNat : Int)) = false := by
      by_cases e : k = 9
      · exact .inr ⟨decide_eq_true (by omega), decide_eq_false (by omega)⟩
      · exact .inl (decide_eq_false (by omega))
    have shl := shl_u64 (x := b.toNat % 128) (s := 7 * k) (k := .u64) (by omega) (by omega)
    have hlt7 := dec_lt7 (x := b.toNat) hu
    obtain ⟨y, hy⟩ : ∃ y, y = b.toNat % 128 * 2 ^ (7 * k) := ⟨_, rfl⟩
    obtain ⟨v, hv⟩ : ∃ v, v = u + b.toNat % 128 * 2 ^ (7 * k) := ⟨_, rfl⟩
    rw [← hv] at hlt64 hlt7
    rw [← hy] at shl hv
    have add : IntKind.u64.wrap ((u : Int) + (y : Int)) = (v : Int) := by rw [wrap_u64 (by omega) (by omega)]; omega
    have quo : IntKind.u64.wrap ((v : Int).tdiv 2) = ((v / 2 : Nat) : Int) := by
      rw [Int.tdiv_eq_ediv_of_nonneg (by omega), wrap_u64 (by omega) (by omega)]; omega
    have rem : (v : Int).tmod 2 = ((v % 2 : Nat) : Int) := by rw [Int.tmod_eq_emod_of_nonneg (by omega)]; norm_cast
    have ev := wrap_i64 (n := ((v / 2 : Nat) : Int)) (by omega) (by omega)
    have eneg := wrap_i64 (n := 0 - ((v / 2 : Nat) : Int)) (by omega) (by omega)
    have esub := wrap_i64 (n := 0 - ((v / 2 : Nat) : Int) - 1) (by omega) (by omega)
    by_cases h128 : b.toNat < 128
    · have hm128 : b.toNat % 128 = b.toNat := by omega
      rw [if_pos h128] at hst
      have c3 : (b.toNat : Int) < 128 := by omega
      by_cases h0 : b.toNat = 0 ∧ 0 < k
      · rw [if_pos h0] at hst
        have hg := getN_of hst
        have d0 : decide ((b.toNat : Int) = 0) = true := decide_eq_true (by omega)
        have c4 : (0 : Int) < (k : Int) := by omega
        rcases f9 with q9 | ⟨q9, q1⟩
        · simp -implicitDefEqProofs only [go_sem, q9, shl, add, c3, d0, c4, hb_b4, f0, f1, f4, f5, f6, ck, wrap_i64 (show -(9223372036854775808 : Int) ≤ ((t.length : Int) - (k : Int)) by omega) (show ((t.length : Int) - (k : Int)) < 9223372036854775808 by omega), wrap_i64 (show -(9223372036854775808 : Int) ≤ ((a : Int) + (k : Int)) by omega) (show ((a : Int) + (k : Int)) < 9223372036854775808 by omega), c1, c2, e1, e7, e7u, ec, tm]
          rw [hg]; exact ⟨((Ext.refl _).set' n_b4 _), rfl⟩
        · simp -implicitDefEqProofs only [go_sem, q9, q1, shl, add, c3, d0, c4, hb_b4, f0, f1, f4, f5, f6, ck, wrap_i64 (show -(9223372036854775808 : Int) ≤ ((t.length : Int) - (k : Int)) by omega) (show ((t.length : Int) - (k : Int)) < 9223372036854775808 by omega), wrap_i64 (show -(9223372036854775808 : Int) ≤ ((a : Int) + (k : Int)) by omega) (show ((a : Int) + (k : Int)) < 9223372036854775808 by omega), c1, c2, e1, e7, e7u, ec, tm]
          rw [hg]; exact ⟨((Ext.refl _).set' n_b4 _), rfl⟩
      · rw [if_neg h0, ← hm128, ← hy, ← hv] at hst
        have hg := getN_of hst
        rw [if_pos rfl] at hg
        have d0 : decide ((b.toNat : Int) = 0) = false ∨ decide ((b.toNat : Int) = 0) = true ∧ decide ((0 : Int) < (k : Int)) = false := by
          by_cases e : b.toNat = 0
          · exact .inr ⟨decide_eq_true (by omega), decide_eq_false (by omega)⟩
          · exact .inl (decide_eq_false (by omega))
        have e8 : IntKind.i64.wrap ((a : Int) + (k : Int) + 1) = ((a + (k + 1) : Nat) : Int) := by rw [wrap_i64 (by omega) (by omega)]; omega
        have od : decide (((v % 2 : Nat) : Int) = 1) = true ∧ zag v = 0 - ((v / 2 : Nat) : Int) - 1 ∨ decide (((v % 2 : Nat) : Int) = 1) = false ∧ zag v = ((v / 2 : Nat) : Int) := by
          by_cases e : v % 2 = 1
          · exact .inl ⟨decide_eq_true (by omega), by unfold zag; rw [if_pos e]; omega⟩
          · exact .inr ⟨decide_eq_false (by omega), by unfold zag; rw [if_neg e]⟩
        skip
        rcases f9 with q9 | ⟨q9, q1⟩ <;> rcases d0 with q0 | ⟨q0, q2⟩ <;> rcases od with ⟨o1, o2⟩ | ⟨o1, o2⟩
        all_goals first | (simp -implicitDefEqProofs only [go_sem, q9, q1, q0, q2, o1, hb_b4, f0, f1, f4, f5, f6, ck, wrap_i64 (show -(9223372036854775808 : Int) ≤ ((t.length : Int) - (k : Int)) by omega) (show ((t.length : Int) - (k : Int)) < 9223372036854775808 by omega), wrap_i64 (show -(9223372036854775808 : Int) ≤ ((a : Int) + (k : Int)) by omega) (show ((a : Int) + (k : Int)) < 9223372036854775808 by omega), c1, c2, e1, e7, e7u, ec, tm, shl, add, c3, quo, rem, ev, eneg, esub, e8]) | (simp -implicitDefEqProofs only [go_sem, q9, q1, q0, o1, hb_b4, f0, f1, f4, f5, f6, ck, wrap_i64 (show -(9223372036854775808 : Int) ≤ ((t.length : Int) - (k : Int)) by omega) (show ((t.length : Int) - (k : Int)) < 9223372036854775808 by omega), wrap_i64 (show -(9223372036854775808 : Int) ≤ ((a : Int) + (k : Int)) by omega) (show ((a : Int) + (k : Int)) < 9223372036854775808 by omega), c1, c2, e1, e7, e7u, ec, tm, shl, add, c3, quo, rem, ev, eneg, esub, e8]) | (simp -implicitDefEqProofs only [go_sem, q9, q0, q2, o1, hb_b4, f0, f1, f4, f5, f6, ck, wrap_i64 (show -(9223372036854775808 : Int) ≤ ((t.length : Int) - (k : Int)) by omega) (show ((t.length : Int) - (k : Int)) < 9223372036854775808 by omega), wrap_i64 (show -(9223372036854775808 : Int) ≤ ((a : Int) + (k : Int)) by omega) (show ((a : Int) + (k : Int)) < 9223372036854775808 by omega), c1, c2, e1, e7, e7u, ec, tm, shl, add, c3, quo, rem, ev, eneg, esub, e8]) | (simp -implicitDefEqProofs only [go_sem, q9, q0, o1, hb_b4, f0, f1, f4, f5, f6, ck, wrap_i64 (show -(9223372036854775808 : Int) ≤ ((t.length : Int) - (k : Int)) by omega) (show ((t.length : Int) - (k : Int)) < 9223372036854775808 by omega), wrap_i64 (show -(9223372036854775808 : Int) ≤ ((a : Int) + (k : Int)) by omega) (show ((a : Int) + (k : Int)) < 9223372036854775808 by omega), c1, c2, e1, e7, e7u, ec, tm, shl, add, c3, quo, rem, ev, eneg, esub, e8])
        all_goals (rw [hg, o2]; exact ⟨((Ext.refl _).set' n_b4 _), rfl⟩)
    · skip
      rw [if_neg h128, ← hy, ← hv] at hst
      have c3 : ¬ ((b.toNat : Int) < 128) := by omega
      have hk9 : k ≠ 9 := fun e => hA ⟨e, by omega⟩
      have q9 : decide ((k : Int) = 9) = false := decide_eq_false (by omega)
      simp -implicitDefEqProofs only [go_sem, q9, shl, add, c3, wrap_i64 (show -(9223372036854775808 : Int) ≤ ((k : Int) + 1) by omega) (show ((k : Int) + 1) < 9223372036854775808 by omega), hb_b4, f0, f1, f4, f5, f6, ck, wrap_i64 (show -(9223372036854775808 : Int) ≤ ((t.length : Int) - (k : Int)) by omega) (show ((t.length : Int) - (k : Int)) < 9223372036854775808 by omega), wrap_i64 (show -(9223372036854775808 : Int) ≤ ((a : Int) + (k : Int)) by omega) (show ((a : Int) + (k : Int)) < 9223372036854775808 by omega), c1, c2, e1, e7, e7u, ec, tm]
      exact ⟨m - 1, by omega, _, Ext.refl _, k + 1, v, by omega, by omega, hlt7, hst, rfl, rfl, rfl⟩
  · skip
    have he := decN_end (u := u) hlt
    rw [← hd] at he
    have hg := getN_of he
    simp -implicitDefEqProofs only [go_sem, show (t.length : Int) - (k : Int) ≤ (a : Int) by omega, hb_b4, f0, f1, f4, f5, f6, ck, wrap_i64 (show -(9223372036854775808 : Int) ≤ ((t.length : Int) - (k : Int)) by omega) (show ((t.length : Int) - (k : Int)) < 9223372036854775808 by omega), wrap_i64 (show -(9223372036854775808 : Int) ≤ ((a : Int) + (k : Int)) by omega) (show ((a : Int) + (k : Int)) < 9223372036854775808 by omega)]
    rw [hg]; exact ⟨((Ext.refl _).set' n_b4 _), rfl⟩
end Go.Proofs.YthjbhdmjfakfaaaGreatDoor
