/- A helper of this seat's claims (plain laws): what it shows is shown for every input that its statements name, on no other condition. -/
import Derived.Test.YtdofcojbjcpikaaKD
set_option linter.unusedVariables false
set_option linter.unusedSimpArgs false
namespace Go.KH

/-! ## What is written is read -/
theorem decN_put : ∀ (d v i u : Nat) (r : List UInt8), v < d → i ≤ 9 → (i = 0 ∨ v ≠ 0) → v * 2 ^ (7 * i) < 18446744073709551616 → decN i u (leb v ++ r) = (0, u + v * 2 ^ (7 * i), i + (leb v).length)
  | 0, v, i, u, r, hd, _, _, _ => by omega
  | d + 1, v, i, u, r, hd, hi, h0, hv => by
    by_cases h : v < 128
    · rw [leb_lt h]
      have hb : (UInt8.ofNat v).toNat = v := by simp; omega
      simp only [List.cons_append, List.nil_append, decN, hb]
      rw [if_neg, if_pos h, if_neg]
      · simp
      · rintro ⟨e1, e2⟩; omega
      · rintro ⟨e1, e2⟩
        subst e1
        have h63 : (2 : Nat) ^ (7 * 9) = 9223372036854775808 := by decide
        rw [h63] at hv
        omega
    · rw [leb_ge h]
      have hb : (UInt8.ofNat (v % 128 + 128)).toNat = v % 128 + 128 := by simp; omega
      have hi8 : i ≤ 8 := by
        rcases Nat.lt_or_ge 8 i with h9 | h9
        · have : i = 9 := by omega
          subst this
          have h63 : (2 : Nat) ^ (7 * 9) = 9223372036854775808 := by decide
          rw [h63] at hv
          omega
        · exact h9
      have hp : (2 : Nat) ^ (7 * (i + 1)) = 128 * 2 ^ (7 * i) := by rw [show 7 * (i + 1) = 7 * i + 7 by omega, Nat.pow_add]; omega
      simp only [List.cons_append, decN, hb]
      rw [if_neg (by rintro ⟨e1, _⟩; omega), if_neg (by omega)]
      have hmul : v / 128 * 2 ^ (7 * (i + 1)) ≤ v * 2 ^ (7 * i) := by
        rw [hp, ← Nat.mul_assoc]
        exact Nat.mul_le_mul_right _ (by omega)
      rw [decN_put d (v / 128) (i + 1) _ r (by omega) (by omega) (by omega) (by omega)]
      simp only [Prod.mk.injEq, true_and]
      constructor
      · rw [hp, show (v % 128 + 128) % 128 = v % 128 by omega, Nat.add_assoc, ← Nat.mul_assoc, ← Nat.add_mul]
        congr 2
        omega
      · simp only [List.length_cons]; omega
theorem zag_zig {n : Int} : zag (zig n) = n := by unfold zag zig; split <;> split <;> omega
theorem getN_put {t r : List UInt8} {a : Nat} {n : Int} (h : t.drop a = putNum n ++ r) (hn : -9223372036854775808 ≤ n ∧ n ≤ 9223372036854775807) : getN t a = (n, a + (putNum n).length, 0) := by
  have hd := decN_put (zig n + 1) (zig n) 0 0 r (by omega) (by omega) (.inl rfl) (by have := zig_lt hn; simpa using this)
  unfold getN
  rw [h]
  unfold putNum
  rw [hd]
  simp only [Nat.mul_zero, Nat.pow_zero, Nat.mul_one, Nat.zero_add]
  rw [zag_zig]
theorem drop_put {t p r : List UInt8} {a : Nat} (h : t.drop a = p ++ r) : t.drop (a + p.length) = r := by
  rw [← List.drop_drop, h, List.drop_left]
theorem getT_put {t x r : List UInt8} {a : Nat} (h : t.drop a = putText x ++ r) (hx : x.length ≤ 8000) (ha : a ≤ t.length) : getT t a = (x, a + (putText x).length, 0) := by
  have h1 : t.drop a = putNum x.length ++ (x ++ r) := by rw [h]; unfold putText; simp
  have hg := getN_put h1 ⟨by omega, by omega⟩
  have h2 := drop_put h1
  have hl := congrArg List.length h1
  simp only [List.length_append, List.length_drop] at hl
  unfold getT
  rw [hg]
  simp only
  rw [if_neg (by simp), if_neg (by omega), if_neg (by omega)]
  simp only [Prod.mk.injEq, and_true]
  constructor
  · rw [List.drop_take, Nat.add_sub_cancel_left, h2]
    simp
  · unfold putText; simp only [List.length_append]; omega
end Go.KH
