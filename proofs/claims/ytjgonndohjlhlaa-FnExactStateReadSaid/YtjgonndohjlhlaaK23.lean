/- A helper of this seat's claims (the logic of the walks): what it shows is shown for every input that its statements name, on no other condition. -/
import Derived.Test.YtjgonndohjlhlaaP2
import Derived.Test.YtjgonndohjlhlaaP3
set_option linter.unusedVariables false
namespace Go.KH
open Go.RowKit

/-! ## Bits of the decoding -/
theorem and127 (b : UInt8) : obin .and (.int .u8 (b.toNat : Int)) (.int .u8 127) = some (.int .u8 ((b.toNat % 128 : Nat) : Int)) := by
  rw [bi_and]
  have key : ∀ b : BitVec 8, (b &&& 127#8).toNat = b.toNat % 128 := by decide
  have e1 : BitVec.ofInt IntKind.u8.bits (b.toNat : Int) = BitVec.ofNat 8 b.toNat := BitVec.ofInt_natCast ..
  rw [e1]
  show some (Value.int .u8 (IntKind.u8.wrap ((BitVec.ofNat 8 b.toNat &&& 127#8).toNat : Int))) = _
  have hb := b.toNat_lt
  rw [key, BitVec.toNat_ofNat, Nat.mod_eq_of_lt (show b.toNat < 2 ^ 8 by omega), wrap_u8n, Nat.mod_eq_of_lt (by omega)]
theorem ofInt_u64n (n : Nat) : BitVec.ofInt IntKind.u64.bits (n : Int) = BitVec.ofNat 64 n := BitVec.ofInt_natCast ..
theorem and1_u64 {u : Nat} (h : u < 18446744073709551616) : obin .and (.int .u64 (u : Int)) (.int .u64 1) = some (.int .u64 ((u % 2 : Nat) : Int)) := by
  rw [bi_and, ofInt_u64n]
  show some (Value.int .u64 (IntKind.u64.wrap ((BitVec.ofNat 64 u &&& BitVec.ofNat 64 1).toNat : Int))) = _
  rw [BitVec.toNat_and, BitVec.toNat_ofNat, BitVec.toNat_ofNat, Nat.mod_eq_of_lt (by omega), Nat.mod_eq_of_lt (by omega), Nat.and_one_is_mod, wrap_u64 (by omega) (by omega)]
theorem shl_u64 {x s : Nat} {k : IntKind} (hs : s ≤ 63) (h : x * 2 ^ s < 18446744073709551616) : obin .shl (.int .u64 (x : Int)) (.int k (s : Int)) = some (.int .u64 ((x * 2 ^ s : Nat) : Int)) := by
  rw [bi_shl, if_neg (by omega)]
  have e : min (s : Int).toNat IntKind.u64.bits = s := by simp [IntKind.bits]; omega
  rw [e]
  obtain ⟨y, hy⟩ : ∃ y : Nat, y = x * 2 ^ s := ⟨_, rfl⟩
  rw [show ((x : Int) * (2 : Int) ^ s) = ((x * 2 ^ s : Nat) : Int) by norm_cast, ← hy]
  rw [← hy] at h
  rw [wrap_u64 (by omega) (by omega)]
theorem or_u64 {a x s : Nat} (ha : a < 2 ^ s) (h : a + x * 2 ^ s < 18446744073709551616) : obin .or (.int .u64 (a : Int)) (.int .u64 ((x * 2 ^ s : Nat) : Int)) = some (.int .u64 ((a + x * 2 ^ s : Nat) : Int)) := by
  rw [bi_or, ofInt_u64n, ofInt_u64n]
  show some (Value.int .u64 (IntKind.u64.wrap ((BitVec.ofNat 64 a ||| BitVec.ofNat 64 (x * 2 ^ s)).toNat : Int))) = _
  have e := Nat.two_pow_add_eq_or_of_lt ha x
  rw [Nat.mul_comm] at e
  obtain ⟨y, hy⟩ : ∃ y : Nat, y = x * 2 ^ s := ⟨_, rfl⟩
  rw [← hy] at e h ⊢
  rw [BitVec.toNat_or, BitVec.toNat_ofNat, BitVec.toNat_ofNat, Nat.mod_eq_of_lt (by omega), Nat.mod_eq_of_lt (by omega), Nat.or_comm, ← e, wrap_u64 (by omega) (by omega), Nat.add_comm]
theorem not_i64 {n : Nat} (h : n < 9223372036854775808) : oun .xor (i64 (n : Int)) = some (i64 (-(n : Int) - 1)) := by
  rw [un_xor, ofInt_i64n]
  show some (Value.int .i64 (IntKind.i64.wrap ((BitVec.allOnes 64 ^^^ BitVec.ofNat 64 n).toNat : Int))) = _
  rw [BitVec.xor_comm, BitVec.xor_allOnes, BitVec.toNat_not, BitVec.toNat_ofNat, Nat.mod_eq_of_lt (by omega)]
  congr 2
  unfold IntKind.wrap
  simp [IntKind.bits, IntKind.signed]
  omega
theorem shr1_u64 (n : Nat) : obin .shr (.int .u64 (n : Int)) (.int .u64 1) = some (.int .u64 ((n / 2 : Nat) : Int)) := by
  have := shr_nat .u64 n 1 (by decide)
  simpa using this
/-- One byte more. -/
theorem dec_lt {k u x : Nat} (hk : k ≤ 9) (hu : u < 2 ^ (7 * k)) (h : ¬ (k = 9 ∧ 1 < x)) : u + x % 128 * 2 ^ (7 * k) < 18446744073709551616 := by
  by_cases e : k = 9
  · subst e
    have : x % 128 ≤ 1 := by omega
    have h1 : x % 128 * 2 ^ (7 * 9) ≤ 1 * 2 ^ (7 * 9) := Nat.mul_le_mul_right _ this
    have h2 : (2 : Nat) ^ (7 * 9) = 9223372036854775808 := by decide
    omega
  · have h1 : x % 128 * 2 ^ (7 * k) ≤ 127 * 2 ^ (7 * k) := Nat.mul_le_mul_right _ (by omega)
    have h2 : (2 : Nat) ^ (7 * k) ≤ 2 ^ (7 * 8) := Nat.pow_le_pow_right (by decide) (by omega)
    have h3 : (2 : Nat) ^ (7 * 8) = 72057594037927936 := by decide
    omega
theorem dec_lt7 {k u x : Nat} (hu : u < 2 ^ (7 * k)) : u + x % 128 * 2 ^ (7 * k) < 2 ^ (7 * (k + 1)) := by
  rw [show 7 * (k + 1) = 7 * k + 7 by omega, Nat.pow_add]
  have h1 : x % 128 * 2 ^ (7 * k) ≤ 127 * 2 ^ (7 * k) := Nat.mul_le_mul_right _ (by omega)
  omega
theorem pow7 {k : Nat} (h : k ≤ 9) : (2 : Nat) ^ (7 * k) ≤ 9223372036854775808 := Nat.le_trans (Nat.pow_le_pow_right (by decide) (show 7 * k ≤ 63 by omega)) (by decide)
end Go.KH
