/- A helper of this seat's claims (plain laws): what it shows is shown for every input that its statements name, on no other condition. -/
import Derived.Test.YtpponffjeilhmaaK21
set_option linter.unusedVariables false
namespace Go.KH
/-! ## Numbers as sets of bits -/
def bitsN (l : List Int) : Nat := l.foldl (fun a n => a ||| 1 <<< n.toNat) 0
theorem bits_fold (l : List Int) : ∀ (a i : Nat), (l.foldl (fun a n => a ||| 1 <<< n.toNat) a).testBit i = (a.testBit i || l.any fun n => n.toNat == i) := by
  induction l with
  | nil => intro a i; simp
  | cons n l ih =>
    intro a i
    rw [List.foldl_cons, ih, Nat.testBit_or, List.any_cons, Bool.or_assoc]
    congr 1
    congr 1
    rw [Nat.shiftLeft_eq, Nat.one_mul, Nat.testBit_two_pow]
    by_cases h : n.toNat = i <;> simp [h]
theorem bitsN_test {l : List Int} (h : ∀ x ∈ l, 0 ≤ x) (i : Nat) : (bitsN l).testBit i = decide ((i : Int) ∈ l) := by
  unfold bitsN
  rw [bits_fold]
  simp only [Nat.zero_testBit, Bool.false_or]
  rw [Bool.eq_iff_iff]
  simp only [List.any_eq_true, beq_iff_eq, decide_eq_true_eq]
  constructor
  · rintro ⟨x, hx, e⟩
    have := h x hx
    rw [show (i : Int) = x by omega]; exact hx
  · intro hm; exact ⟨i, hm, by simp⟩
theorem bitsN_lt {l : List Int} {k : Nat} (h : ∀ x ∈ l, 0 ≤ x ∧ x < k) : bitsN l < 2 ^ k := by
  apply Nat.lt_pow_two_of_testBit
  intro i hi
  rw [bitsN_test (fun x hx => (h x hx).1)]
  simp only [decide_eq_false_iff_not]
  intro hm
  have := (h i hm).2
  omega
theorem bitsN_take (l : List Int) (k : Nat) (hk : k < l.length) : bitsN (l.take (k + 1)) = bitsN (l.take k) ||| 1 <<< l[k].toNat := by
  unfold bitsN; rw [List.take_succ_eq_append_getElem hk, List.foldl_append]; rfl
theorem bits_disjoint {a b : List Int} (ha : ∀ x ∈ a, 0 ≤ x) (hb : ∀ x ∈ b, 0 ≤ x) : bitsN a &&& bitsN b = 0 ↔ ∀ x ∈ b, x ∉ a := by
  constructor
  · intro h x hx hxa
    have h1 : (bitsN a &&& bitsN b).testBit x.toNat = true := by
      rw [Nat.testBit_and, bitsN_test ha, bitsN_test hb]
      have e : ((x.toNat : Nat) : Int) = x := by have := hb x hx; omega
      rw [e]; simp [hx, hxa]
    rw [h] at h1; simp at h1
  · intro h
    apply Nat.eq_of_testBit_eq
    intro i
    rw [Nat.testBit_and, bitsN_test ha, bitsN_test hb, Nat.zero_testBit]
    by_cases h1 : (i : Int) ∈ b
    · simp [h i h1]
    · simp [h1]
theorem or_eq_add {a n : Nat} (h : a < 2 ^ n) : a ||| 1 <<< n = a + 2 ^ n := by
  rw [Nat.shiftLeft_eq, Nat.one_mul, Nat.or_comm]
  have := Nat.two_pow_add_eq_or_of_lt h 1
  rw [Nat.mul_one] at this
  rw [← this]; omega
end Go.KH
namespace Go.KH
open Go.RowKit
theorem ofInt_i64n (n : Nat) : BitVec.ofInt IntKind.i64.bits (n : Int) = BitVec.ofNat 64 n := BitVec.ofInt_natCast ..
theorem or_i64 {a b : Nat} (ha : a < 9223372036854775808) (hb : b < 9223372036854775808) : obin .or (i64 (a : Int)) (i64 (b : Int)) = some (i64 ((a ||| b : Nat) : Int)) := by
  rw [bi_or, ofInt_i64n, ofInt_i64n]
  show some (Value.int .i64 (IntKind.i64.wrap ((BitVec.ofNat 64 a ||| BitVec.ofNat 64 b).toNat : Int))) = _
  have h : a ||| b < 2 ^ 63 := Nat.or_lt_two_pow ha hb
  rw [BitVec.toNat_or, BitVec.toNat_ofNat, BitVec.toNat_ofNat, Nat.mod_eq_of_lt (by omega), Nat.mod_eq_of_lt (by omega), wrap_i64 (by omega) (by omega)]
theorem and_i64 {a b : Nat} (ha : a < 9223372036854775808) (hb : b < 9223372036854775808) : obin .and (i64 (a : Int)) (i64 (b : Int)) = some (i64 ((a &&& b : Nat) : Int)) := by
  rw [bi_and, ofInt_i64n, ofInt_i64n]
  show some (Value.int .i64 (IntKind.i64.wrap ((BitVec.ofNat 64 a &&& BitVec.ofNat 64 b).toNat : Int))) = _
  have h : a &&& b ≤ a := Nat.and_le_left
  rw [BitVec.toNat_and, BitVec.toNat_ofNat, BitVec.toNat_ofNat, Nat.mod_eq_of_lt (by omega), Nat.mod_eq_of_lt (by omega), wrap_i64 (by omega) (by omega)]
theorem shl1_i64 {n : Int} (h0 : 0 ≤ n) (h1 : n ≤ 62) : obin .shl (i64 1) (i64 n) = some (i64 ((1 <<< n.toNat : Nat) : Int)) := by
  rw [bi_shl, if_neg (by omega)]
  have e : min n.toNat IntKind.i64.bits = n.toNat := by simp [IntKind.bits]; omega
  rw [e, Nat.shiftLeft_eq, Nat.one_mul, Int.one_mul]
  have : 2 ^ n.toNat ≤ 2 ^ 62 := Nat.pow_le_pow_right (by omega) (by omega)
  obtain ⟨y, hy⟩ : ∃ y : Nat, y = 2 ^ n.toNat := ⟨_, rfl⟩
  rw [show ((2 : Int) ^ n.toNat) = ((2 ^ n.toNat : Nat) : Int) by norm_cast, ← hy, wrap_i64 (by omega) (by omega)]
end Go.KH
