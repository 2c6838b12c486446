/- A helper of this seat's claims (plain laws): what it shows is shown for every input that its statements name, on no other condition. -/
import Derived.Test.YtjgonndohjlhlaaP2
set_option linter.unusedVariables false
namespace Go.KH

/-! ## Lists out of bits -/
def bitsTo (n k : Nat) : List Int := ((List.range k).filter fun i => n.testBit i).map fun i : Nat => (i : Int)
def fromBits (n : Nat) : List Int := bitsTo n 24
theorem bitsTo_succ (n k : Nat) : bitsTo n (k + 1) = if n.testBit k then bitsTo n k ++ [(k : Int)] else bitsTo n k := by
  unfold bitsTo
  rw [List.range_succ, List.filter_append, List.map_append]
  by_cases h : n.testBit k <;> simp [h]
theorem bitsTo_mem (n k : Nat) (x : Int) : x ∈ bitsTo n k ↔ ∃ i : Nat, x = i ∧ i < k ∧ n.testBit i = true := by
  unfold bitsTo
  simp only [List.mem_map, List.mem_filter, List.mem_range]
  constructor
  · rintro ⟨i, ⟨h1, h2⟩, rfl⟩; exact ⟨i, rfl, h1, h2⟩
  · rintro ⟨i, rfl, h1, h2⟩; exact ⟨i, ⟨h1, h2⟩, rfl⟩
theorem bitsN_from {n : Nat} (hn : n < 16777216) : bitsN (fromBits n) = n := by
  apply Nat.eq_of_testBit_eq
  intro i
  rw [bitsN_test (fun x hx => by obtain ⟨j, rfl, _, _⟩ := (bitsTo_mem _ _ _).1 hx; omega)]
  by_cases hi : i < 24
  · cases hb : n.testBit i with
    | true => exact decide_eq_true ((bitsTo_mem _ _ _).2 ⟨i, rfl, hi, hb⟩)
    | false =>
      refine decide_eq_false fun hm => ?_
      obtain ⟨j, e, _, hj⟩ := (bitsTo_mem _ _ _).1 hm
      have : i = j := by omega
      subst this
      rw [hb] at hj; cases hj
  · have e24 : (2:Nat)^24 = 16777216 := by decide
    have h2 : n < 2 ^ i := Nat.lt_of_lt_of_le (by omega : n < 2^24) (Nat.pow_le_pow_right (by decide) (show 24 ≤ i by omega))
    rw [Nat.testBit_lt_two_pow h2]
    refine decide_eq_false fun hm => ?_
    obtain ⟨j, e, hj, _⟩ := (bitsTo_mem _ _ _).1 hm
    omega
theorem bitsTo_len (n k : Nat) : (bitsTo n k).length ≤ k := by
  unfold bitsTo
  rw [List.length_map]
  exact Nat.le_trans (List.length_filter_le _ _) (by simp)
theorem bitsTo_sorted (n : Nat) : ∀ k, (bitsTo n k).Pairwise (· < ·)
  | 0 => by simp [bitsTo]
  | k + 1 => by
    rw [bitsTo_succ]
    split
    · rw [List.pairwise_append]
      refine ⟨bitsTo_sorted n k, by simp, ?_⟩
      intro a ha b hb
      obtain ⟨i, rfl, hi, _⟩ := (bitsTo_mem _ _ _).1 ha
      simp only [List.mem_singleton] at hb
      subst hb
      omega
    · exact bitsTo_sorted n k
theorem testBit_div (n k : Nat) : n.testBit k = decide (n / 2 ^ k % 2 = 1) := Nat.testBit_eq_decide_div_mod_eq
/-- Bits of i64. -/
theorem shr_i64 {x j : Nat} (hj : j ≤ 62) : obin .shr (i64 (x : Int)) (i64 (j : Int)) = some (i64 ((x / 2 ^ j : Nat) : Int)) := by
  rw [bi_shr, if_neg (by omega)]
  have : min (j : Int).toNat IntKind.i64.bits = j := by simp [IntKind.bits]; omega
  rw [this]
  congr 2
  rw [Int.fdiv_eq_ediv_of_nonneg _ (by exact_mod_cast Nat.zero_le _)]
  norm_cast
theorem and1_i64 {x : Nat} (hx : x < 9223372036854775808) : obin .and (i64 (x : Int)) (i64 1) = some (i64 ((x % 2 : Nat) : Int)) := by
  have := and_i64 (a := x) (b := 1) hx (by decide)
  rw [Nat.and_one_is_mod] at this
  exact this
end Go.KH
