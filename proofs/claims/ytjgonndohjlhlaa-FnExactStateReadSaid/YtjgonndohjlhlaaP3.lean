/- A helper of this seat's claims (plain laws): what it shows is shown for every input that its statements name, on no other condition. -/
import Derived.Test.YtjgonndohjlhlaaP1
set_option linter.unusedVariables false
namespace Go.KH

/-! ## Bytes: the numbers read again -/
/-- A number read: the code, the number unfolded, and how many bytes it has. -/
def decN : Nat → Nat → List UInt8 → Nat × Nat × Nat
  | _, _, [] => (4, 0, 0)
  | i, u, b :: l => if i = 9 ∧ 1 < b.toNat then (3, 0, 0) else if b.toNat < 128 then (if b.toNat = 0 ∧ 0 < i then (3, 0, 0) else (0, u + b.toNat * 2 ^ (7 * i), i + 1)) else decN (i + 1) (u + b.toNat % 128 * 2 ^ (7 * i)) l
def zag (u : Nat) : Int := if u % 2 = 1 then -((u / 2 : Nat) : Int) - 1 else ((u / 2 : Nat) : Int)
theorem zig_zag (u : Nat) : zig (zag u) = u := by
  unfold zig zag
  split <;> split <;> omega
theorem zag_in {u : Nat} (h : u < 18446744073709551616) : -9223372036854775808 ≤ zag u ∧ zag u ≤ 9223372036854775807 := by unfold zag; split <;> omega
theorem u8_of (b : UInt8) : UInt8.ofNat b.toNat = b := by simp
/-- What is read is what is written. -/
theorem decN_leb : ∀ (l : List UInt8) (i u u' k : Nat), i ≤ 9 → u < 2 ^ (7 * i) → decN i u l = (0, u', k) →
    ∃ v, u' = u + v * 2 ^ (7 * i) ∧ i + (leb v).length = k ∧ leb v <+: l ∧ (0 < i → v ≠ 0) ∧ u' < 18446744073709551616
  | [], i, u, u', k, _, _, h => by simp [decN] at h
  | b :: l, i, u, u', k, hi, hu, h => by
    have hb := b.toNat_lt
    simp only [decN] at h
    split at h
    · simp at h
    · rename_i h9
      split at h
      · rename_i h128
        split at h
        · simp at h
        · rename_i h0
          simp only [Prod.mk.injEq, true_and] at h
          obtain ⟨rfl, rfl⟩ := h
          refine ⟨b.toNat, rfl, ?_, ?_, fun h => by omega, ?_⟩
          · rw [leb_lt h128]; rfl
          · rw [leb_lt h128, u8_of]; exact ⟨l, rfl⟩
          · by_cases e : i = 9
            · subst e
              have : b.toNat ≤ 1 := by omega
              have h1 : b.toNat * 2 ^ (7 * 9) ≤ 1 * 2 ^ (7 * 9) := Nat.mul_le_mul_right _ this
              have h2 : (2 : Nat) ^ (7 * 9) = 9223372036854775808 := by decide
              omega
            · have h1 : b.toNat * 2 ^ (7 * i) ≤ 127 * 2 ^ (7 * i) := Nat.mul_le_mul_right _ (by omega)
              have h2 : (2 : Nat) ^ (7 * i) ≤ 2 ^ (7 * 8) := Nat.pow_le_pow_right (by decide) (by omega)
              have h3 : (2 : Nat) ^ (7 * 8) = 72057594037927936 := by decide
              omega
      · rename_i h128
        have hi8 : i ≠ 9 := fun e => h9 ⟨e, by omega⟩
        have hp : (2 : Nat) ^ (7 * (i + 1)) = 128 * 2 ^ (7 * i) := by rw [show 7 * (i + 1) = 7 * i + 7 by omega, Nat.pow_add]; omega
        have hlt : u + b.toNat % 128 * 2 ^ (7 * i) < 2 ^ (7 * (i + 1)) := by
          rw [hp]
          have h1 : b.toNat % 128 * 2 ^ (7 * i) ≤ 127 * 2 ^ (7 * i) := Nat.mul_le_mul_right _ (by omega)
          omega
        obtain ⟨v, hv, hk, hp2, h0, hlt2⟩ := decN_leb l (i + 1) _ u' k (by omega) hlt h
        have hv0 := h0 (by omega)
        have hge : ¬ b.toNat % 128 + 128 * v < 128 := by omega
        refine ⟨b.toNat % 128 + 128 * v, ?_, ?_, ?_, fun _ => by omega, hlt2⟩
        · rw [hv, hp, Nat.add_mul, Nat.add_assoc]
          congr 2
          rw [Nat.mul_comm 128 v, Nat.mul_assoc]
        · rw [leb_ge hge, show (b.toNat % 128 + 128 * v) / 128 = v by omega]; simp only [List.length_cons]; omega
        · rw [leb_ge hge, show (b.toNat % 128 + 128 * v) / 128 = v by omega, show (b.toNat % 128 + 128 * v) % 128 + 128 = b.toNat by omega, u8_of]
          obtain ⟨t, ht⟩ := hp2
          exact ⟨t, by rw [← ht]; rfl⟩
theorem decN_code : ∀ (l : List UInt8) (i u : Nat), (decN i u l).1 = 0 ∨ (decN i u l).1 = 3 ∨ (decN i u l).1 = 4
  | [], i, u => by simp [decN]
  | b :: l, i, u => by
    simp only [decN]
    split
    · simp
    · split
      · split <;> simp
      · exact decN_code l _ _
/-- A number out of a text at a place: number, end, code. -/
def getN (t : List UInt8) (at_ : Nat) : Int × Nat × Nat := match decN 0 0 (t.drop at_) with | (0, u, k) => (zag u, at_ + k, 0) | (c, _, _) => (0, 0, c)
theorem getN_ok {t : List UInt8} {a e : Nat} {n : Int} (h : getN t a = (n, e, 0)) : t.drop a = putNum n ++ t.drop e ∧ a < e ∧ e ≤ t.length ∧ (-9223372036854775808 ≤ n ∧ n ≤ 9223372036854775807) := by
  unfold getN at h
  split at h
  · rename_i u k hd
    simp only [Prod.mk.injEq, and_true] at h
    obtain ⟨rfl, rfl⟩ := h
    obtain ⟨v, hv, hk, ⟨r, hr⟩, _, hlt⟩ := decN_leb _ 0 0 u k (by omega) (by decide) hd
    simp only [Nat.mul_zero, Nat.pow_zero, Nat.mul_one, Nat.zero_add] at hv hk
    rw [← hv] at hk hr
    subst hk
    have hl := congrArg List.length hr
    simp only [List.length_append, List.length_drop] at hl
    have hpos : 0 < (leb u).length := by
      by_cases h1 : u < 128
      · rw [leb_lt h1]; simp
      · rw [leb_ge h1]; simp
    unfold putNum
    rw [zig_zag]
    refine ⟨?_, by omega, by omega, zag_in hlt⟩
    rw [← List.drop_drop, ← hr]; simp
  · rename_i hne hd
    simp only [Prod.mk.injEq] at h
    exact (hne h.2.2).elim
theorem getN_code (t : List UInt8) (a : Nat) : (getN t a).2.2 = 0 ∨ (getN t a).2.2 = 3 ∨ (getN t a).2.2 = 4 := by
  have := decN_code (t.drop a) 0 0
  unfold getN
  split
  · simp
  · rename_i hd; rw [hd] at this; exact this
theorem getN_bad {t : List UInt8} {a : Nat} (h : (getN t a).2.2 ≠ 0) : getN t a = (0, 0, (getN t a).2.2) := by
  unfold getN at h ⊢
  split at h
  · simp at h
  · rfl
/-- A text behind its length: text, end, code. -/
def getT (t : List UInt8) (a : Nat) : List UInt8 × Nat × Nat :=
  if (getN t a).2.2 ≠ 0 then ([], 0, (getN t a).2.2) else if ¬ (0 ≤ (getN t a).1 ∧ (getN t a).1 ≤ 8000) then ([], 0, 3) else if t.length < (getN t a).2.1 + (getN t a).1.toNat then ([], 0, 4)
  else ((t.take ((getN t a).2.1 + (getN t a).1.toNat)).drop (getN t a).2.1, (getN t a).2.1 + (getN t a).1.toNat, 0)
theorem getT_ok {t x : List UInt8} {a e : Nat} (h : getT t a = (x, e, 0)) : t.drop a = putText x ++ t.drop e ∧ a < e ∧ e ≤ t.length ∧ x.length ≤ 8000 := by
  unfold getT at h
  split at h
  · rename_i hc; simp only [Prod.mk.injEq] at h; exact absurd h.2.2 hc
  · rename_i hc
    split at h
    · simp at h
    · rename_i hn
      split at h
      · simp at h
      · rename_i hl
        simp only [Prod.mk.injEq, and_true] at h
        obtain ⟨h1, h2⟩ := h
        have hc' : (getN t a).2.2 = 0 := by omega
        have hok := getN_ok (t := t) (a := a) (n := (getN t a).1) (e := (getN t a).2.1) (by rw [← hc'])
        obtain ⟨k1, k2, k3, k4⟩ := hok
        generalize (getN t a).1 = n at *
        generalize (getN t a).2.1 = s at *
        have hxl : x.length = n.toNat := by rw [← h1]; simp; omega
        refine ⟨?_, by omega, by omega, by omega⟩
        rw [k1]
        unfold putText
        rw [List.append_assoc]
        have e1 : ((x.length : Nat) : Int) = n := by omega
        rw [e1, ← h2, ← h1]
        congr 1
        rw [List.drop_take, Nat.add_sub_cancel_left, ← List.drop_drop, List.take_append_drop]
theorem getT_code (t : List UInt8) (a : Nat) : (getT t a).2.2 = 0 ∨ (getT t a).2.2 = 3 ∨ (getT t a).2.2 = 4 := by
  have := getN_code t a
  unfold getT
  split
  · simpa using this
  · split
    · simp
    · split <;> simp
theorem getT_bad {t : List UInt8} {a : Nat} (h : (getT t a).2.2 ≠ 0) : getT t a = ([], 0, (getT t a).2.2) := by
  unfold getT at h ⊢
  split
  · rfl
  · split
    · rfl
    · split
      · rfl
      · rename_i h1 h2 h3; simp [h1, h2, h3] at h
end Go.KH
