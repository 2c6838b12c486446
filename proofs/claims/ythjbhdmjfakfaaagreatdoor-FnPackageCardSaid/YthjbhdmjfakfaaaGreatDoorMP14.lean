/- A helper of this seat's claims (plain laws): what it shows is shown for every input that its statements name, on no other condition. -/
import Derived.Test.YthjbhdmjfakfaaaGreatDoorKD
import Derived.Test.YthjbhdmjfakfaaaGreatDoorC06r
set_option linter.unusedVariables false
namespace Go.KH

/-! ## One byte turned gives another checksum -/
theorem and1 (r : BitVec 32) : (r &&& 1#32 = 1#32) ↔ r.getLsbD 0 = true := by
  constructor
  · intro h
    have := congrArg (fun x => BitVec.getLsbD x 0) h
    simpa using this
  · intro h
    apply BitVec.eq_of_getLsbD_eq
    intro i hi
    rw [BitVec.getLsbD_and]
    by_cases e : i = 0
    · subst e; rw [h]; rfl
    · have : (1#32).getLsbD i = false := by
        rw [show (1#32 : BitVec 32) = BitVec.ofNat 32 1 from rfl, BitVec.getLsbD_ofNat]
        have q : Nat.testBit 1 i = false := by
          cases w : Nat.testBit 1 i with
          | false => rfl
          | true => exact absurd (Nat.testBit_one_eq_true_iff_self_eq_zero.1 w) e
        rw [q, Bool.and_false]
      rw [this, Bool.and_false]
theorem crcBit_top (r : BitVec 32) : (crcBit r).getLsbD 31 = r.getLsbD 0 := by
  unfold crcBit
  by_cases h : r &&& 1#32 = 1#32
  · rw [if_pos h, (and1 r).1 h, BitVec.getLsbD_xor, BitVec.getLsbD_ushiftRight]
    have : poly.getLsbD 31 = true := by decide
    rw [this, BitVec.getLsbD_of_ge r (1 + 31) (by omega)]
    rfl
  · have h0 : r.getLsbD 0 = false := by
      cases q : r.getLsbD 0 with
      | false => rfl
      | true => exact absurd ((and1 r).2 q) h
    rw [if_neg h, h0, BitVec.getLsbD_ushiftRight, BitVec.getLsbD_of_ge r (1 + 31) (by omega)]
theorem crcBit_inj {a b : BitVec 32} (h : crcBit a = crcBit b) : a = b := by
  have h0 : a.getLsbD 0 = b.getLsbD 0 := by rw [← crcBit_top, ← crcBit_top, h]
  have hs : a >>> 1 = b >>> 1 := by
    unfold crcBit at h
    by_cases q : a &&& 1#32 = 1#32
    · have q2 : b &&& 1#32 = 1#32 := (and1 b).2 (by rw [← h0]; exact (and1 a).1 q)
      rw [if_pos q, if_pos q2] at h
      exact BitVec.xor_left_inj _ |>.1 h
    · have q2 : ¬ b &&& 1#32 = 1#32 := fun e => q ((and1 a).2 (by rw [h0]; exact (and1 b).1 e))
      rw [if_neg q, if_neg q2] at h
      exact h
  apply BitVec.eq_of_getLsbD_eq
  intro i hi
  cases i with
  | zero => exact h0
  | succ j =>
    have := congrArg (fun x => BitVec.getLsbD x j) hs
    simp only [BitVec.getLsbD_ushiftRight] at this
    rw [Nat.add_comm j 1]; exact this
theorem crcBits_inj : ∀ (k : Nat) {a b : BitVec 32}, crcBits k a = crcBits k b → a = b
  | 0, _, _, h => h
  | k + 1, _, _, h => crcBits_inj k (crcBit_inj h)
theorem crcByte_inj {a b : BitVec 32} {x : UInt8} (h : crcByte a x = crcByte b x) : a = b := BitVec.xor_left_inj _ |>.1 (crcBits_inj 8 h)
theorem b32_inj {x y : UInt8} (h : b32 x = b32 y) : x = y := by
  have := congrArg BitVec.toNat h
  have hx := x.toNat_lt
  have hy := y.toNat_lt
  unfold b32 at this
  simp only [BitVec.toNat_ofNat] at this
  exact UInt8.toNat_inj.1 (by omega)
theorem crcByte_turn {a : BitVec 32} {x y : UInt8} (h : crcByte a x = crcByte a y) : x = y := b32_inj (BitVec.xor_right_inj _ |>.1 (crcBits_inj 8 h))
theorem crcL_inj : ∀ {l : List UInt8} {a b : BitVec 32}, crcL a l = crcL b l → a = b
  | [], _, _, h => h
  | x :: l, _, _, h => crcByte_inj (crcL_inj (l := l) h)
theorem crc_turn {A B : List UInt8} {x y : UInt8} (hn : x ≠ y) : crc (A ++ x :: B) ≠ crc (A ++ y :: B) := by
  intro h
  unfold crc at h
  have h1 : crcL (~~~ 0#32) (A ++ x :: B) = crcL (~~~ 0#32) (A ++ y :: B) := by
    have := congrArg (fun z => ~~~ z) h
    simpa using this
  unfold crcL at h1
  rw [List.foldl_append, List.foldl_append, List.foldl_cons, List.foldl_cons] at h1
  exact hn (crcByte_turn (crcL_inj (l := B) h1))
theorem four_inj {x y : BitVec 32} (h : four x = four y) : x = y := by
  unfold four at h
  simp only [List.cons.injEq, and_true] at h
  obtain ⟨h1, h2, h3, h4⟩ := h
  have f := fun (n : Nat) => (UInt8.toNat_ofNat' (n := n))
  have e1 := congrArg UInt8.toNat h1
  have e2 := congrArg UInt8.toNat h2
  have e3 := congrArg UInt8.toNat h3
  have e4 := congrArg UInt8.toNat h4
  simp only [f] at e1 e2 e3 e4
  have hx := x.isLt
  have hy := y.isLt
  apply BitVec.eq_of_toNat_eq
  omega
/-- What is sealed, with one byte turned, is not sealed. -/
theorem seal_turn {I : List UInt8} {k : Nat} {z : UInt8} (hk : k < (sealB I).length) (hz : (sealB I)[k]? ≠ some z) : sealB (((sealB I).set k z).take (((sealB I).set k z).length - 4)) ≠ (sealB I).set k z := by
  have hl : (sealB I).length = I.length + 4 := by unfold sealB; simp [four]
  intro e
  have hlen : ((sealB I).set k z).length - 4 = I.length := by rw [List.length_set, hl]; omega
  rw [hlen] at e
  by_cases hki : k < I.length
  · have hset : (sealB I).set k z = I.set k z ++ four (crc I) := by unfold sealB; rw [List.set_append_left _ _ hki]
    rw [hset, List.take_left' (by simp)] at e
    unfold sealB at e
    have h4 := four_inj (List.append_cancel_left e)
    have hI : I = I.take k ++ I[k] :: I.drop (k + 1) := by rw [← List.drop_eq_getElem_cons hki, List.take_append_drop]
    have hI2 : I.set k z = I.take k ++ z :: I.drop (k + 1) := by rw [List.set_eq_take_append_cons_drop, if_pos hki]
    rw [hI2] at h4
    have hk2 : (sealB I)[k]? = some I[k] := by unfold sealB; rw [List.getElem?_append_left hki, List.getElem?_eq_getElem hki]
    rw [hk2] at hz
    refine crc_turn (A := I.take k) (B := I.drop (k + 1)) (x := z) (y := I[k]) (fun q => hz (by rw [q])) (h4.trans ?_)
    rw [← hI]
  · have hset : (sealB I).set k z = I ++ (four (crc I)).set (k - I.length) z := by unfold sealB; rw [List.set_append_right _ _ (by omega)]
    rw [hset, List.take_left' rfl] at e
    have h4 : four (crc I) = (four (crc I)).set (k - I.length) z := List.append_cancel_left e
    have hf : (four (crc I)).length = 4 := rfl
    have hk3 : k - I.length < (four (crc I)).length := by omega
    have := congrArg (fun l => l[k - I.length]?) h4
    simp only [List.getElem?_set_self hk3, List.getElem?_eq_getElem hk3, Option.some.injEq] at this
    apply hz
    unfold sealB
    rw [List.getElem?_append_right (by omega), List.getElem?_eq_getElem hk3, this]
end Go.KH

set_option linter.unusedVariables false
set_option linter.unusedSimpArgs false
namespace Go.KH

/-! ## What is written is read -/
theorem decN_put : ∀ (d v i u : Nat) (r : List UInt8), v < d → i ≤ 9 → (i = 0 ∨ v ≠ 0) → v * 2 ^ (7 * i) < 18446744073709551616 → decN i u (leb v ++ r) = (0, u + v * 2 ^ (7 * i), i + (leb v).length)
  | 0, v, i, u, r, hd, _, _, _ => by omega
  | d + 1, v, i, u, r, hd, hi, h0, hv => by
    by_cases h : v < 128
    · rw [leb_lt h]
      have hb : (UInt8.ofNat v).toNat = v := by simp; omega
      simp only [List.cons_append, List.nil_append, decN, hb]
      rw [if_neg, if_pos h, if_neg]
      · simp
      · rintro ⟨e1, e2⟩; omega
      · rintro ⟨e1, e2⟩
        subst e1
        have h63 : (2 : Nat) ^ (7 * 9) = 9223372036854775808 := by decide
        rw [h63] at hv
        omega
    · rw [leb_ge h]
      have hb : (UInt8.ofNat (v % 128 + 128)).toNat = v % 128 + 128 := by simp; omega
      have hi8 : i ≤ 8 := by
        rcases Nat.lt_or_ge 8 i with h9 | h9
        · have : i = 9 := by omega
          subst this
          have h63 : (2 : Nat) ^ (7 * 9) = 9223372036854775808 := by decide
          rw [h63] at hv
          omega
        · exact h9
      have hp : (2 : Nat) ^ (7 * (i + 1)) = 128 * 2 ^ (7 * i) := by rw [show 7 * (i + 1) = 7 * i + 7 by omega, Nat.pow_add]; omega
      simp only [List.cons_append, decN, hb]
      rw [if_neg (by rintro ⟨e1, _⟩; omega), if_neg (by omega)]
      have hmul : v / 128 * 2 ^ (7 * (i + 1)) ≤ v * 2 ^ (7 * i) := by
        rw [hp, ← Nat.mul_assoc]
        exact Nat.mul_le_mul_right _ (by omega)
      rw [decN_put d (v / 128) (i + 1) _ r (by omega) (by omega) (by omega) (by omega)]
      simp only [Prod.mk.injEq, true_and]
      constructor
      · rw [hp, show (v % 128 + 128) % 128 = v % 128 by omega, Nat.add_assoc, ← Nat.mul_assoc, ← Nat.add_mul]
        congr 2
        omega
      · simp only [List.length_cons]; omega
theorem zag_zig {n : Int} : zag (zig n) = n := by unfold zag zig; split <;> split <;> omega
theorem getN_put {t r : List UInt8} {a : Nat} {n : Int} (h : t.drop a = putNum n ++ r) (hn : -9223372036854775808 ≤ n ∧ n ≤ 9223372036854775807) : getN t a = (n, a + (putNum n).length, 0) := by
  have hd := decN_put (zig n + 1) (zig n) 0 0 r (by omega) (by omega) (.inl rfl) (by have := zig_lt hn; simpa using this)
  unfold getN
  rw [h]
  unfold putNum
  rw [hd]
  simp only [Nat.mul_zero, Nat.pow_zero, Nat.mul_one, Nat.zero_add]
  rw [zag_zig]
theorem drop_put {t p r : List UInt8} {a : Nat} (h : t.drop a = p ++ r) : t.drop (a + p.length) = r := by
  rw [← List.drop_drop, h, List.drop_left]
theorem getT_put {t x r : List UInt8} {a : Nat} (h : t.drop a = putText x ++ r) (hx : x.length ≤ 8000) (ha : a ≤ t.length) : getT t a = (x, a + (putText x).length, 0) := by
  have h1 : t.drop a = putNum x.length ++ (x ++ r) := by rw [h]; unfold putText; simp
  have hg := getN_put h1 ⟨by omega, by omega⟩
  have h2 := drop_put h1
  have hl := congrArg List.length h1
  simp only [List.length_append, List.length_drop] at hl
  unfold getT
  rw [hg]
  simp only
  rw [if_neg (by simp), if_neg (by omega), if_neg (by omega)]
  simp only [Prod.mk.injEq, and_true]
  constructor
  · rw [List.drop_take, Nat.add_sub_cancel_left, h2]
    simp
  · unfold putText; simp only [List.length_append]; omega
end Go.KH

set_option linter.unusedVariables false
set_option linter.unusedSimpArgs false
set_option maxRecDepth 100000
namespace Go.Proofs.YthjbhdmjfakfaaaGreatDoor
open Go.KH

/-! ## A step's encoding is decoded to it -/
theorem reads_put {t r : List UInt8} {a : Nat} {x : UStep} (h : t.drop a = stepB x ++ r) (hx : x.ok) (hd : x.data.length ≤ 8000) (ha : a ≤ t.length) : Reads t a x (a + (stepB x).length) := by
  unfold stepB at h
  rw [List.append_assoc, List.append_assoc, List.append_assoc] at h
  have g1 := getN_put h hx.1
  have h2 := drop_put h
  have g2 := getN_put h2 hx.2.1
  have h3 := drop_put h2
  have g3 := getN_put h3 hx.2.2.1
  have h4 := drop_put h3
  have hl := congrArg List.length h
  simp only [List.length_append, List.length_drop] at hl
  have g4 := getT_put h4 hd (by omega)
  refine ⟨_, _, _, g1, g2, g3, ?_⟩
  rw [g4]
  unfold stepB
  simp only [List.length_append, Prod.mk.injEq, true_and, and_true]
  omega
theorem stepR_put {x : UStep} (hx : x.ok) (hd : x.data.length ≤ 8000) (hk : stepOk x 8) : stepR (stepB x) = some x := by
  have r := reads_put (t := stepB x) (r := []) (a := 0) (by simp) hx hd (Nat.zero_le _)
  rw [stepR_of r, if_pos ⟨by omega, hk⟩]
end Go.Proofs.YthjbhdmjfakfaaaGreatDoor
