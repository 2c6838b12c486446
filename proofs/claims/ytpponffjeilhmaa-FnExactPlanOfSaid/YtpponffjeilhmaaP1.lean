/- A helper of this seat's claims (plain laws): what it shows is shown for every input that its statements name, on no other condition. -/
import Derived.Test.YtpponffjeilhmaaK20
set_option linter.unusedVariables false
namespace Go.KH
/-! ## Bytes: numbers, checksums -/
def leb (u : Nat) : List UInt8 := if u < 128 then [UInt8.ofNat u] else UInt8.ofNat (u % 128 + 128) :: leb (u / 128)
termination_by u
decreasing_by omega
theorem leb_lt {u : Nat} (h : u < 128) : leb u = [UInt8.ofNat u] := by rw [leb, if_pos h]
theorem leb_ge {u : Nat} (h : ¬ u < 128) : leb u = UInt8.ofNat (u % 128 + 128) :: leb (u / 128) := by rw [leb, if_neg h]
theorem leb_le : ∀ (k u : Nat), u < 128 ^ (k + 1) → (leb u).length ≤ k + 1
  | 0, u, h => by rw [leb_lt (by simpa using h)]; simp
  | k + 1, u, h => by
    by_cases hu : u < 128
    · rw [leb_lt hu]; simp
    · rw [leb_ge hu]
      have h1 : u / 128 < 128 ^ (k + 1) := by
        rw [Nat.pow_succ] at h
        exact Nat.div_lt_of_lt_mul (by rw [Nat.mul_comm]; exact h)
      have := leb_le k (u / 128) h1
      simp only [List.length_cons]; omega
def zig (n : Int) : Nat := if n < 0 then (2 * (-(n + 1)) + 1).toNat else (2 * n).toNat
theorem zig_lt {n : Int} (h : -9223372036854775808 ≤ n ∧ n ≤ 9223372036854775807) : zig n < 18446744073709551616 := by unfold zig; split <;> omega
def putNum (n : Int) : List UInt8 := leb (zig n)
theorem putNum_le {n : Int} (h : -9223372036854775808 ≤ n ∧ n ≤ 9223372036854775807) : (putNum n).length ≤ 10 := leb_le 9 _ (Nat.lt_of_lt_of_le (zig_lt h) (by decide))
def putText (t : List UInt8) : List UInt8 := putNum t.length ++ t

def poly : BitVec 32 := 0xEDB88320#32
def crcBit (r : BitVec 32) : BitVec 32 := if r &&& 1#32 = 1#32 then (r >>> 1) ^^^ poly else r >>> 1
def crcBits : Nat → BitVec 32 → BitVec 32
  | 0, r => r
  | k + 1, r => crcBit (crcBits k r)
def b32 (b : UInt8) : BitVec 32 := BitVec.ofNat 32 b.toNat
def crcByte (r : BitVec 32) (b : UInt8) : BitVec 32 := crcBits 8 (r ^^^ b32 b)
def crcL (r : BitVec 32) (l : List UInt8) : BitVec 32 := l.foldl crcByte r
def crc (l : List UInt8) : BitVec 32 := ~~~ (crcL (~~~ 0#32) l)
/-- The other way: bit for bit, the byte turned along. -/
def mixBit (t b : BitVec 32) (j : Nat) : BitVec 32 := if (t ^^^ (b >>> j)) &&& 1#32 = 1#32 then (t >>> 1) ^^^ poly else t >>> 1
def mixBits (b : BitVec 32) : Nat → BitVec 32 → BitVec 32
  | 0, t => t
  | k + 1, t => mixBit (mixBits b k t) b k
theorem mix_crc (b t : BitVec 32) : ∀ k, crcBits k (t ^^^ b) = mixBits b k t ^^^ (b >>> k)
  | 0 => by simp [crcBits, mixBits]
  | k + 1 => by
    have ih := mix_crc b t k
    simp only [crcBits, mixBits, mixBit]
    rw [ih]
    unfold crcBit
    have e : ∀ x y : BitVec 32, (x ^^^ y) >>> 1 = (x >>> 1) ^^^ (y >>> 1) := fun x y => BitVec.ushiftRight_xor_distrib ..
    have e2 : b >>> k >>> 1 = b >>> (k + 1) := by rw [BitVec.shiftRight_add]
    split
    · rw [e, e2, BitVec.xor_assoc, BitVec.xor_comm (b >>> (k + 1)), ← BitVec.xor_assoc]
    · rw [e, e2]
theorem b32_shr (b : UInt8) : b32 b >>> 8 = 0#32 := by
  apply BitVec.eq_of_toNat_eq
  have := b.toNat_lt
  simp only [b32, BitVec.toNat_ushiftRight, BitVec.toNat_ofNat, Nat.shiftRight_eq_div_pow]
  omega
theorem mix_byte (b : UInt8) (t : BitVec 32) : mixBits (b32 b) 8 t = crcByte t b := by
  unfold crcByte
  rw [mix_crc, b32_shr, BitVec.xor_zero]
def four (x : BitVec 32) : List UInt8 := [UInt8.ofNat x.toNat, UInt8.ofNat (x.toNat / 256), UInt8.ofNat (x.toNat / 65536), UInt8.ofNat (x.toNat / 16777216)]
def sealB (t : List UInt8) : List UInt8 := t ++ four (crc t)
theorem crcL_take (r : BitVec 32) (l : List UInt8) (k : Nat) (hk : k < l.length) : crcL r (l.take (k + 1)) = crcByte (crcL r (l.take k)) l[k] := by
  unfold crcL; rw [List.take_succ_eq_append_getElem hk, List.foldl_append]; rfl
end Go.KH
