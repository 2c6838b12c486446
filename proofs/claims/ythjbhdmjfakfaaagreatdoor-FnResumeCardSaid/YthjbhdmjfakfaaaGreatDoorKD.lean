/- A helper of this seat's claims (plain laws): what it shows is shown for every input that its statements name, on no other condition. -/
import Derived.Test.YthjbhdmjfakfaaaGreatDoorKC
set_option linter.unusedVariables false
namespace Go.KH
def leb (u : Nat) : List UInt8 := if u < 128 then [UInt8.ofNat u] else UInt8.ofNat (u % 128 + 128) :: leb (u / 128)
termination_by u
decreasing_by omega
theorem leb_lt {u : Nat} (h : u < 128) : leb u = [UInt8.ofNat u] := by rw [leb, if_pos h]
theorem leb_ge {u : Nat} (h : ¬ u < 128) : leb u = UInt8.ofNat (u % 128 + 128) :: leb (u / 128) := by rw [leb, if_neg h]
theorem leb_le : ∀ (k u : Nat), u < 128 ^ (k + 1) → (leb u).length ≤ k + 1
 | 0, u, h => by rw [leb_lt (by simpa using h)]; simp
 | k + 1, u, h => by
  by_cases hu : u < 128
  ·rw [leb_lt hu]; simp
  ·rw [leb_ge hu]
   have h1 : u / 128 < 128 ^ (k + 1) := by
    rw [Nat.pow_succ] at h
    exact Nat.div_lt_of_lt_mul (by rw [Nat.mul_comm]; exact h)
   have := leb_le k (u / 128) h1
   simp only [List.length_cons]; omega
def zig (n : Int) : Nat := if n < 0 then (2 * (-(n + 1)) + 1).toNat else (2 * n).toNat
theorem zig_lt {n : Int} (h : -9223372036854775808 ≤ n ∧ n ≤ 9223372036854775807) : zig n < 18446744073709551616 := by unfold zig; split <;> omega
def putNum (n : Int) : List UInt8 := leb (zig n)
theorem putNum_le {n : Int} (h : -9223372036854775808 ≤ n ∧ n ≤ 9223372036854775807) : (putNum n).length ≤ 10 := leb_le 9 _ (Nat.lt_of_lt_of_le (zig_lt h) (by decide))
def putText (t : List UInt8) : List UInt8 := putNum t.length ++ t

def poly : BitVec 32 := 0xEDB88320#32
def crcBit (r : BitVec 32) : BitVec 32 := if r &&& 1#32 = 1#32 then (r >>> 1) ^^^ poly else r >>> 1
def crcBits : Nat → BitVec 32 → BitVec 32
 | 0, r => r
 | k + 1, r => crcBit (crcBits k r)
def b32 (b : UInt8) : BitVec 32 := BitVec.ofNat 32 b.toNat
def crcByte (r : BitVec 32) (b : UInt8) : BitVec 32 := crcBits 8 (r ^^^ b32 b)
def crcL (r : BitVec 32) (l : List UInt8) : BitVec 32 := l.foldl crcByte r
def crc (l : List UInt8) : BitVec 32 := ~~~ (crcL (~~~ 0#32) l)
def mixBit (t b : BitVec 32) (j : Nat) : BitVec 32 := if (t ^^^ (b >>> j)) &&& 1#32 = 1#32 then (t >>> 1) ^^^ poly else t >>> 1
def mixBits (b : BitVec 32) : Nat → BitVec 32 → BitVec 32
 | 0, t => t
 | k + 1, t => mixBit (mixBits b k t) b k
theorem mix_crc (b t : BitVec 32) : ∀ k, crcBits k (t ^^^ b) = mixBits b k t ^^^ (b >>> k)
 | 0 => by simp [crcBits, mixBits]
 | k + 1 => by
  have ih := mix_crc b t k
  simp only [crcBits, mixBits, mixBit]
  rw [ih]
  unfold crcBit
  have e : ∀ x y : BitVec 32, (x ^^^ y) >>> 1 = (x >>> 1) ^^^ (y >>> 1) := fun x y => BitVec.ushiftRight_xor_distrib ..
  have e2 : b >>> k >>> 1 = b >>> (k + 1) := by rw [BitVec.shiftRight_add]
  split
  ·rw [e, e2, BitVec.xor_assoc, BitVec.xor_comm (b >>> (k + 1)), ← BitVec.xor_assoc]
  ·rw [e, e2]
theorem b32_shr (b : UInt8) : b32 b >>> 8 = 0#32 := by
 apply BitVec.eq_of_toNat_eq
 have := b.toNat_lt
 simp only [b32, BitVec.toNat_ushiftRight, BitVec.toNat_ofNat, Nat.shiftRight_eq_div_pow]
 omega
theorem mix_byte (b : UInt8) (t : BitVec 32) : mixBits (b32 b) 8 t = crcByte t b := by
 unfold crcByte
 rw [mix_crc, b32_shr, BitVec.xor_zero]
def four (x : BitVec 32) : List UInt8 := [UInt8.ofNat x.toNat, UInt8.ofNat (x.toNat / 256), UInt8.ofNat (x.toNat / 65536), UInt8.ofNat (x.toNat / 16777216)]
def sealB (t : List UInt8) : List UInt8 := t ++ four (crc t)
theorem crcL_take (r : BitVec 32) (l : List UInt8) (k : Nat) (hk : k < l.length) : crcL r (l.take (k + 1)) = crcByte (crcL r (l.take k)) l[k] := by
 unfold crcL; rw [List.take_succ_eq_append_getElem hk, List.foldl_append]; rfl
end Go.KH
set_option linter.unusedSimpArgs false
set_option maxRecDepth 100000
namespace Go.KH
open Go.RowKit

abbrev w32 (x : BitVec 32) : Value := .int .u32 (x.toNat : Int)
theorem bool_eq {p q : Prop} [Decidable p] [Decidable q] (h : p ↔ q) : Value.bool (decide p) = Value.bool (decide q) := by
 by_cases hp : p
 ·simp [hp, h.1 hp]
 ·have hq : ¬ q := fun hq => hp (h.2 hq)
  simp [hp, hq]
theorem wrap_u32n (n : Nat) : IntKind.u32.wrap (n : Int) = ((n % 4294967296 : Nat) : Int) := by
 unfold IntKind.wrap
 simp [IntKind.bits, IntKind.signed]
theorem wrap_u32v (x : BitVec 32) : IntKind.u32.wrap (x.toNat : Int) = (x.toNat : Int) := by
 rw [wrap_u32n, Nat.mod_eq_of_lt x.isLt]
theorem wrap_u8n (n : Nat) : IntKind.u8.wrap (n : Int) = ((n % 256 : Nat) : Int) := by
 unfold IntKind.wrap
 simp [IntKind.bits, IntKind.signed]
theorem ofInt_w32 (x : BitVec 32) : BitVec.ofInt IntKind.u32.bits (x.toNat : Int) = x := by
 show BitVec.ofInt 32 (x.toNat : Int) = x
 simp
theorem xor_w32 (x y : BitVec 32) : obin .xor (w32 x) (w32 y) = some (w32 (x ^^^ y)) := by
 rw [bi_xor, ofInt_w32, ofInt_w32]
 show some (Value.int .u32 (IntKind.u32.wrap ((x ^^^ y).toNat : Int))) = _
 rw [wrap_u32v]
theorem and1_w32 (x : BitVec 32) : obin .and (w32 x) (.int .u32 1) = some (w32 (x &&& 1#32)) := by
 rw [bi_and, ofInt_w32]
 show some (Value.int .u32 (IntKind.u32.wrap ((x &&& 1#32).toNat : Int))) = _
 rw [wrap_u32v]
theorem poly_w32 (x : BitVec 32) : obin .xor (w32 x) (.int .u32 3988292384) = some (w32 (x ^^^ poly)) := xor_w32 x poly
theorem ones_w32 (x : BitVec 32) : obin .xor (w32 x) (.int .u32 4294967295) = some (w32 (~~~ x)) := by
 have := xor_w32 x (BitVec.allOnes 32)
 rw [BitVec.xor_allOnes] at this
 exact this
theorem not_w32 (x : BitVec 32) : oun .xor (w32 x) = some (w32 (~~~ x)) := by
 rw [un_xor, ofInt_w32]
 show some (Value.int .u32 (IntKind.u32.wrap ((BitVec.allOnes 32 ^^^ x).toNat : Int))) = _
 rw [wrap_u32v, BitVec.xor_comm, BitVec.xor_allOnes]
theorem shr_w32 (x : BitVec 32) (k : IntKind) (j : Nat) (hj : j ≤ 32) : obin .shr (w32 x) (.int k (j : Int)) = some (w32 (x >>> j)) := by
 rw [bi_shr, if_neg (by omega)]
 have : min (j : Int).toNat IntKind.u32.bits = j := by simp [IntKind.bits]; omega
 rw [this]
 congr 2
 rw [BitVec.toNat_ushiftRight, Nat.shiftRight_eq_div_pow, Int.fdiv_eq_ediv_of_nonneg _ (by exact_mod_cast Nat.zero_le _)]
 norm_cast
theorem shr1_w32 (x : BitVec 32) : obin .shr (w32 x) (.int .u64 1) = some (w32 (x >>> 1)) := shr_w32 x .u64 1 (by omega)
theorem eq1_w32 (x : BitVec 32) : obin .eql (w32 x) (.int .u32 1) = some (.bool (decide (x = 1#32))) := by
 rw [bi_eql]
 refine congrArg some (bool_eq ?_)
 constructor
 ·intro h; apply BitVec.eq_of_toNat_eq; have : x.toNat = 1 := by omega
  rw [this]; rfl
 ·intro h; subst h; rfl
theorem wrap_b32 (b : UInt8) : IntKind.u32.wrap (b.toNat : Int) = ((b32 b).toNat : Int) := by
 have := b.toNat_lt
 rw [wrap_u32n]
 simp only [b32, BitVec.toNat_ofNat]
theorem wrap_i64_32 (x : BitVec 32) : IntKind.i64.wrap (x.toNat : Int) = (x.toNat : Int) := by
 have := x.isLt
 exact wrap_i64 (by omega) (by omega)
abbrev bys (l : List UInt8) : List (List Value) := l.map fun b => [.int .u8 (b.toNat : Int)]
theorem bytesOf_nil : bytesOf [] = some [] := rfl
theorem bytesOf_cons (n : Int) (l : List Value) : bytesOf (.int .u8 n :: l) = (bytesOf l).map fun r => UInt8.ofNat n.toNat :: r := rfl
theorem bytesOf_bys : ∀ l : List UInt8, bytesOf (bys l).flatten = some l
 | [] => rfl
 | b :: l => by
  show bytesOf (.int .u8 (b.toNat : Int) :: (bys l).flatten) = _
  rw [bytesOf_cons, bytesOf_bys l]
  simp
theorem wrap_ofNat (n : Nat) : IntKind.u8.wrap (n : Int) = ((UInt8.ofNat n).toNat : Int) := by
 rw [wrap_u8n]; simp
theorem Own.shape {h0 h : H} {v : Value} {w : Nat} {rows : List (List Value)} (o : Own h0 h v w rows) : ∃ a c, v = .slice a rows.length c := by
 rcases o with ⟨rfl, rfl⟩ | ⟨b, c, z, rfl, _⟩
 ·exact ⟨none, 0, rfl⟩
 ·exact ⟨_, c, rfl⟩
theorem wrap_u64 {n : Int} (h0 : 0 ≤ n) (h1 : n < 18446744073709551616) : IntKind.u64.wrap n = n := by
 unfold IntKind.wrap
 simp only [IntKind.bits, IntKind.signed]
 simp
 omega
theorem wrap_u64m (n : Int) : IntKind.u64.wrap n = n % 18446744073709551616 := by
 unfold IntKind.wrap
 simp [IntKind.bits, IntKind.signed]
theorem or128 (u : Nat) : obin .or (.int .u8 ((UInt8.ofNat u).toNat : Int)) (.int .u8 128) = some (.int .u8 ((UInt8.ofNat (u % 128 + 128)).toNat : Int)) := by
 rw [bi_or]
 have key : ∀ b : BitVec 8, (b ||| 128#8).toNat = b.toNat % 128 + 128 := by decide
 have e1 : BitVec.ofInt IntKind.u8.bits ((UInt8.ofNat u).toNat : Int) = BitVec.ofNat 8 (UInt8.ofNat u).toNat := by
  exact BitVec.ofInt_natCast ..
 rw [e1]
 show some (Value.int .u8 (IntKind.u8.wrap ((BitVec.ofNat 8 (UInt8.ofNat u).toNat ||| 128#8).toNat : Int))) = _
 rw [key, wrap_ofNat, show (BitVec.ofNat 8 (UInt8.ofNat u).toNat).toNat % 128 + 128 = u % 128 + 128 by
  simp only [BitVec.toNat_ofNat, UInt8.toNat_ofNat']; omega]
theorem not_u64 (n : Nat) (h : n < 18446744073709551616) : oun .xor (.int .u64 (n : Int)) = some (.int .u64 ((18446744073709551615 - n : Nat) : Int)) := by
 rw [un_xor]
 have e1 : BitVec.ofInt IntKind.u64.bits (n : Int) = BitVec.ofNat 64 n := by
  exact BitVec.ofInt_natCast ..
 rw [e1]
 show some (Value.int .u64 (IntKind.u64.wrap ((BitVec.allOnes 64 ^^^ BitVec.ofNat 64 n).toNat : Int))) = _
 rw [BitVec.xor_comm, BitVec.xor_allOnes, BitVec.toNat_not, BitVec.toNat_ofNat, Nat.mod_eq_of_lt (by simpa using h), wrap_u64 (by omega) (by omega)]
theorem b2s_own {h0 h : H} {v : Value} {l : List UInt8} {K : Value → Prop} (o : Own h0 h v 1 (bys l)) (hk : K (str l)) :
  withO (asR v) fun p => Br (p.2.2 = 0) (withO (some (str [])) K) (withO (ldc h p.1 p.2.1 p.2.2) fun cs => withO (bytesOf cs) fun r => withO (some (str r)) K) := by
 rcases o with ⟨rfl, e⟩ | ⟨b, c, z, rfl, hlc, hb, h0b, hg, hcz, hw⟩
 ·have : l = [] := by simpa using e
  subst this
  simp only [nils, asR, withO_some]
  exact Br.of (fun _ => hk) (fun hn => absurd trivial hn)
 ·simp only [asR_mk, withO_some, List.length_map]
  refine Br.of (fun h0 => ?_) (fun h0 => ?_)
  ·have : l = [] := List.length_eq_zero_iff.1 h0
   subst this; exact hk
  ·have hl := flat_length hw
   simp only [List.length_map, Nat.mul_one] at hl
   have e : ldc h b 0 l.length = some (bys l).flatten := by
    unfold ldc
    rw [hg]
    simp only
    rw [if_pos (by omega), List.drop_zero, List.take_of_length_le (by omega)]
   rw [e]
   simp only [withO_some, bytesOf_bys]
   exact hk
theorem shr_nat (k : IntKind) (n j : Nat) (hj : j ≤ k.bits) : obin .shr (.int k (n : Int)) (.int .u64 (j : Int)) = some (.int k ((n / 2 ^ j : Nat) : Int)) := by
 rw [bi_shr, if_neg (by omega)]
 have : min (j : Int).toNat k.bits = j := by simp; omega
 rw [this]
 congr 2
 rw [Int.fdiv_eq_ediv_of_nonneg _ (by exact_mod_cast Nat.zero_le _)]
 norm_cast
theorem shr8 (k : IntKind) (n : Nat) (hk : 32 ≤ k.bits) : obin .shr (.int k (n : Int)) (.int .u64 8) = some (.int k ((n / 256 : Nat) : Int)) := shr_nat k n 8 (by omega)
theorem shr16 (k : IntKind) (n : Nat) (hk : 32 ≤ k.bits) : obin .shr (.int k (n : Int)) (.int .u64 16) = some (.int k ((n / 65536 : Nat) : Int)) := shr_nat k n 16 (by omega)
theorem shr24 (k : IntKind) (n : Nat) (hk : 32 ≤ k.bits) : obin .shr (.int k (n : Int)) (.int .u64 24) = some (.int k ((n / 16777216 : Nat) : Int)) := shr_nat k n 24 (by omega)
end Go.KH
namespace Go.KH

structure UMove where
 kind : Int
 step : Int
 block : Int
 slot : Int
deriving DecidableEq
abbrev UMove.cells (m : UMove) : List Value := [i64 m.kind, i64 m.step, i64 m.block, i64 m.slot]
structure UStep where
 kind : Int
 dst : Int
 src : Int
 data : List UInt8
deriving DecidableEq
abbrev UStep.cells (s : UStep) : List Value := [i64 s.kind, i64 s.dst, i64 s.src, str s.data]

structure UCmd where
 kind : Int
 a : Int
 b : Int
 digest : List UInt8
 step : UStep
deriving DecidableEq
abbrev UCmd.cells (c : UCmd) : List Value := [i64 c.kind, i64 c.a, i64 c.b, str c.digest, i64 c.step.kind, i64 c.step.dst, i64 c.step.src, str c.step.data]

def in64 (n : Int) : Prop := -9223372036854775808 ≤ n ∧ n ≤ 9223372036854775807
theorem dec_f {p : Prop} [Decidable p] (h : ¬ p) : Value.bool false = Value.bool (decide p) := by simp [h]
theorem dec_t {p : Prop} [Decidable p] (h : p) : Value.bool true = Value.bool (decide p) := by simp [h]
def UMove.ok (m : UMove) : Prop := in64 m.kind ∧ in64 m.step ∧ in64 m.block ∧ in64 m.slot
def UStep.ok (s : UStep) : Prop := in64 s.kind ∧ in64 s.dst ∧ in64 s.src ∧ s.data.length ≤ maxLen
end Go.KH
namespace Go.KH
def bitsN (l : List Int) : Nat := l.foldl (fun a n => a ||| 1 <<< n.toNat) 0
theorem bits_fold (l : List Int) : ∀ (a i : Nat), (l.foldl (fun a n => a ||| 1 <<< n.toNat) a).testBit i = (a.testBit i || l.any fun n => n.toNat == i) := by
 induction l with
 | nil => intro a i; simp
 | cons n l ih =>
  intro a i
  rw [List.foldl_cons, ih, Nat.testBit_or, List.any_cons, Bool.or_assoc]
  congr 1
  congr 1
  rw [Nat.shiftLeft_eq, Nat.one_mul, Nat.testBit_two_pow]
  by_cases h : n.toNat = i <;> simp [h]
theorem bitsN_test {l : List Int} (h : ∀ x ∈ l, 0 ≤ x) (i : Nat) : (bitsN l).testBit i = decide ((i : Int) ∈ l) := by
 unfold bitsN
 rw [bits_fold]
 simp only [Nat.zero_testBit, Bool.false_or]
 rw [Bool.eq_iff_iff]
 simp only [List.any_eq_true, beq_iff_eq, decide_eq_true_eq]
 constructor
 ·rintro ⟨x, hx, e⟩
  have := h x hx
  rw [show (i : Int) = x by omega]; exact hx
 ·intro hm; exact ⟨i, hm, by simp⟩
theorem bitsN_lt {l : List Int} {k : Nat} (h : ∀ x ∈ l, 0 ≤ x ∧ x < k) : bitsN l < 2 ^ k := by
 apply Nat.lt_pow_two_of_testBit
 intro i hi
 rw [bitsN_test (fun x hx => (h x hx).1)]
 simp only [decide_eq_false_iff_not]
 intro hm
 have := (h i hm).2
 omega
theorem bitsN_take (l : List Int) (k : Nat) (hk : k < l.length) : bitsN (l.take (k + 1)) = bitsN (l.take k) ||| 1 <<< l[k].toNat := by
 unfold bitsN; rw [List.take_succ_eq_append_getElem hk, List.foldl_append]; rfl
theorem bits_disjoint {a b : List Int} (ha : ∀ x ∈ a, 0 ≤ x) (hb : ∀ x ∈ b, 0 ≤ x) : bitsN a &&& bitsN b = 0 ↔ ∀ x ∈ b, x ∉ a := by
 constructor
 ·intro h x hx hxa
  have h1 : (bitsN a &&& bitsN b).testBit x.toNat = true := by
   rw [Nat.testBit_and, bitsN_test ha, bitsN_test hb]
   have e : ((x.toNat : Nat) : Int) = x := by have := hb x hx; omega
   rw [e]; simp [hx, hxa]
  rw [h] at h1; simp at h1
 ·intro h
  apply Nat.eq_of_testBit_eq
  intro i
  rw [Nat.testBit_and, bitsN_test ha, bitsN_test hb, Nat.zero_testBit]
  by_cases h1 : (i : Int) ∈ b
  ·simp [h i h1]
  ·simp [h1]
theorem or_eq_add {a n : Nat} (h : a < 2 ^ n) : a ||| 1 <<< n = a + 2 ^ n := by
 rw [Nat.shiftLeft_eq, Nat.one_mul, Nat.or_comm]
 have := Nat.two_pow_add_eq_or_of_lt h 1
 rw [Nat.mul_one] at this
 rw [← this]; omega
end Go.KH
namespace Go.KH
open Go.RowKit
theorem ofInt_i64n (n : Nat) : BitVec.ofInt IntKind.i64.bits (n : Int) = BitVec.ofNat 64 n := BitVec.ofInt_natCast ..
theorem or_i64 {a b : Nat} (ha : a < 9223372036854775808) (hb : b < 9223372036854775808) : obin .or (i64 (a : Int)) (i64 (b : Int)) = some (i64 ((a ||| b : Nat) : Int)) := by
 rw [bi_or, ofInt_i64n, ofInt_i64n]
 show some (Value.int .i64 (IntKind.i64.wrap ((BitVec.ofNat 64 a ||| BitVec.ofNat 64 b).toNat : Int))) = _
 have h : a ||| b < 2 ^ 63 := Nat.or_lt_two_pow ha hb
 rw [BitVec.toNat_or, BitVec.toNat_ofNat, BitVec.toNat_ofNat, Nat.mod_eq_of_lt (by omega), Nat.mod_eq_of_lt (by omega), wrap_i64 (by omega) (by omega)]
theorem and_i64 {a b : Nat} (ha : a < 9223372036854775808) (hb : b < 9223372036854775808) : obin .and (i64 (a : Int)) (i64 (b : Int)) = some (i64 ((a &&& b : Nat) : Int)) := by
 rw [bi_and, ofInt_i64n, ofInt_i64n]
 show some (Value.int .i64 (IntKind.i64.wrap ((BitVec.ofNat 64 a &&& BitVec.ofNat 64 b).toNat : Int))) = _
 have h : a &&& b ≤ a := Nat.and_le_left
 rw [BitVec.toNat_and, BitVec.toNat_ofNat, BitVec.toNat_ofNat, Nat.mod_eq_of_lt (by omega), Nat.mod_eq_of_lt (by omega), wrap_i64 (by omega) (by omega)]
theorem shl1_i64 {n : Int} (h0 : 0 ≤ n) (h1 : n ≤ 62) : obin .shl (i64 1) (i64 n) = some (i64 ((1 <<< n.toNat : Nat) : Int)) := by
 rw [bi_shl, if_neg (by omega)]
 have e : min n.toNat IntKind.i64.bits = n.toNat := by simp [IntKind.bits]; omega
 rw [e, Nat.shiftLeft_eq, Nat.one_mul, Int.one_mul]
 have : 2 ^ n.toNat ≤ 2 ^ 62 := Nat.pow_le_pow_right (by omega) (by omega)
 obtain ⟨y, hy⟩ : ∃ y : Nat, y = 2 ^ n.toNat := ⟨_, rfl⟩
 rw [show ((2 : Int) ^ n.toNat) = ((2 ^ n.toNat : Nat) : Int) by norm_cast, ← hy, wrap_i64 (by omega) (by omega)]
end Go.KH
namespace Go.KH

def decN : Nat → Nat → List UInt8 → Nat × Nat × Nat
 | _, _, [] => (4, 0, 0)
 | i, u, b :: l => if i = 9 ∧ 1 < b.toNat then (3, 0, 0) else if b.toNat < 128 then (if b.toNat = 0 ∧ 0 < i then (3, 0, 0) else (0, u + b.toNat * 2 ^ (7 * i), i + 1)) else decN (i + 1) (u + b.toNat % 128 * 2 ^ (7 * i)) l
def zag (u : Nat) : Int := if u % 2 = 1 then -((u / 2 : Nat) : Int) - 1 else ((u / 2 : Nat) : Int)
theorem zig_zag (u : Nat) : zig (zag u) = u := by
 unfold zig zag
 split <;> split <;> omega
theorem zag_in {u : Nat} (h : u < 18446744073709551616) : -9223372036854775808 ≤ zag u ∧ zag u ≤ 9223372036854775807 := by unfold zag; split <;> omega
theorem u8_of (b : UInt8) : UInt8.ofNat b.toNat = b := by simp
theorem decN_leb : ∀ (l : List UInt8) (i u u' k : Nat), i ≤ 9 → u < 2 ^ (7 * i) → decN i u l = (0, u', k) →
  ∃ v, u' = u + v * 2 ^ (7 * i) ∧ i + (leb v).length = k ∧ leb v <+: l ∧ (0 < i → v ≠ 0) ∧ u' < 18446744073709551616
 | [], i, u, u', k, _, _, h => by simp [decN] at h
 | b :: l, i, u, u', k, hi, hu, h => by
  have hb := b.toNat_lt
  simp only [decN] at h
  split at h
  ·simp at h
  ·rename_i h9
   split at h
   ·rename_i h128
    split at h
    ·simp at h
    ·rename_i h0
     simp only [Prod.mk.injEq, true_and] at h
     obtain ⟨rfl, rfl⟩ := h
     refine ⟨b.toNat, rfl, ?_, ?_, fun h => by omega, ?_⟩
     ·rw [leb_lt h128]; rfl
     ·rw [leb_lt h128, u8_of]; exact ⟨l, rfl⟩
     ·by_cases e : i = 9
      ·subst e
       have : b.toNat ≤ 1 := by omega
       have h1 : b.toNat * 2 ^ (7 * 9) ≤ 1 * 2 ^ (7 * 9) := Nat.mul_le_mul_right _ this
       have h2 : (2 : Nat) ^ (7 * 9) = 9223372036854775808 := by decide
       omega
      ·have h1 : b.toNat * 2 ^ (7 * i) ≤ 127 * 2 ^ (7 * i) := Nat.mul_le_mul_right _ (by omega)
       have h2 : (2 : Nat) ^ (7 * i) ≤ 2 ^ (7 * 8) := Nat.pow_le_pow_right (by decide) (by omega)
       have h3 : (2 : Nat) ^ (7 * 8) = 72057594037927936 := by decide
       omega
   ·rename_i h128
    have hi8 : i ≠ 9 := fun e => h9 ⟨e, by omega⟩
    have hp : (2 : Nat) ^ (7 * (i + 1)) = 128 * 2 ^ (7 * i) := by rw [show 7 * (i + 1) = 7 * i + 7 by omega, Nat.pow_add]; omega
    have hlt : u + b.toNat % 128 * 2 ^ (7 * i) < 2 ^ (7 * (i + 1)) := by
     rw [hp]
     have h1 : b.toNat % 128 * 2 ^ (7 * i) ≤ 127 * 2 ^ (7 * i) := Nat.mul_le_mul_right _ (by omega)
     omega
    obtain ⟨v, hv, hk, hp2, h0, hlt2⟩ := decN_leb l (i + 1) _ u' k (by omega) hlt h
    have hv0 := h0 (by omega)
    have hge : ¬ b.toNat % 128 + 128 * v < 128 := by omega
    refine ⟨b.toNat % 128 + 128 * v, ?_, ?_, ?_, fun _ => by omega, hlt2⟩
    ·rw [hv, hp, Nat.add_mul, Nat.add_assoc]
     congr 2
     rw [Nat.mul_comm 128 v, Nat.mul_assoc]
    ·rw [leb_ge hge, show (b.toNat % 128 + 128 * v) / 128 = v by omega]; simp only [List.length_cons]; omega
    ·rw [leb_ge hge, show (b.toNat % 128 + 128 * v) / 128 = v by omega, show (b.toNat % 128 + 128 * v) % 128 + 128 = b.toNat by omega, u8_of]
     obtain ⟨t, ht⟩ := hp2
     exact ⟨t, by rw [← ht]; rfl⟩
def getN (t : List UInt8) (at_ : Nat) : Int × Nat × Nat := match decN 0 0 (t.drop at_) with | (0, u, k) => (zag u, at_ + k, 0) | (c, _, _) => (0, 0, c)
theorem getN_ok {t : List UInt8} {a e : Nat} {n : Int} (h : getN t a = (n, e, 0)) : t.drop a = putNum n ++ t.drop e ∧ a < e ∧ e ≤ t.length ∧ (-9223372036854775808 ≤ n ∧ n ≤ 9223372036854775807) := by
 unfold getN at h
 split at h
 ·rename_i u k hd
  simp only [Prod.mk.injEq, and_true] at h
  obtain ⟨rfl, rfl⟩ := h
  obtain ⟨v, hv, hk, ⟨r, hr⟩, _, hlt⟩ := decN_leb _ 0 0 u k (by omega) (by decide) hd
  simp only [Nat.mul_zero, Nat.pow_zero, Nat.mul_one, Nat.zero_add] at hv hk
  rw [← hv] at hk hr
  subst hk
  have hl := congrArg List.length hr
  simp only [List.length_append, List.length_drop] at hl
  have hpos : 0 < (leb u).length := by
   by_cases h1 : u < 128
   ·rw [leb_lt h1]; simp
   ·rw [leb_ge h1]; simp
  unfold putNum
  rw [zig_zag]
  refine ⟨?_, by omega, by omega, zag_in hlt⟩
  rw [← List.drop_drop, ← hr]; simp
 ·rename_i hne hd
  simp only [Prod.mk.injEq] at h
  exact (hne h.2.2).elim
theorem getN_bad {t : List UInt8} {a : Nat} (h : (getN t a).2.2 ≠ 0) : getN t a = (0, 0, (getN t a).2.2) := by
 unfold getN at h ⊢
 split at h
 ·simp at h
 ·rfl
def getT (t : List UInt8) (a : Nat) : List UInt8 × Nat × Nat :=
 if (getN t a).2.2 ≠ 0 then ([], 0, (getN t a).2.2) else if ¬ (0 ≤ (getN t a).1 ∧ (getN t a).1 ≤ 8000) then ([], 0, 3) else if t.length < (getN t a).2.1 + (getN t a).1.toNat then ([], 0, 4)
 else ((t.take ((getN t a).2.1 + (getN t a).1.toNat)).drop (getN t a).2.1, (getN t a).2.1 + (getN t a).1.toNat, 0)
theorem getT_ok {t x : List UInt8} {a e : Nat} (h : getT t a = (x, e, 0)) : t.drop a = putText x ++ t.drop e ∧ a < e ∧ e ≤ t.length ∧ x.length ≤ 8000 := by
 unfold getT at h
 split at h
 ·rename_i hc; simp only [Prod.mk.injEq] at h; exact absurd h.2.2 hc
 ·rename_i hc
  split at h
  ·simp at h
  ·rename_i hn
   split at h
   ·simp at h
   ·rename_i hl
    simp only [Prod.mk.injEq, and_true] at h
    obtain ⟨h1, h2⟩ := h
    have hc' : (getN t a).2.2 = 0 := by omega
    have hok := getN_ok (t := t) (a := a) (n := (getN t a).1) (e := (getN t a).2.1) (by rw [← hc'])
    obtain ⟨k1, k2, k3, k4⟩ := hok
    generalize (getN t a).1 = n at *
    generalize (getN t a).2.1 = s at *
    have hxl : x.length = n.toNat := by rw [← h1]; simp; omega
    refine ⟨?_, by omega, by omega, by omega⟩
    rw [k1]
    unfold putText
    rw [List.append_assoc]
    have e1 : ((x.length : Nat) : Int) = n := by omega
    rw [e1, ← h2, ← h1]
    congr 1
    rw [List.drop_take, Nat.add_sub_cancel_left, ← List.drop_drop, List.take_append_drop]
end Go.KH
namespace Go.KH
open Go.RowKit

theorem and127 (b : UInt8) : obin .and (.int .u8 (b.toNat : Int)) (.int .u8 127) = some (.int .u8 ((b.toNat % 128 : Nat) : Int)) := by
 rw [bi_and]
 have key : ∀ b : BitVec 8, (b &&& 127#8).toNat = b.toNat % 128 := by decide
 have e1 : BitVec.ofInt IntKind.u8.bits (b.toNat : Int) = BitVec.ofNat 8 b.toNat := BitVec.ofInt_natCast ..
 rw [e1]
 show some (Value.int .u8 (IntKind.u8.wrap ((BitVec.ofNat 8 b.toNat &&& 127#8).toNat : Int))) = _
 have hb := b.toNat_lt
 rw [key, BitVec.toNat_ofNat, Nat.mod_eq_of_lt (show b.toNat < 2 ^ 8 by omega), wrap_u8n, Nat.mod_eq_of_lt (by omega)]
theorem ofInt_u64n (n : Nat) : BitVec.ofInt IntKind.u64.bits (n : Int) = BitVec.ofNat 64 n := BitVec.ofInt_natCast ..
theorem and1_u64 {u : Nat} (h : u < 18446744073709551616) : obin .and (.int .u64 (u : Int)) (.int .u64 1) = some (.int .u64 ((u % 2 : Nat) : Int)) := by
 rw [bi_and, ofInt_u64n]
 show some (Value.int .u64 (IntKind.u64.wrap ((BitVec.ofNat 64 u &&& BitVec.ofNat 64 1).toNat : Int))) = _
 rw [BitVec.toNat_and, BitVec.toNat_ofNat, BitVec.toNat_ofNat, Nat.mod_eq_of_lt (by omega), Nat.mod_eq_of_lt (by omega), Nat.and_one_is_mod, wrap_u64 (by omega) (by omega)]
theorem shl_u64 {x s : Nat} {k : IntKind} (hs : s ≤ 63) (h : x * 2 ^ s < 18446744073709551616) : obin .shl (.int .u64 (x : Int)) (.int k (s : Int)) = some (.int .u64 ((x * 2 ^ s : Nat) : Int)) := by
 rw [bi_shl, if_neg (by omega)]
 have e : min (s : Int).toNat IntKind.u64.bits = s := by simp [IntKind.bits]; omega
 rw [e]
 obtain ⟨y, hy⟩ : ∃ y : Nat, y = x * 2 ^ s := ⟨_, rfl⟩
 rw [show ((x : Int) * (2 : Int) ^ s) = ((x * 2 ^ s : Nat) : Int) by norm_cast, ← hy]
 rw [← hy] at h
 rw [wrap_u64 (by omega) (by omega)]
theorem or_u64 {a x s : Nat} (ha : a < 2 ^ s) (h : a + x * 2 ^ s < 18446744073709551616) : obin .or (.int .u64 (a : Int)) (.int .u64 ((x * 2 ^ s : Nat) : Int)) = some (.int .u64 ((a + x * 2 ^ s : Nat) : Int)) := by
 rw [bi_or, ofInt_u64n, ofInt_u64n]
 show some (Value.int .u64 (IntKind.u64.wrap ((BitVec.ofNat 64 a ||| BitVec.ofNat 64 (x * 2 ^ s)).toNat : Int))) = _
 have e := Nat.two_pow_add_eq_or_of_lt ha x
 rw [Nat.mul_comm] at e
 obtain ⟨y, hy⟩ : ∃ y : Nat, y = x * 2 ^ s := ⟨_, rfl⟩
 rw [← hy] at e h ⊢
 rw [BitVec.toNat_or, BitVec.toNat_ofNat, BitVec.toNat_ofNat, Nat.mod_eq_of_lt (by omega), Nat.mod_eq_of_lt (by omega), Nat.or_comm, ← e, wrap_u64 (by omega) (by omega), Nat.add_comm]
theorem not_i64 {n : Nat} (h : n < 9223372036854775808) : oun .xor (i64 (n : Int)) = some (i64 (-(n : Int) - 1)) := by
 rw [un_xor, ofInt_i64n]
 show some (Value.int .i64 (IntKind.i64.wrap ((BitVec.allOnes 64 ^^^ BitVec.ofNat 64 n).toNat : Int))) = _
 rw [BitVec.xor_comm, BitVec.xor_allOnes, BitVec.toNat_not, BitVec.toNat_ofNat, Nat.mod_eq_of_lt (by omega)]
 congr 2
 unfold IntKind.wrap
 simp [IntKind.bits, IntKind.signed]
 omega
theorem shr1_u64 (n : Nat) : obin .shr (.int .u64 (n : Int)) (.int .u64 1) = some (.int .u64 ((n / 2 : Nat) : Int)) := by
 have := shr_nat .u64 n 1 (by decide)
 simpa using this
theorem dec_lt {k u x : Nat} (hk : k ≤ 9) (hu : u < 2 ^ (7 * k)) (h : ¬ (k = 9 ∧ 1 < x)) : u + x % 128 * 2 ^ (7 * k) < 18446744073709551616 := by
 by_cases e : k = 9
 ·subst e
  have : x % 128 ≤ 1 := by omega
  have h1 : x % 128 * 2 ^ (7 * 9) ≤ 1 * 2 ^ (7 * 9) := Nat.mul_le_mul_right _ this
  have h2 : (2 : Nat) ^ (7 * 9) = 9223372036854775808 := by decide
  omega
 ·have h1 : x % 128 * 2 ^ (7 * k) ≤ 127 * 2 ^ (7 * k) := Nat.mul_le_mul_right _ (by omega)
  have h2 : (2 : Nat) ^ (7 * k) ≤ 2 ^ (7 * 8) := Nat.pow_le_pow_right (by decide) (by omega)
  have h3 : (2 : Nat) ^ (7 * 8) = 72057594037927936 := by decide
  omega
theorem dec_lt7 {k u x : Nat} (hu : u < 2 ^ (7 * k)) : u + x % 128 * 2 ^ (7 * k) < 2 ^ (7 * (k + 1)) := by
 rw [show 7 * (k + 1) = 7 * k + 7 by omega, Nat.pow_add]
 have h1 : x % 128 * 2 ^ (7 * k) ≤ 127 * 2 ^ (7 * k) := Nat.mul_le_mul_right _ (by omega)
 omega
theorem pow7 {k : Nat} (h : k ≤ 9) : (2 : Nat) ^ (7 * k) ≤ 9223372036854775808 := Nat.le_trans (Nat.pow_le_pow_right (by decide) (show 7 * k ≤ 63 by omega)) (by decide)
end Go.KH
namespace Go.KH
open Go.RowKit

theorem ldc_get {h : H} {b : Nat} {ob : Ob} (hb : h.get b = some ob) (o n : Nat) : ldc h b o n = if o + n ≤ ob.cells.length then some ((ob.cells.drop o).take n) else none := by
 unfold ldc; rw [hb]
theorem stc_get {h : H} {b : Nat} {ob : Ob} (hb : h.get b = some ob) (o n : Nat) (cs : List Value) : stc h b o cs n = if cs.length = n ∧ o + n ≤ ob.cells.length ∧ cs.all Value.oneCell' = true then some (h.set b ⟨splice ob.cells o cs, ob.size⟩) else none := by
 unfold stc; rw [hb]; rfl
def New (h0 : H) (v : Value) : Prop := ∀ b, blk v = some b → h0.get b = none
def Known (h : H) (v : Value) : Prop := ∀ b, blk v = some b → h.get b ≠ none
def Dj (u v : Value) : Prop := ∀ b, blk u = some b → blk v ≠ some b
theorem Dj.symm {u v : Value} (d : Dj u v) : Dj v u := fun b h1 h2 => d b h2 h1
theorem Dj.of {h : H} {u v : Value} (k : Known h u) (n : New h v) : Dj u v := fun b h1 h2 => k b h1 (n b h2)
theorem blk_some {v : Value} {b : Nat} (h : blk v = some b) : ∃ a n c, v = .slice (some a) (n + 1) c ∧ a.block = b := by
 unfold blk at h; split at h
 ·simp only [Option.some.injEq] at h; exact ⟨_, _, _, rfl, h⟩
 ·cases h
theorem Fre.new {h0 h : H} {v : Value} {w : Nat} {rows : List (List Value)} (f : Fre h0 h v w rows) : New h0 v := fun b hb => by
 obtain ⟨a, n, c, rfl, rfl⟩ := blk_some hb
 rcases f with ⟨a', c', e, _⟩ | ⟨b', c', ob, e, _, _, h0b, _⟩
 ·simp only [Value.slice.injEq] at e; omega
 ·simp only [sl, Value.slice.injEq, Option.some.injEq] at e
  rw [e.1]; exact h0b
theorem asR_blk {a : Addr} {n c b o m : Nat} (h : asR (.slice (some a) (n + 1) c) = some (b, o, m)) : a = ⟨b, o, none⟩ := by
 obtain ⟨b', o', sp⟩ := a
 cases sp with
 | none => simp [asR] at h; rw [h.1, h.2.1]
 | some s => simp [asR] at h
theorem Sl.known {h : H} {v : Value} {w : Nat} {rows : List (List Value)} (s : Sl h v w rows) : Known h v := fun b hb => by
 obtain ⟨a, n, c, rfl, rfl⟩ := blk_some hb
 obtain ⟨a', c', b, o, e, hc, h2, h3⟩ := s
 simp only [Value.slice.injEq] at e
 obtain ⟨rfl, e2, rfl⟩ := e
 rw [← e2] at h2
 have := asR_blk h2
 subst this
 have h4 := h3 0 (rows[0]'(by omega)) (by simp)
 intro hn
 unfold ldc at h4
 rw [hn] at h4
 cases h4
theorem Fre.known {h0 h : H} {v : Value} {w : Nat} {rows : List (List Value)} (f : Fre h0 h v w rows) : Known h v := f.sl.known
theorem New.back {h0 h : H} {v : Value} (n : New h v) (e : Ext h0 h) : New h0 v := fun b hb => e.none (n b hb)
theorem Known.ext {h h' : H} {v : Value} (n : Known h v) (e : Ext h h') : Known h' v := fun b hb => by
 cases hc : h.get b with
 | none => exact absurd hc (n b hb)
 | some ob => rw [e.2.g _ _ hc]; simp
theorem Sl.shape {h : H} {v : Value} {w : Nat} {rows : List (List Value)} (s : Sl h v w rows) : ∃ a c, v = .slice a rows.length c := by obtain ⟨a, c, b, o, rfl, _⟩ := s; exact ⟨a, c, rfl⟩
theorem Sl.one {h : H} {v : Value} {w : Nat} {rows : List (List Value)} (s : Sl h v w rows) : v.oneCell' = true := by obtain ⟨a, c, b, o, rfl, _⟩ := s; rfl
theorem Sl.vcl {h : H} {v : Value} {w : Nat} {rows : List (List Value)} (s : Sl h v w rows) : vcl v = [v] := by obtain ⟨a, c, b, o, rfl, _⟩ := s; rfl
theorem Fre.shape {h0 h : H} {v : Value} {w : Nat} {rows : List (List Value)} (f : Fre h0 h v w rows) : ∃ a c, v = .slice a rows.length c := f.sl.shape
theorem asR_none {n c : Nat} {x : Nat × Nat × Nat} (h : asR (.slice none n c) = some x) : n = 0 := by
 cases n with
 | zero => rfl
 | succ n => simp [asR] at h
theorem Sl.none {h : H} {c n w : Nat} {rows : List (List Value)} (hv : Sl h (.slice none n c) w rows) : rows = [] := by
 obtain ⟨a, c', b, o, e, hcap, h2, h3⟩ := hv
 rw [e] at h2
 simp only [Value.slice.injEq] at e
 obtain ⟨rfl, _, _⟩ := e
 exact List.length_eq_zero_iff.1 (asR_none h2)
def Keep (S : Nat → Prop) (h h' : H) : Prop := h'.base = h.base ∧ (∀ b ob, ¬ S b → h.get b = some ob → h'.get b = some ob) ∧ (∀ b l, h.mp b = some l → h'.mp b = some l) ∧ ∀ b, h.get b ≠ none → h'.get b ≠ none
theorem Keep.refl (S : Nat → Prop) (h : H) : Keep S h h := ⟨rfl, fun _ _ _ e => e, fun _ _ e => e, fun _ e => e⟩
theorem Keep.trans {S : Nat → Prop} {a b c : H} (h : Keep S a b) (k : Keep S b c) : Keep S a c := ⟨k.1.trans h.1, fun x y n e => k.2.1 x y n (h.2.1 x y n e), fun x y e => k.2.2.1 x y (h.2.2.1 x y e), fun x e => k.2.2.2 x (h.2.2.2 x e)⟩
theorem Keep.mono {S T : Nat → Prop} {a b : H} (h : Keep S a b) (st : ∀ x, S x → T x) : Keep T a b := ⟨h.1, fun x y n e => h.2.1 x y (fun s => n (st x s)) e, h.2.2⟩
theorem Ext.keep {h h' : H} (e : Ext h h') (S : Nat → Prop) : Keep S h h' := ⟨e.1, fun b ob _ hb => e.2.g b ob hb, e.2.m, fun b hb => by
  cases hc : h.get b with
  | none => exact absurd hc hb
  | some ob => rw [e.2.g _ _ hc]; simp⟩
theorem Keep.set {S : Nat → Prop} {h h' : H} (k : Keep S h h') {b : Nat} (hb : S b ∨ h.get b = none) (ob : Ob) : Keep S h (h'.set b ob) :=
 ⟨k.1, fun c oc n hc => by
  rw [H.set_get]
  split
  ·rename_i e; subst e
   rcases hb with hb | hb
   ·exact absurd hb n
   ·rw [hb] at hc; cases hc
  ·exact k.2.1 c oc n hc, k.2.2.1, fun c hc => by
  rw [H.set_get]
  split
  ·simp
  ·exact k.2.2.2 c hc⟩
theorem Keep.ext {S : Nat → Prop} {h0 h h' : H} (e : Ext h0 h) (k : Keep S h h') (hS : ∀ b, S b → h0.get b = none) : Ext h0 h' :=
 ⟨k.1.trans e.1, fun b ob hb => k.2.1 b ob (fun s => by rw [hS b s] at hb; cases hb) (e.2.g b ob hb), fun b l hl => k.2.2.1 b l (e.2.m b l hl)⟩
def blks (vs : List Value) (b : Nat) : Prop := ∃ v ∈ vs, blk v = some b
theorem Sl.keep {S : Nat → Prop} {h h' : H} {v : Value} {w : Nat} {rows : List (List Value)} (s : Sl h v w rows) (k : Keep S h h') (hS : ∀ b, blk v = some b → ¬ S b) : Sl h' v w rows := by
 obtain ⟨a, c, b, o, rfl, hc, h2, h3⟩ := s
 refine ⟨a, c, b, o, rfl, hc, h2, fun i r hr => ?_⟩
 have hi : i < rows.length := (List.getElem?_eq_some_iff.1 hr).1
 cases a with
 | none =>
  obtain ⟨n, hn⟩ : ∃ n, rows.length = n + 1 := ⟨rows.length - 1, by omega⟩
  rw [hn] at h2
  simp [asR] at h2
 | some a =>
  obtain ⟨n, hn⟩ : ∃ n, rows.length = n + 1 := ⟨rows.length - 1, by omega⟩
  rw [hn] at h2
  have := asR_blk h2
  subst this
  have h4 := h3 i r hr
  unfold ldc at h4 ⊢
  cases hg : h.get b with
  | none => rw [hg] at h4; cases h4
  | some ob => rw [k.2.1 b ob (hS b (by rw [hn]; rfl)) hg]; rw [hg] at h4; exact h4
theorem Fre.keep {S : Nat → Prop} {h0 h h' : H} {v : Value} {w : Nat} {rows : List (List Value)} (s : Fre h0 h v w rows) (k : Keep S h h') (hS : ∀ b, blk v = some b → ¬ S b) : Fre h0 h' v w rows := by
 rcases s with s | ⟨b, c, ob, rfl, hlc, hb, h0b, hg, hp, hw⟩
 ·exact .inl s
 ·cases hr : rows with
  | nil => exact .inl ⟨some ⟨b, 0, none⟩, c, by simp [sl], rfl⟩
  | cons r rs => rw [← hr]; exact .inr ⟨b, c, ob, rfl, hlc, by rw [k.1]; exact hb, h0b, k.2.1 b ob (hS b (by rw [hr]; rfl)) hg, hp, hw⟩
theorem Fre.set {h0 h : H} {v : Value} {w : Nat} {rows : List (List Value)} (s : Fre h0 h v w rows) {b : Nat} {x : Ob} (hb : h0.get b = some x) (ob : Ob) : Fre h0 (h.set b ob) v w rows := by
 rcases s with s | ⟨b', c, ob', rfl, hlc, hb', h0b, hg, hp, hw⟩
 ·exact .inl s
 ·refine .inr ⟨b', c, ob', rfl, hlc, hb', h0b, ?_, hp, hw⟩
  rw [H.set_get_ne _ _ _ _ (fun e => by rw [← e, h0b] at hb; cases hb)]; exact hg
theorem Sl.set {h : H} {v : Value} {w : Nat} {rows : List (List Value)} (s : Sl h v w rows) {b : Nat} (hn : ∀ c, blk v = some c → c ≠ b) (ob : Ob) : Sl (h.set b ob) v w rows :=
 s.keep ((Keep.refl (fun c => c = b) h).set (.inl rfl) ob) hn

theorem H.set_id {h : H} {b : Nat} {ob : Ob} (hb : h.get b = some ob) : h.set b ob = h := by
 obtain ⟨x, g, m⟩ := h
 simp only at hb
 simp only [H.set, H.mk.injEq, true_and, and_true]
 funext d
 split
 ·rename_i e; subst e; exact hb.symm
 ·rfl

theorem set_over {h : H} {b c : Nat} {x y z : Ob} (hn : c ≠ b) : ((h.set b x).set c y).set b z = (h.set b z).set c y := by
 rw [H.set_comm _ _ _ hn, H.set_set, H.set_comm _ _ _ hn.symm]

def NewL (h : H) (cs : List Value) : Prop := ∀ v ∈ cs, New h v
def KnownL (h : H) (cs : List Value) : Prop := ∀ v ∈ cs, Known h v
def DjL (cs ds : List Value) : Prop := ∀ u ∈ cs, ∀ v ∈ ds, Dj u v
theorem DjL.of {h : H} {cs ds : List Value} (k : KnownL h cs) (n : NewL h ds) : DjL cs ds := fun u hu v hv => Dj.of (k u hu) (n v hv)
theorem DjL.symm {cs ds : List Value} (d : DjL cs ds) : DjL ds cs := fun u hu v hv => (d v hv u hu).symm
theorem NewL.back {h0 h : H} {cs : List Value} (n : NewL h cs) (e : Ext h0 h) : NewL h0 cs := fun v hv => (n v hv).back e
theorem KnownL.ext {h h' : H} {cs : List Value} (n : KnownL h cs) (e : Ext h h') : KnownL h' cs := fun v hv => (n v hv).ext e
theorem KnownL.keep {S : Nat → Prop} {h h' : H} {cs : List Value} (n : KnownL h cs) (k : Keep S h h') : KnownL h' cs := fun v hv b hb => k.2.2.2 b (n v hv b hb)
theorem DjL.not {cs ds : List Value} (d : DjL cs ds) {v : Value} (hv : v ∈ cs) : ∀ b, blk v = some b → ¬ blks ds b := fun b hb ⟨u, hu, hb'⟩ => d v hv u hu b hb hb'
theorem KnownL.ne {h : H} {cs : List Value} (n : KnownL h cs) {b : Nat} (hb : h.get b = none) : ¬ blks cs b := fun ⟨v, hv, e⟩ => n v hv b e hb
theorem NewL.ne {h : H} {cs : List Value} (n : NewL h cs) {b : Nat} {ob : Ob} (hb : h.get b = some ob) : ¬ blks cs b := fun ⟨v, hv, e⟩ => by rw [n v hv b e] at hb; cases hb
theorem New.of_none {h : H} {v : Value} (e : blk v = none) : New h v := fun b hb => by rw [e] at hb; cases hb
theorem Known.of_none {h : H} {v : Value} (e : blk v = none) : Known h v := fun b hb => by rw [e] at hb; cases hb
theorem take_len {α : Type} {l : List α} {n : Nat} (h : l.length = n) : l.take n = l := List.take_of_length_le (by omega)

theorem src0 {h : H} {b w : Nat} {v : Value} {rows : List (List Value)} (hn : h.get b = none) (hv : Sl h v w rows) (hw : Wid w rows) (hw0 : w ≠ 0) : srcOf (h.set b ⟨[], 0⟩) w v = some (rows.length, rows.flatten) :=
 (hv.ext ((Ext.refl h).set hn _)).src hw hw0
theorem app0 {h : H} {K : Value → H → Prop} {w by_ b : Nat} {rows : List (List Value)} {q : Nat × List Value} (hb : h.base ≤ b) (hn : h.get b = none) (hq : q = (rows.length, rows.flatten)) (hw : Wid w rows)
  (h1 : rows.flatten.all Value.oneCell' = true) (hbd : rows.length * by_ ≤ 70368744177664) (hK : ∀ v' h', Ext h h' → Own h h' v' w rows → K v' h') : appW (h.set b ⟨[], 0⟩) w by_ (some ⟨b, 0, none⟩, 0, 0) q K :=
 appW_own (rows := []) (new := rows) ((Ext.refl h).set hn _) (.inr ⟨b, 0, 0, rfl, Nat.le_refl _, hb, hn, H.set_get_same _ _ _, by simp, Wid.nil w⟩) hq hw h1 (by simpa using hbd) fun v' h' e o _ => hK v' h' e (by simpa using o)

def mks (g : Int → List Value) (f : Nat) (k0 : Int) (n : Nat) : List (List Value) := (List.range n).map fun i => g (k0 + (f * i : Nat))
theorem splice_app (A B r : List Value) (j : Nat) {m : Nat} (hm : m = A.length + j) : splice (A ++ B) m r = A ++ splice B j r := by
 subst hm
 unfold splice
 rw [List.take_append, List.take_of_length_le (by omega), List.drop_append, List.drop_of_length_le (by omega), Nat.add_sub_cancel_left, show A.length + j + r.length - A.length = j + r.length by omega]
 simp
section
variable {P : Program}
abbrev gInt (k : Int) : List Value := [i64 k]
end
end Go.KH
namespace Go.KH
open Go.RowKit

inductive Sp where
 | v (x : Value)
 | s (w : Nat) (rows : List (List Value))
def Sp.r (h : H) : Sp → Value → Prop
 | .v x, c => c = x ∧ blk x = none ∧ x.oneCell' = true
 | .s w rows, c => Sl h c w rows
def Sp.f (h0 h : H) : Sp → Value → Prop
 | .v x, c => c = x ∧ blk x = none ∧ x.oneCell' = true
 | .s w rows, c => Fre h0 h c w rows
def RepR (h : H) : List Sp → List Value → Prop
 | [], [] => True
 | s :: ss, c :: cs => s.r h c ∧ RepR h ss cs
 | _, _ => False
def RepF (h0 h : H) : List Sp → List Value → Prop
 | [], [] => True
 | s :: ss, c :: cs => s.f h0 h c ∧ (∀ d ∈ cs, Dj c d) ∧ RepF h0 h ss cs
 | _, _ => False
theorem RepR_nil {h : H} {cs : List Value} : RepR h [] cs ↔ cs = [] := by cases cs <;> simp [RepR]
theorem RepR_cons {h : H} {s : Sp} {ss : List Sp} {cs : List Value} : RepR h (s :: ss) cs ↔ ∃ c cs', cs = c :: cs' ∧ s.r h c ∧ RepR h ss cs' := by
 cases cs with
 | nil => simp [RepR]
 | cons c cs => exact ⟨fun h => ⟨c, cs, rfl, h.1, h.2⟩, fun ⟨c', cs', e, h1, h2⟩ => by simp only [List.cons.injEq] at e; obtain ⟨rfl, rfl⟩ := e; exact ⟨h1, h2⟩⟩
theorem RepF_nil {h0 h : H} {cs : List Value} : RepF h0 h [] cs ↔ cs = [] := by cases cs <;> simp [RepF]
theorem RepF_cons {h0 h : H} {s : Sp} {ss : List Sp} {cs : List Value} : RepF h0 h (s :: ss) cs ↔ ∃ c cs', cs = c :: cs' ∧ s.f h0 h c ∧ (∀ d ∈ cs', Dj c d) ∧ RepF h0 h ss cs' := by
 cases cs with
 | nil => simp [RepF]
 | cons c cs => exact ⟨fun h => ⟨c, cs, rfl, h.1, h.2.1, h.2.2⟩, fun ⟨c', cs', e, h1, h2, h3⟩ => by simp only [List.cons.injEq] at e; obtain ⟨rfl, rfl⟩ := e; exact ⟨h1, h2, h3⟩⟩
theorem RepR_v {h : H} {x : Value} {ss : List Sp} {cs : List Value} (h1 : blk x = none) (h2 : x.oneCell' = true) : RepR h (.v x :: ss) cs ↔ ∃ cs', cs = x :: cs' ∧ RepR h ss cs' := by
 rw [RepR_cons]
 constructor
 ·rintro ⟨c, cs', rfl, ⟨rfl, _, _⟩, r⟩; exact ⟨cs', rfl, r⟩
 ·rintro ⟨cs', rfl, r⟩; exact ⟨_, _, rfl, ⟨rfl, h1, h2⟩, r⟩
theorem RepR_i {h : H} {k : IntKind} {n : Int} {ss : List Sp} {cs : List Value} : RepR h (.v (.int k n) :: ss) cs ↔ ∃ cs', cs = .int k n :: cs' ∧ RepR h ss cs' := RepR_v rfl rfl
theorem RepR_s {h : H} {w : Nat} {rows : List (List Value)} {ss : List Sp} {cs : List Value} : RepR h (.s w rows :: ss) cs ↔ ∃ v cs', cs = v :: cs' ∧ Sl h v w rows ∧ RepR h ss cs' := RepR_cons
theorem Dj.nb {u v : Value} (h : blk v = none) : Dj u v := fun b _ e => by rw [h] at e; cases e
theorem Dj.bn {u v : Value} (h : blk u = none) : Dj u v := fun b e _ => by rw [h] at e; cases e
theorem RepF_v {h0 h : H} {x : Value} {ss : List Sp} {cs : List Value} (h1 : blk x = none) (h2 : x.oneCell' = true) : RepF h0 h (.v x :: ss) cs ↔ ∃ cs', cs = x :: cs' ∧ RepF h0 h ss cs' := by
 rw [RepF_cons]
 constructor
 ·rintro ⟨c, cs', rfl, ⟨rfl, _, _⟩, _, r⟩; exact ⟨cs', rfl, r⟩
 ·rintro ⟨cs', rfl, r⟩; exact ⟨_, _, rfl, ⟨rfl, h1, h2⟩, fun d _ => Dj.bn h1, r⟩
theorem RepF_i {h0 h : H} {k : IntKind} {n : Int} {ss : List Sp} {cs : List Value} : RepF h0 h (.v (.int k n) :: ss) cs ↔ ∃ cs', cs = .int k n :: cs' ∧ RepF h0 h ss cs' := RepF_v rfl rfl
theorem RepF_str {h0 h : H} {l : List UInt8} {ss : List Sp} {cs : List Value} : RepF h0 h (.v (str l) :: ss) cs ↔ ∃ cs', cs = str l :: cs' ∧ RepF h0 h ss cs' := RepF_v rfl rfl
theorem RepF_s {h0 h : H} {w : Nat} {rows : List (List Value)} {ss : List Sp} {cs : List Value} : RepF h0 h (.s w rows :: ss) cs ↔ ∃ v cs', cs = v :: cs' ∧ Fre h0 h v w rows ∧ (∀ d ∈ cs', Dj v d) ∧ RepF h0 h ss cs' := RepF_cons
theorem Sp.f.r {h0 h : H} : ∀ {s : Sp} {c : Value}, s.f h0 h c → s.r h c
 | .v _, _, k => k
 | .s _ _, _, k => Fre.sl k
theorem Sp.r.ext {h h' : H} (e : Ext h h') : ∀ {s : Sp} {c : Value}, s.r h c → s.r h' c
 | .v _, _, k => k
 | .s _ _, _, k => Sl.ext k e
theorem Sp.f.ext {h0 h h' : H} (e : Ext h h') : ∀ {s : Sp} {c : Value}, s.f h0 h c → s.f h0 h' c
 | .v _, _, k => k
 | .s _ _, _, k => Fre.ext k e
theorem Sp.f.back {h0 h1 h : H} (e : Ext h0 h1) : ∀ {s : Sp} {c : Value}, s.f h1 h c → s.f h0 h c
 | .v _, _, k => k
 | .s _ _, _, k => Fre.back k e
theorem Sp.r.one {h : H} : ∀ {s : Sp} {c : Value}, s.r h c → c.oneCell' = true
 | .v _, _, k => by rw [k.1]; exact k.2.2
 | .s _ _, _, k => Sl.one k
theorem Sp.r.known {h : H} : ∀ {s : Sp} {c : Value}, s.r h c → Known h c
 | .v _, _, k => Known.of_none (by rw [k.1]; exact k.2.1)
 | .s _ _, _, k => Sl.known k
theorem Sp.f.new {h0 h : H} : ∀ {s : Sp} {c : Value}, s.f h0 h c → New h0 c
 | .v _, _, k => New.of_none (by rw [k.1]; exact k.2.1)
 | .s _ _, _, k => Fre.new k
theorem Sp.r.keep {S : Nat → Prop} {h h' : H} (k : Keep S h h') : ∀ {s : Sp} {c : Value}, (∀ b, blk c = some b → ¬ S b) → s.r h c → s.r h' c
 | .v _, _, _, q => q
 | .s _ _, _, n, q => Sl.keep q k n
theorem Sp.f.keep {S : Nat → Prop} {h0 h h' : H} (k : Keep S h h') : ∀ {s : Sp} {c : Value}, (∀ b, blk c = some b → ¬ S b) → s.f h0 h c → s.f h0 h' c
 | .v _, _, _, q => q
 | .s _ _, _, n, q => Fre.keep q k n
theorem Sp.f.set {h0 h : H} {b : Nat} {x : Ob} (hb : h0.get b = some x) (ob : Ob) : ∀ {s : Sp} {c : Value}, s.f h0 h c → s.f h0 (h.set b ob) c
 | .v _, _, k => k
 | .s _ _, _, k => Fre.set k hb ob
theorem RepF.r {h0 h : H} : ∀ {ss : List Sp} {cs : List Value}, RepF h0 h ss cs → RepR h ss cs
 | [], [], _ => trivial
 | _ :: _, _ :: _, k => ⟨k.1.r, RepF.r k.2.2⟩
 | [], _ :: _, k => k.elim
 | _ :: _, [], k => k.elim
theorem RepR.ext {h h' : H} : ∀ {ss : List Sp} {cs : List Value}, RepR h ss cs → Ext h h' → RepR h' ss cs
 | [], [], _, _ => trivial
 | _ :: _, _ :: _, k, e => ⟨k.1.ext e, RepR.ext k.2 e⟩
 | [], _ :: _, k, _ => k.elim
 | _ :: _, [], k, _ => k.elim
theorem RepF.ext {h0 h h' : H} : ∀ {ss : List Sp} {cs : List Value}, RepF h0 h ss cs → Ext h h' → RepF h0 h' ss cs
 | [], [], _, _ => trivial
 | _ :: _, _ :: _, k, e => ⟨k.1.ext e, k.2.1, RepF.ext k.2.2 e⟩
 | [], _ :: _, k, _ => k.elim
 | _ :: _, [], k, _ => k.elim
theorem RepF.back {h0 h1 h : H} : ∀ {ss : List Sp} {cs : List Value}, RepF h1 h ss cs → Ext h0 h1 → RepF h0 h ss cs
 | [], [], _, _ => trivial
 | _ :: _, _ :: _, k, e => ⟨k.1.back e, k.2.1, RepF.back k.2.2 e⟩
 | [], _ :: _, k, _ => k.elim
 | _ :: _, [], k, _ => k.elim
theorem RepF.set {h0 h : H} {b : Nat} {x : Ob} : ∀ {ss : List Sp} {cs : List Value}, RepF h0 h ss cs → h0.get b = some x → (ob : Ob) → RepF h0 (h.set b ob) ss cs
 | [], [], _, _, _ => trivial
 | _ :: _, _ :: _, k, hb, ob => ⟨k.1.set hb ob, k.2.1, RepF.set k.2.2 hb ob⟩
 | [], _ :: _, k, _, _ => k.elim
 | _ :: _, [], k, _, _ => k.elim
theorem RepR.len {h : H} : ∀ {ss : List Sp} {cs : List Value}, RepR h ss cs → cs.length = ss.length
 | [], [], _ => rfl
 | _ :: _, _ :: _, k => by simp [RepR.len k.2]
 | [], _ :: _, k => k.elim
 | _ :: _, [], k => k.elim
theorem RepR.one {h : H} : ∀ {ss : List Sp} {cs : List Value}, RepR h ss cs → cs.all Value.oneCell' = true
 | [], [], _ => rfl
 | _ :: _, _ :: _, k => by rw [List.all_cons, k.1.one, RepR.one k.2]; rfl
 | [], _ :: _, k => k.elim
 | _ :: _, [], k => k.elim
theorem RepR.known {h : H} : ∀ {ss : List Sp} {cs : List Value}, RepR h ss cs → KnownL h cs
 | [], [], _ => fun v hv => by cases hv
 | _ :: _, c :: cs, k => fun v hv => by
  rcases List.mem_cons.1 hv with rfl | hv
  ·exact k.1.known
  ·exact RepR.known k.2 v hv
 | [], _ :: _, k => k.elim
 | _ :: _, [], k => k.elim
theorem RepF.new {h0 h : H} : ∀ {ss : List Sp} {cs : List Value}, RepF h0 h ss cs → NewL h0 cs
 | [], [], _ => fun v hv => by cases hv
 | _ :: _, c :: cs, k => fun v hv => by
  rcases List.mem_cons.1 hv with rfl | hv
  ·exact k.1.new
  ·exact RepF.new k.2.2 v hv
 | [], _ :: _, k => k.elim
 | _ :: _, [], k => k.elim
theorem RepR.keep {h h' : H} {ds : List Value} : ∀ {ss : List Sp} {cs : List Value}, RepR h ss cs → Keep (blks ds) h h' → DjL cs ds → RepR h' ss cs
 | [], [], _, _, _ => trivial
 | _ :: _, c :: cs, k, e, d => ⟨k.1.keep e (d.not (List.mem_cons_self ..)), RepR.keep k.2 e fun u hu => d u (List.mem_cons_of_mem _ hu)⟩
 | [], _ :: _, k, _, _ => k.elim
 | _ :: _, [], k, _, _ => k.elim
theorem RepF.keep {h0 h h' : H} {ds : List Value} : ∀ {ss : List Sp} {cs : List Value}, RepF h0 h ss cs → Keep (blks ds) h h' → DjL cs ds → RepF h0 h' ss cs
 | [], [], _, _, _ => trivial
 | _ :: _, c :: cs, k, e, d => ⟨k.1.keep e (d.not (List.mem_cons_self ..)), k.2.1, RepF.keep k.2.2 e fun u hu => d u (List.mem_cons_of_mem _ hu)⟩
 | [], _ :: _, k, _, _ => k.elim
 | _ :: _, [], k, _, _ => k.elim
end Go.KH
namespace Go.KH
open Go.RowKit

def KeepM (S M : Nat → Prop) (h h' : H) : Prop := h'.base = h.base ∧ (∀ b ob, ¬ S b → h.get b = some ob → h'.get b = some ob) ∧ (∀ b l, ¬ M b → h.mp b = some l → h'.mp b = some l) ∧ ∀ b, h.get b ≠ none → h'.get b ≠ none
theorem KeepM.refl (S M : Nat → Prop) (h : H) : KeepM S M h h := ⟨rfl, fun _ _ _ e => e, fun _ _ _ e => e, fun _ e => e⟩
theorem KeepM.trans {S M : Nat → Prop} {a b c : H} (h : KeepM S M a b) (k : KeepM S M b c) : KeepM S M a c := ⟨k.1.trans h.1, fun x y n e => k.2.1 x y n (h.2.1 x y n e), fun x y n e => k.2.2.1 x y n (h.2.2.1 x y n e), fun x e => k.2.2.2 x (h.2.2.2 x e)⟩
theorem KeepM.of_ext {S M : Nat → Prop} {h h' : H} (e : Ext h h') : KeepM S M h h' := ⟨e.1, fun b ob _ hb => e.2.g b ob hb, fun b l _ hb => e.2.m b l hb, fun b hb => by
 cases hq : h.get b with
 | none => exact absurd hq hb
 | some ob => rw [e.2.g b ob hq]; simp⟩
theorem KeepM.set {S M : Nat → Prop} {h h' : H} (k : KeepM S M h h') {b : Nat} (hb : S b ∨ h.get b = none) (ob : Ob) : KeepM S M h (h'.set b ob) :=
 ⟨k.1, fun c oc hc hg => by
  by_cases e : c = b
  ·subst e
   rcases hb with hb | hb
   ·exact absurd hb hc
   ·rw [hb] at hg; cases hg
  ·rw [H.set_get_ne _ _ _ _ e]; exact k.2.1 c oc hc hg, fun c l hc hl => k.2.2.1 c l hc hl, fun c hc => by
  by_cases e : c = b
  ·subst e; rw [H.set_get_same]; simp
  ·rw [H.set_get_ne _ _ _ _ e]; exact k.2.2.2 c hc⟩
theorem KeepM.setm {S M : Nat → Prop} {h h' : H} (k : KeepM S M h h') {b : Nat} (hb : M b) (l : List (Value × Value)) : KeepM S M h (h'.setm b l) :=
 ⟨k.1, fun c oc hc hg => k.2.1 c oc hc hg, fun c l' hc hl => by
  rw [H.setm_mp]
  split
  ·rename_i e; subst e; exact absurd hb hc
  ·exact k.2.2.1 c l' hc hl, fun c hc => k.2.2.2 c hc⟩
theorem KeepM.ext {S M : Nat → Prop} {h0 h h' : H} (e : Ext h0 h) (k : KeepM S M h h') (hS : ∀ b, S b → h0.get b = none) (hM : ∀ b, M b → h0.mp b = none) : Ext h0 h' :=
 ⟨k.1.trans e.1, fun b ob hb => k.2.1 b ob (fun hs => by rw [hS b hs] at hb; cases hb) (e.2.g b ob hb), fun b l hb => k.2.2.1 b l (fun hs => by rw [hM b hs] at hb; cases hb) (e.2.m b l hb)⟩
theorem KeepM.none {S M : Nat → Prop} {h h' : H} (k : KeepM S M h h') {b : Nat} (hn : h'.get b = none) : h.get b = none := by
 cases hq : h.get b with
 | none => rfl
 | some ob => exact absurd hn (k.2.2.2 b (by rw [hq]; simp))
theorem KeepM.ldc {S M : Nat → Prop} {h h' : H} (k : KeepM S M h h') {b o n : Nat} {cs : List Value} (hS : ¬ S b) (hl : KH.ldc h b o n = some cs) : KH.ldc h' b o n = some cs := by
 unfold KH.ldc at hl ⊢
 cases hb : h.get b with
 | none => rw [hb] at hl; cases hl
 | some ob => rw [k.2.1 b ob hS hb]; rw [hb] at hl; exact hl
theorem KeepM.sl {S M : Nat → Prop} {h h' : H} (k : KeepM S M h h') {v : Value} {w : Nat} {rows : List (List Value)} (s : Sl h v w rows) (hS : ∀ b, blk v = some b → ¬ S b) : Sl h' v w rows :=
 s.keep (S := S) (h' := { h' with mp := fun c => match h.mp c with | some l => some l | .none => h'.mp c }) ⟨k.1, k.2.1, fun b l hb => by simp [hb], k.2.2.2⟩ hS
theorem appW_keep {h0 h : H} {K : Value → H → Prop} {w by_ n c : Nat} {a : Option Addr} {q : Nat × List Value} {rows new : List (List Value)} (e : ∀ b, h.get b = none → h0.get b = none) (o : Own h0 h (.slice a n c) w rows)
  (hq : q = (new.length, new.flatten)) (hw : Wid w new) (h1 : new.flatten.all Value.oneCell' = true) (hb : (rows.length + new.length) * by_ ≤ 70368744177664)
  (hK : ∀ v' h', KeepM (fun x => h0.get x = none) (fun _ => False) h h' → Own h0 h' v' w (rows ++ new) → K v' h') : appW h w by_ (a, n, c) q K := by
 subst hq
 unfold appW
 rcases o with ⟨hv, rfl⟩ | ⟨b, c', z, hv, hlc, hbb, h0b, hg, hcz, hww⟩
 ·simp only [nils, Value.slice.injEq] at hv
  obtain ⟨rfl, rfl, rfl⟩ := hv
  refine ⟨by simpa using hb, h1, by rw [flat_length hw], rfl, ?_⟩
  by_cases hn : new.length = 0
  ·have : new = [] := List.length_eq_zero_iff.1 hn
   subst this
   simp only [List.length_nil, if_true]
   exact hK nils h (KeepM.refl _ _ _) (.inl ⟨rfl, rfl⟩)
  ·rw [if_neg hn]
   intro b hb1 hb2 c hc
   exact hK _ _ ((KeepM.refl _ _ h).set (.inr hb2) _) (.inr ⟨b, c, c * w, by simp, by simpa using hc, hb1, e b hb2, by simp, Nat.le_refl _, by simpa using hw⟩)
 ·simp only [sl, Value.slice.injEq] at hv
  obtain ⟨rfl, rfl, rfl⟩ := hv
  refine ⟨hb, h1, by rw [flat_length hw], rfl, hbb, ⟨⟨rows.flatten, z⟩, hg, hcz, .inl ⟨by rw [flat_length hww], ?_⟩⟩⟩
  intro b' c' z' hb' hbase hc hz
  have hn : h0.get b' = none := by
   rcases hb' with rfl | hb'
   ·exact h0b
   ·exact e b' hb'
  exact hK _ _ ((KeepM.refl _ _ h).set (.inl hn) _) (.inr ⟨b', c', z', by simp, by simpa using hc, hbase, hn, by simp, hz, hww.append hw⟩)
theorem Sl.of_get {h : H} {b c z w : Nat} {rows : List (List Value)} (hg : h.get b = some ⟨rows.flatten, z⟩) (hc : rows.length ≤ c) (hw : Wid w rows) : Sl h (sl b 0 rows.length c) w rows := by
 refine ⟨_, c, b, 0, rfl, hc, rfl, ?_⟩
 intro i r hr
 obtain ⟨hi, rfl⟩ := List.getElem?_eq_some_iff.1 hr
 rw [Nat.zero_add]
 exact ldc_pre hg (List.prefix_refl _) hw hi
theorem Own.set0 {h0 h : H} {v : Value} {w : Nat} {rows : List (List Value)} (o : Own h0 h v w rows) {b : Nat} (hb : h0.get b ≠ none) (ob : Ob) : Own h0 (h.set b ob) v w rows := by
 rcases o with o | ⟨b', c, z, rfl, hlc, hb', h0b, hg, hp, hw⟩
 ·exact .inl o
 ·exact .inr ⟨b', c, z, rfl, hlc, hb', h0b, by rw [H.set_get_ne _ _ _ _ (fun e => hb (by rw [← e]; exact h0b))]; exact hg, hp, hw⟩
theorem Own.setm {h0 h : H} {v : Value} {w : Nat} {rows : List (List Value)} (o : Own h0 h v w rows) (b : Nat) (l : List (Value × Value)) : Own h0 (h.setm b l) v w rows := o
theorem none_set {hB h : H} (e : ∀ b, h.get b = none → hB.get b = none) (c : Nat) (ob : Ob) : ∀ b, (h.set c ob).get b = none → hB.get b = none := fun b hb => by
 by_cases hc : b = c
 ·subst hc; rw [H.set_get_same] at hb; cases hb
 ·rw [H.set_get_ne _ _ _ _ hc] at hb; exact e b hb
theorem Sl.of_pre {h : H} {b c w : Nat} {ob : Ob} {rows : List (List Value)} (hg : h.get b = some ob) (hp : rows.flatten <+: ob.cells) (hc : rows.length ≤ c) (hw : Wid w rows) : Sl h (sl b 0 rows.length c) w rows := by
 refine ⟨_, c, b, 0, rfl, hc, rfl, ?_⟩
 intro i r hr
 obtain ⟨hi, rfl⟩ := List.getElem?_eq_some_iff.1 hr
 rw [Nat.zero_add]
 exact ldc_pre hg hp hw hi
theorem Ext.setm' {h h' : H} (e : Ext h h') {b : Nat} (hn : h.mp b = .none) (l : List (Value × Value)) : Ext h (h'.setm b l) :=
 ⟨e.1, fun c ob hc => e.2.g c ob hc, fun c l' hc => by
  rw [H.setm_mp]
  split
  ·rename_i q; subst q; rw [hn] at hc; cases hc
  ·exact e.2.m c l' hc⟩
theorem Ext.mnone {h h' : H} (e : Ext h h') {b : Nat} (hn : h'.mp b = .none) : h.mp b = .none := by
 cases hq : h.mp b with
 | none => rfl
 | some l => rw [e.2.m b l hq] at hn; cases hn
theorem Keep.own {S : Nat → Prop} {h0 h h' : H} (k : Keep S h0 h) (m : KeepM (fun x => h0.get x = none) (fun _ => False) h h') : Keep S h0 h' :=
 ⟨m.1.trans k.1, fun b ob hb hg => m.2.1 b ob (by show ¬ h0.get b = none; rw [hg]; simp) (k.2.1 b ob hb hg), fun b l hb => m.2.2.1 b l (fun h => h.elim) (k.2.2.1 b l hb), fun b hb => m.2.2.2 b (k.2.2.2 b hb)⟩
theorem Keep.nones {S : Nat → Prop} {h0 h : H} (k : Keep S h0 h) : ∀ b, h.get b = none → h0.get b = none := fun b hb => by
 cases hq : h0.get b with
 | none => rfl
 | some ob => exact absurd hb (k.2.2.2 b (by rw [hq]; simp))
theorem Own.keepS {S : Nat → Prop} {h0 h h' : H} {v : Value} {w : Nat} {rows : List (List Value)} (o : Own h0 h v w rows) (k : Keep S h h') (hS : ∀ b, S b → h0.get b ≠ none) : Own h0 h' v w rows := by
 rcases o with o | ⟨b, c, z, rfl, hlc, hb, h0b, hg, hp, hw⟩
 ·exact .inl o
 ·exact .inr ⟨b, c, z, rfl, hlc, by rw [k.1]; exact hb, h0b, k.2.1 b _ (fun hs => hS b hs h0b) hg, hp, hw⟩
theorem opsw_abs {P : Program} {l : List GO} {f : Fr} {h : H} {K : Fr → H → Prop} (S : Fr → Prop) (hS : S f) (hk : ∀ f', S f' → opsw P l f' h K) : opsw P l f h K := hk f hS
end Go.KH
namespace Go.KH
open Go.RowKit

theorem withO_mono {α : Type} {o : Option α} {K K' : α → Prop} (hK : ∀ a, K a → K' a) : withO o K → withO o K' := by
 cases o with
 | none => simp
 | some a => simp only [withO_some]; exact hK a
section
variable {P : Program}
theorem owp_mono {ρ : X → Value} {h : H} {K K' : Value → H → Prop} (hK : ∀ v h', K v h' → K' v h') : ∀ o, owp P ρ h K o → owp P ρ h K' o
 | .p o => withO_mono fun _ => hK _ _
 | .box x => fun q b h1 h2 => hK _ _ (q b h1 h2)
 | .alloc z => fun q b h1 h2 => hK _ _ (q b h1 h2)
 | .bsl n z ps => withO_mono fun _ q b h1 h2 => hK _ _ (q b h1 h2)
 | .st n a x => withO_mono fun _ q => ⟨q.1, withO_mono (fun _ => hK _ _) q.2⟩
 | .app w by_ s x => withO_mono fun p => withO_mono fun q hq => by
   obtain ⟨a, n, c⟩ := p
   refine ⟨hq.1, hq.2.1, hq.2.2.1, ?_⟩
   have h4 := hq.2.2.2
   cases a with
   | none =>
    refine ⟨h4.1, ?_⟩
    have h5 := h4.2
    by_cases h0 : q.1 = 0
    ·rw [if_pos h0] at h5 ⊢; exact hK _ _ h5
    ·rw [if_neg h0] at h5 ⊢; exact fun b h1 h2 c hc => hK _ _ (h5 b h1 h2 c hc)
   | some a =>
    obtain ⟨b, o, path⟩ := a
    cases path with
    | none =>
     refine ⟨h4.1, h4.2.1, withO_mono (fun ob hob => ⟨hob.1, ?_⟩) h4.2.2⟩
     rcases hob.2 with ⟨e, k⟩ | ⟨e1, e2, k⟩
     ·exact .inl ⟨e, fun b' c z x1 x2 x3 x4 => hK _ _ (k b' c z x1 x2 x3 x4)⟩
     ·exact .inr ⟨e1, e2, hK _ _ k⟩
    | some p => exact h4
 | .cpy w d s => withO_mono fun p => withO_mono fun q hq => by
   obtain ⟨a, n, c⟩ := p
   refine ⟨hq.1, ?_⟩
   have h4 := hq.2
   cases a with
   | none => exact hK _ _ h4
   | some a =>
    obtain ⟨b, o, path⟩ := a
    cases path with
    | none => exact ⟨h4.1, withO_mono (fun _ => hK _ _) h4.2⟩
    | some p => exact h4
 | .mks w by_ z l c => withO_mono fun l => withO_mono fun c q => ⟨q.1, q.2.1, q.2.2.1, q.2.2.2.1, fun b h1 h2 => hK _ _ (q.2.2.2.2 b h1 h2)⟩
 | .s2b x => withO_mono fun _ q b h1 h2 c hc => hK _ _ (q b h1 h2 c hc)
 | .call f args => withO_mono fun _ q => q.mono fun v h' _ => hK v h'
 | .mkm => fun q b h1 h2 h3 => hK _ _ (q b h1 h2 h3)
 | .bad => fun q => q.elim
 | .mup m k v => withO_mono fun _ => withO_mono fun _ => withO_mono fun _ => withO_mono fun _ => hK _ _
 | .clr w z x => withO_mono fun p q => by
   obtain ⟨a, n, c⟩ := p
   cases a with
   | none => exact hK _ _ q
   | some a =>
    obtain ⟨b, o, path⟩ := a
    cases n with
    | zero => exact hK _ _ q
    | succ n =>
     cases path with
     | none => exact ⟨q.1, withO_mono (fun _ => hK _ _) q.2⟩
     | some p => exact q
theorem gow_mono {g : GO} {f : Fr} {h : H} {K K' : Fr → H → Prop} (hK : ∀ f h, K f h → K' f h) : gow P g f h K → gow P g f h K' := by
 unfold gow
 split
 ·exact owp_mono (fun v h' => hK _ _) _
 ·exact hK _ _
theorem opsw_mono {K K' : Fr → H → Prop} (hK : ∀ f h, K f h → K' f h) : ∀ (l : List GO) {f : Fr} {h : H}, opsw P l f h K → opsw P l f h K'
 | [], _, _ => hK _ _
 | g :: l, _, _ => gow_mono fun _ _ => opsw_mono hK l
theorem dopw_mono {K K' : Fr → H → Prop} (hK : ∀ f h, K f h → K' f h) : ∀ (p : DP) {hS : H} {f : Fr} {h : H}, dopw P hS p f h K → dopw P hS p f h K'
 | .nil, _, _, _ => hK _ _
 | .tk g r, _, _, _ => by
  simp only [dopw]
  split
  ·exact withO_mono fun _ => dopw_mono hK r
  ·exact dopw_mono hK r
 | .sq g r, _, _, _ => gow_mono fun _ _ q => ⟨q.1, dopw_mono hK r q.2⟩
 | .lt g r, _, _, _ => gow_mono fun _ _ => dopw_mono hK r
 | .alt g r g' r', _, _, _ => fun q => ⟨gow_mono (fun _ _ q => ⟨q.1, dopw_mono hK r q.2⟩) q.1, gow_mono (fun _ _ q => ⟨q.1, dopw_mono hK r' q.2⟩) q.2⟩
 | .alt3 g r g' r' g2 r2, _, _, _ => fun q => ⟨gow_mono (fun _ _ q => ⟨q.1, dopw_mono hK r q.2⟩) q.1, gow_mono (fun _ _ q => ⟨q.1, dopw_mono hK r' q.2⟩) q.2.1, gow_mono (fun _ _ q => ⟨q.1, dopw_mono hK r2 q.2⟩) q.2.2⟩
theorem wpc_mono : ∀ (c : C) {Q Q' : Ex → Fr → H → Prop} (hQ : ∀ e f h, Q e f h → Q' e f h) {f : Fr} {h : H}, wpc P c Q f h → wpc P c Q' f h
 | .skip, _, _, hQ, _, _ => hQ _ _ _
 | .ops l, _, _, hQ, _, _ => opsw_mono (hQ _) l
 | .dops ld l, _, _, hQ, _, _ => dopw_mono (hQ _) l
 | .dopx l, _, _, hQ, _, _ => fun ⟨hS, h1, h2⟩ => ⟨hS, h1, dopw_mono (hQ _) l h2⟩
 | .seq a b, _, _, hQ, _, _ => wpc_mono a fun e f' h' q => by
   cases e with
   | nor => exact wpc_mono b hQ q
   | exit i => exact hQ _ _ _ q
   | ret => exact hQ _ _ _ q
 | .cond x a b, _, _, hQ, _, _ => withO_mono fun t q => by
   by_cases ht : t = true
   ·rw [if_pos ht] at q ⊢; exact wpc_mono a hQ q
   ·rw [if_neg ht] at q ⊢; exact wpc_mono b hQ q
 | .block id c, _, _, hQ, _, _ => wpc_mono c fun e f' h' q => by
   cases e with
   | nor => exact hQ _ _ _ q
   | exit i =>
    simp only at q ⊢
    by_cases hi : i = id
    ·rw [if_pos hi] at q ⊢; exact hQ _ _ _ q
    ·rw [if_neg hi] at q ⊢; exact hQ _ _ _ q
   | ret => exact hQ _ _ _ q
 | .loop c, _, _, hQ, _, _ => fun ⟨I, hi, hs⟩ => ⟨I, hi, fun m f h hI => wpc_mono c (fun e f' h' q => by
   cases e with
   | nor => exact q
   | exit i => exact hQ _ _ _ q
   | ret => exact hQ _ _ _ q) (hs m f h hI)⟩
 | .exit id, _, _, hQ, _, _ => hQ _ _ _
 | .ret, _, _, hQ, _, _ => hQ _ _ _
def cutQ (R : Fr → H → Prop) (Q : Ex → Fr → H → Prop) : Ex → Fr → H → Prop := fun e f h => match e with | .nor => R f h | e => Q e f h
theorem cutQ_nor {R : Fr → H → Prop} {Q : Ex → Fr → H → Prop} {f : Fr} {h : H} : cutQ R Q .nor f h = R f h := rfl
theorem cutQ_exit {R : Fr → H → Prop} {Q : Ex → Fr → H → Prop} {f : Fr} {h : H} (i : Nat) : cutQ R Q (.exit i) f h = Q (.exit i) f h := rfl
theorem cutQ_ret {R : Fr → H → Prop} {Q : Ex → Fr → H → Prop} {f : Fr} {h : H} : cutQ R Q .ret f h = Q .ret f h := rfl
theorem wpc_cut {a b : C} {Q : Ex → Fr → H → Prop} {f : Fr} {h : H} (R : Fr → H → Prop) (ha : wpc P a (cutQ R Q) f h) (hb : ∀ f' h', R f' h' → wpc P b Q f' h') : wpc P (.seq a b) Q f h := by
 refine wpc_mono a (fun e f' h' q => ?_) ha
 cases e with
 | nor => exact hb f' h' q
 | exit i => exact q
 | ret => exact q
theorem wpc_assoc (a b c : C) (Q : Ex → Fr → H → Prop) (f : Fr) (h : H) : wpc P (.seq a (.seq b c)) Q f h = wpc P (.seq (.seq a b) c) Q f h := by
 show wpc P a (thenQ P (.seq b c) Q) f h = wpc P a (thenQ P b (thenQ P c Q)) f h
 congr 1
 funext e f' h'
 cases e <;> rfl
theorem wpc_cut2 {a b c : C} {Q : Ex → Fr → H → Prop} {f : Fr} {h : H} (R : Fr → H → Prop) (ha : wpc P (.seq a b) (cutQ R Q) f h) (hb : ∀ f' h', R f' h' → wpc P c Q f' h') : wpc P (.seq a (.seq b c)) Q f h := by
 rw [wpc_assoc]; exact wpc_cut R ha hb
theorem wpc_cut3 {a b c d : C} {Q : Ex → Fr → H → Prop} {f : Fr} {h : H} (R : Fr → H → Prop) (ha : wpc P (.seq a (.seq b c)) (cutQ R Q) f h) (hb : ∀ f' h', R f' h' → wpc P d Q f' h') : wpc P (.seq a (.seq b (.seq c d))) Q f h := by
 rw [wpc_assoc]; refine wpc_cut2 R ?_ hb; rw [← wpc_assoc]; exact ha
end
theorem dopX_of {P : Program} {p : DP} {f : Fr} {h : H} {K : Fr → H → Prop} (hS : H) (hs : Sub hS h) (hk : dopw P hS p f h K) : dopX P p f h K := ⟨hS, hs, hk⟩
open Classical in
noncomputable def without (h : H) (S : Nat → Prop) : H := { h with get := fun c => if S c then none else h.get c }
theorem without_keep {S : Nat → Prop} {h h' : H} (k : Keep S h h') : Sub (without h S) h' := ⟨fun c ob hc => by
 simp only [without] at hc
 split at hc
 ·cases hc
 ·rename_i hne; exact k.2.1 c ob hne hc, fun c l hm => k.2.2.1 c l hm⟩
theorem without_get {S : Nat → Prop} {h : H} {c : Nat} (hne : ¬ S c) : (without h S).get c = h.get c := by simp only [without, if_neg hne]
def but (h : H) (b : Nat) : H := { h with get := fun c => if c = b then none else h.get c }
attribute [go_sem ↓] wpc_dopx
attribute [go_sem ↓] cutQ_nor cutQ_exit cutQ_ret
end Go.KH
namespace Go.KH

structure UDirty where
 place : Int
 data : List UInt8
deriving DecidableEq
structure UFlash where
 sec : List (List UInt8)
 dirty : List UDirty
deriving DecidableEq
structure UMach where
 blocks : Int
 flash : UFlash
deriving DecidableEq
abbrev UDirty.cells (d : UDirty) : List Value := [i64 d.place, str d.data]
abbrev sects (l : List (List UInt8)) : List (List Value) := l.map fun s => [str s]
abbrev spMach (m : UMach) : List Sp := [.v (i64 m.blocks), .s 1 (sects m.flash.sec), .s 2 (m.flash.dirty.map UDirty.cells)]
abbrev spMachO (o : UMach × Int) : List Sp := [.v (i64 o.1.blocks), .s 1 (sects o.1.flash.sec), .s 2 (o.1.flash.dirty.map UDirty.cells), .v (i64 o.2)]
def FlR (h : H) (f : UFlash) (vs vd : Value) : Prop := Sl h vs 1 (sects f.sec) ∧ Sl h vd 2 (f.dirty.map UDirty.cells)
def FlF (h0 h : H) (f : UFlash) (vs vd : Value) : Prop := Fre h0 h vs 1 (sects f.sec) ∧ Fre h0 h vd 2 (f.dirty.map UDirty.cells) ∧ Dj vs vd
theorem FlR.ext {h h' : H} {f : UFlash} {vs vd : Value} (r : FlR h f vs vd) (e : Ext h h') : FlR h' f vs vd := ⟨r.1.ext e, r.2.ext e⟩
theorem FlF.ext {h0 h h' : H} {f : UFlash} {vs vd : Value} (r : FlF h0 h f vs vd) (e : Ext h h') : FlF h0 h' f vs vd := ⟨r.1.ext e, r.2.1.ext e, r.2.2⟩
theorem FlF.r {h0 h : H} {f : UFlash} {vs vd : Value} (r : FlF h0 h f vs vd) : FlR h f vs vd := ⟨r.1.sl, r.2.1.sl⟩
theorem FlF.back {h0 h1 h : H} {f : UFlash} {vs vd : Value} (r : FlF h1 h f vs vd) (e : Ext h0 h1) : FlF h0 h f vs vd := ⟨r.1.back e, r.2.1.back e, r.2.2⟩
theorem FlF.set {h0 h : H} {f : UFlash} {vs vd : Value} (r : FlF h0 h f vs vd) {b : Nat} {x : Ob} (hb : h0.get b = some x) (ob : Ob) : FlF h0 (h.set b ob) f vs vd := ⟨r.1.set hb ob, r.2.1.set hb ob, r.2.2⟩
theorem FlR.shape {h : H} {f : UFlash} {vs vd : Value} (r : FlR h f vs vd) : ∃ a c a' c', vs = .slice a f.sec.length c ∧ vd = .slice a' f.dirty.length c' := by
 obtain ⟨a, c, rfl⟩ := r.1.shape
 obtain ⟨a', c', rfl⟩ := r.2.shape
 exact ⟨a, c, a', c', by simp, by simp⟩
theorem mach_r {h : H} {m : UMach} {cs : List Value} : RepR h (spMach m) cs ↔ ∃ vs vd, cs = [i64 m.blocks, vs, vd] ∧ FlR h m.flash vs vd := by
 simp only [spMach, RepR_i, RepR_s, RepR_nil, FlR]
 constructor
 ·rintro ⟨_, rfl, vs, _, rfl, h1, vd, _, rfl, h2, rfl⟩; exact ⟨vs, vd, rfl, h1, h2⟩
 ·rintro ⟨vs, vd, rfl, h1, h2⟩; exact ⟨_, rfl, vs, _, rfl, h1, vd, _, rfl, h2, rfl⟩
theorem mach_f {h0 h : H} {m : UMach} {cs : List Value} : RepF h0 h (spMach m) cs ↔ ∃ vs vd, cs = [i64 m.blocks, vs, vd] ∧ FlF h0 h m.flash vs vd := by
 simp only [spMach, RepF_i, RepF_s, RepF_nil, FlF]
 constructor
 ·rintro ⟨_, rfl, vs, _, rfl, h1, d1, vd, _, rfl, h2, d2, rfl⟩
  exact ⟨vs, vd, rfl, h1, h2, d1 vd (by simp)⟩
 ·rintro ⟨vs, vd, rfl, h1, h2, d1⟩
  refine ⟨_, rfl, vs, _, rfl, h1, ?_, vd, _, rfl, h2, ?_, rfl⟩
  ·intro d hd; simp only [List.mem_cons, List.not_mem_nil, or_false] at hd; subst hd; exact d1
  ·intro d hd; simp at hd
theorem machO_f {h0 h : H} {o : UMach × Int} {cs : List Value} : RepF h0 h (spMachO o) cs ↔ ∃ vs vd, cs = [i64 o.1.blocks, vs, vd, i64 o.2] ∧ FlF h0 h o.1.flash vs vd := by
 simp only [spMachO, RepF_i, RepF_s, RepF_nil, FlF]
 constructor
 ·rintro ⟨_, rfl, vs, _, rfl, h1, d1, vd, _, rfl, h2, d2, _, rfl, rfl⟩
  exact ⟨vs, vd, rfl, h1, h2, d1 vd (by simp)⟩
 ·rintro ⟨vs, vd, rfl, h1, h2, d1⟩
  refine ⟨_, rfl, vs, _, rfl, h1, ?_, vd, _, rfl, h2, ?_, _, rfl, rfl⟩
  ·intro d hd
   simp only [List.mem_cons, List.not_mem_nil, or_false] at hd
   rcases hd with rfl | rfl <;> first | exact d1 | exact Dj.nb rfl
  ·intro d hd
   simp only [List.mem_cons, List.not_mem_nil, or_false] at hd
   subst hd; exact Dj.nb rfl
def UFlash.small (f : UFlash) : Prop := f.sec.length ≤ 1048576 ∧ f.dirty.length ≤ 1048576 ∧ (∀ s ∈ f.sec, s.length ≤ 1048576) ∧ ∀ d ∈ f.dirty, d.data.length ≤ 1048576
def UFlash.ok (f : UFlash) : Prop := f.sec.length ≤ maxLen ∧ (∀ s ∈ f.sec, s.length ≤ maxLen) ∧ f.dirty.length ≤ maxLen ∧ ∀ d ∈ f.dirty, in64 d.place ∧ d.data.length ≤ maxLen
def UMach.ok (m : UMach) : Prop := in64 m.blocks ∧ m.flash.ok
def UFlash.fin1 (f : UFlash) : Prop := f.sec.length ≤ 1048576 ∧ f.dirty.length ≤ 1048576
theorem UFlash.small.fin1 {f : UFlash} (k : f.small) : f.fin1 := ⟨k.1, k.2.1⟩
def UFlash.fin (f : UFlash) : Prop := f.sec.length ≤ maxLen ∧ f.dirty.length ≤ maxLen
theorem UFlash.ok.fin {f : UFlash} (k : f.ok) : f.fin := ⟨k.1, k.2.2.1⟩
def dirtyAt (f : UFlash) (i : Nat) (hi : i < f.dirty.length) : Prop := (0 ≤ f.dirty[i].place ∧ f.dirty[i].place ≤ (f.sec.length : Int) - 1) ∧ f.dirty[i].data.length ≤ 96 ∧ ∀ k, (hk : k < i) → (f.dirty[k]'(by omega)).place ≠ f.dirty[i].place
instance (f : UFlash) (i : Nat) (hi : i < f.dirty.length) : Decidable (dirtyAt f i hi) := by unfold dirtyAt; infer_instance
def flashOk (f : UFlash) : Prop := (1 ≤ f.sec.length ∧ f.sec.length ≤ 40) ∧ f.dirty.length ≤ f.sec.length ∧ (∀ s ∈ f.sec, s.length ≤ 96) ∧ ∀ i, (hi : i < f.dirty.length) → dirtyAt f i hi
instance (f : UFlash) : Decidable (flashOk f) := by unfold flashOk; infer_instance
def isAt (n : Int) (d : UDirty) : Bool := decide (d.place = n)
def flashGet (f : UFlash) (n : Int) : List UInt8 := if 0 ≤ firstAt (isAt n) f.dirty then (f.dirty.getD (firstAt (isAt n) f.dirty).toNat ⟨0, []⟩).data else f.sec.getD n.toNat []
theorem flashGet_dirty {f : UFlash} {n : Int} {k : Nat} (hk : k < f.dirty.length) (h : f.dirty[k].place = n) (hn : ∀ i, (hi : i < k) → (f.dirty[i]'(by omega)).place ≠ n) : flashGet f n = f.dirty[k].data := by
 have : firstAt (isAt n) f.dirty = k := firstAt_some hk (by simp [isAt, h]) (fun i hi => by simp [isAt, hn i hi])
 unfold flashGet
 rw [this, if_pos (by omega)]
 simp [hk]
theorem flashGet_clean {f : UFlash} {n : Int} (hn : ∀ i, (hi : i < f.dirty.length) → f.dirty[i].place ≠ n) : flashGet f n = f.sec.getD n.toNat [] := by
 have : firstAt (isAt n) f.dirty = -1 := firstAt_none (fun i hi => by simp [isAt, hn i hi])
 unfold flashGet
 rw [this, if_neg (by omega)]
theorem flashGet_len {f : UFlash} (ho : flashOk f) (n : Int) : (flashGet f n).length ≤ 96 := by
 unfold flashGet
 split
 ·rename_i h
  obtain ⟨k, hk, he, _⟩ := firstAt_get h
  rw [he]
  simp only [Int.toNat_natCast, List.getD_eq_getElem?_getD, List.getElem?_eq_getElem hk, Option.getD_some]
  exact (ho.2.2.2 k hk).2.1
 ·rw [List.getD_eq_getElem?_getD]
  cases hs : f.sec[n.toNat]? with
  | none => simp
  | some s => exact ho.2.2.1 s (List.mem_of_getElem? hs)
theorem flashOk_small {f : UFlash} (ho : flashOk f) : f.sec.length ≤ 40 ∧ f.dirty.length ≤ 40 := ⟨ho.1.2, by have := ho.1.2; have := ho.2.1; omega⟩
end Go.KH
namespace Go.KH
open Go.RowKit

def ob : Value → Option Nat | .slice (some a) _ _ => some a.block | _ => none
theorem blk_ob {v : Value} {b : Nat} (h : blk v = some b) : ob v = some b := by obtain ⟨a, n, c, rfl, rfl⟩ := blk_some h; rfl
def Ap (u v : Value) : Prop := ∀ b, ob u = some b → ob v ≠ some b
theorem Ap.symm {u v : Value} (d : Ap u v) : Ap v u := fun b h1 h2 => d b h2 h1
theorem Ap.dj {u v : Value} (d : Ap u v) : Dj u v := fun b h1 h2 => d b (blk_ob h1) (blk_ob h2)
theorem Own.ob_new {h0 h : H} {v : Value} {w : Nat} {rows : List (List Value)} (o : Own h0 h v w rows) {b : Nat} (hb : ob v = some b) : h0.get b = none ∧ h.base ≤ b ∧ ∃ z, h.get b = some ⟨rows.flatten, z⟩ := by
 rcases o with ⟨rfl, rfl⟩ | ⟨b', c', z, rfl, hlc, hbb, h0b, hg, hcz, hww⟩
 ·simp [ob] at hb
 ·simp only [ob, Option.some.injEq] at hb
  subst hb; exact ⟨h0b, hbb, z, hg⟩
theorem Own.ap {h0 h h' : H} {u v : Value} {w w' : Nat} {rows rows' : List (List Value)} (o : Own h0 h u w rows) (p : Own h h' v w' rows') : Ap u v := fun b h1 h2 => by
 obtain ⟨_, _, z, hg⟩ := o.ob_new h1
 rw [(p.ob_new h2).1] at hg; cases hg
theorem Own.setOb {h0 h : H} {v : Value} {w : Nat} {rows : List (List Value)} (o : Own h0 h v w rows) {b : Nat} (hne : ob v ≠ some b) (x : Ob) : Own h0 (h.set b x) v w rows := by
 rcases o with o | ⟨b', c', z, rfl, h1, h2, h3, hg, h4⟩
 ·exact .inl o
 ·exact .inr ⟨b', c', z, rfl, h1, h2, h3, by rw [H.set_get_ne _ _ _ _ (fun e => hne (by rw [← e]; rfl))]; exact hg, h4⟩
theorem own_put {h0 h : H} {v : Value} {w : Nat} {rows : List (List Value)} (f : Own h0 h v w rows) {k : Nat} (hk : k < rows.length) {r : List Value} (hr : r.length = w) (h1 : r.all Value.oneCell' = true) :
  ∃ b c z, v = sl b 0 rows.length c ∧ h.base ≤ b ∧ h0.get b = none ∧ h.get b = some ⟨rows.flatten, z⟩ ∧ stc h b (k * w) r w = some (h.set b ⟨(rows.set k r).flatten, z⟩) ∧ Own h0 (h.set b ⟨(rows.set k r).flatten, z⟩) v w (rows.set k r) := by
 rcases f with ⟨rfl, rfl⟩ | ⟨b, c, z, rfl, hlc, hb, h0b, hg, hcz, hw⟩
 ·simp at hk
 have hl := flat_length hw
 have h2 : k * w + w ≤ rows.length * w := by rw [show k * w + w = (k + 1) * w by rw [Nat.add_mul]; omega]; exact Nat.mul_le_mul_right _ hk
 refine ⟨b, c, z, rfl, hb, h0b, hg, ?_, .inr ⟨b, c, z, by rw [List.length_set], by rw [List.length_set]; exact hlc, by rw [H.set_base]; exact hb, h0b, H.set_get_same _ _ _, hcz, hw.set k hr⟩⟩
 rw [stc_get hg, if_pos ⟨hr, by simp only [hl]; omega, h1⟩]
 simp only
 rw [flat_splice hw k hk hr]
theorem appW_ownB {h0 h : H} {K : Value → H → Prop} {w by_ n c : Nat} {a : Option Addr} {q : Nat × List Value} {rows new : List (List Value)} (e : ∀ b, h.get b = none → h0.get b = none) (o : Own h0 h (.slice a n c) w rows)
  (hq : q = (new.length, new.flatten)) (hw : Wid w new) (h1 : new.flatten.all Value.oneCell' = true) (hb : (rows.length + new.length) * by_ ≤ 70368744177664)
  (hK : ∀ v' b' x, h0.get b' = none → (ob (.slice a n c) = some b' ∨ h.get b' = none) → (∀ b2, ob v' = some b2 → b2 = b') → Own h0 (h.set b' x) v' w (rows ++ new) → K v' (h.set b' x)) (hK0 : new = [] → K (.slice a n c) h) : appW h w by_ (a, n, c) q K := by
 subst hq
 unfold appW
 rcases o with ⟨hv, rfl⟩ | ⟨b, c', z, hv, hlc, hbb, h0b, hg, hcz, hww⟩
 ·simp only [nils, Value.slice.injEq] at hv
  obtain ⟨rfl, rfl, rfl⟩ := hv
  refine ⟨by simpa using hb, h1, by rw [flat_length hw], rfl, ?_⟩
  by_cases hn : new.length = 0
  ·have : new = [] := List.length_eq_zero_iff.1 hn
   subst this
   simp only [List.length_nil, if_true]
   exact hK0 rfl
  ·rw [if_neg hn]
   intro b hb1 hb2 c hc
   exact hK _ b _ (e b hb2) (.inr hb2) (fun b2 h2 => by simpa [ob] using h2.symm) (.inr ⟨b, c, c * w, by simp, by simpa using hc, hb1, e b hb2, by simp, Nat.le_refl _, by simpa using hw⟩)
 ·simp only [sl, Value.slice.injEq] at hv
  obtain ⟨rfl, rfl, rfl⟩ := hv
  refine ⟨hb, h1, by rw [flat_length hw], rfl, hbb, ⟨⟨rows.flatten, z⟩, hg, hcz, .inl ⟨by rw [flat_length hww], ?_⟩⟩⟩
  intro b' c' z' hb' hbase hc hz
  have hn : h0.get b' = none := by
   rcases hb' with rfl | hb'
   ·exact h0b
   ·exact e b' hb'
  exact hK _ b' _ hn (by rcases hb' with rfl | hb'; exact .inl rfl; exact .inr hb') (fun b2 h2 => by simpa [ob] using h2.symm) (.inr ⟨b', c', z', by simp, by simpa using hc, hbase, hn, by simp, hz, hww.append hw⟩)
theorem Fre.setNe {h0 h : H} {v : Value} {w : Nat} {rows : List (List Value)} (s : Fre h0 h v w rows) {b : Nat} (hn : blk v ≠ some b) (x : Ob) : Fre h0 (h.set b x) v w rows :=
 s.keep ((Keep.refl (fun c => c = b) h).set (.inl rfl) x) (fun c hc e => hn (e ▸ hc))
theorem RepF.setNe {h0 h : H} {b : Nat} : ∀ {ss : List Sp} {cs : List Value}, RepF h0 h ss cs → ¬ blks cs b → (x : Ob) → RepF h0 (h.set b x) ss cs
 | [], [], _, _, _ => trivial
 | .v _ :: _, _ :: _, k, hn, x => ⟨k.1, k.2.1, RepF.setNe k.2.2 (fun ⟨v, hv, e⟩ => hn ⟨v, List.mem_cons_of_mem _ hv, e⟩) x⟩
 | .s _ _ :: _, _ :: _, k, hn, x => ⟨Fre.setNe k.1 (fun e => hn ⟨_, List.mem_cons_self .., e⟩) x, k.2.1, RepF.setNe k.2.2 (fun ⟨v, hv, e⟩ => hn ⟨v, List.mem_cons_of_mem _ hv, e⟩) x⟩
 | [], _ :: _, k, _, _ => k.elim
 | .v _ :: _, [], k, _, _ => k.elim
 | .s _ _ :: _, [], k, _, _ => k.elim
def Box (h0 h : H) (b : Nat) (f : UFlash) : Prop := ∃ vs vd, h.get b = some ⟨[vs, vd], 2⟩ ∧ Own h0 h vs 1 (sects f.sec) ∧ Own h0 h vd 2 (f.dirty.map UDirty.cells) ∧ Ap vs vd ∧ ob vs ≠ some b ∧ ob vd ≠ some b ∧ h0.get b = none ∧ h.base ≤ b ∧ Ext h0 h

def flashPut (f : UFlash) (n : Int) (data : List UInt8) : UFlash :=
 if 0 ≤ firstAt (isAt n) f.dirty then { f with dirty := f.dirty.set (firstAt (isAt n) f.dirty).toNat ⟨n, data⟩ } else { f with dirty := f.dirty ++ [⟨n, data⟩] }
def syncS (l : List (List UInt8)) : List UDirty → List (List UInt8)
 | [] => l
 | d :: ds => syncS (l.set d.place.toNat d.data) ds
def flashSync (f : UFlash) : UFlash := ⟨syncS f.sec f.dirty, []⟩
theorem syncS_len : ∀ (ds : List UDirty) (l : List (List UInt8)), (syncS l ds).length = l.length
 | [], _ => rfl
 | d :: ds, l => by unfold syncS; rw [syncS_len ds, List.length_set]
theorem syncS_take (l : List (List UInt8)) (ds : List UDirty) (k : Nat) (hk : k < ds.length) : syncS l (ds.take (k + 1)) = (syncS l (ds.take k)).set ds[k].place.toNat ds[k].data := by
 induction ds generalizing l k with
 | nil => simp at hk
 | cons d ds ih =>
  cases k with
  | zero => simp [syncS]
  | succ k =>
   simp only [List.take_succ_cons, syncS, List.getElem_cons_succ]
   exact ih _ _ (by simpa using hk)
end Go.KH
namespace Go.KH

def row0 (fin : DP) : List GO → DP
 | [] => fin
 | c :: cs => .sq c (row0 fin cs)
def row1 (fin : DP) (a : GO) : List GO → DP
 | [] => .sq a fin
 | c :: cs => .alt c (row1 fin a cs) a (row0 fin (c :: cs))
def row2 (fin : DP) (a b : GO) : List GO → DP
 | [] => .alt a (row1 fin b []) b (row1 fin a [])
 | c :: cs => .alt3 c (row2 fin a b cs) a (row1 fin b (c :: cs)) b (row1 fin a (c :: cs))
section
variable {P : Program} {hS : H} {K : Fr → H → Prop}
theorem row0_ok {fin : DP} {I : Nat → Fr → H → Prop} {L : List GO} (hc : ∀ i c, L[i]? = some c → ∀ f h, I i f h → gow P c f h fun f' h' => Sub hS h' ∧ I (i + 1) f' h') (hf : ∀ f h, I L.length f h → dopw P hS fin f h K) :
  ∀ (cs : List GO) (i : Nat), L.drop i = cs → i ≤ L.length → ∀ f h, I i f h → dopw P hS (row0 fin cs) f h K
 | [], i, e, hi, f, h, hI => by
  have : L.length ≤ i := by simpa using e
  obtain rfl : i = L.length := by omega
  exact hf f h hI
 | c :: cs, i, e, hi, f, h, hI => by
  have hlt : i < L.length := by
   rcases Nat.lt_or_ge i L.length with h1 | h1
   ·exact h1
   ·rw [List.drop_of_length_le h1] at e; cases e
  rw [List.drop_eq_getElem_cons hlt] at e
  simp only [List.cons.injEq] at e
  exact gow_mono (fun f' h' q => ⟨q.1, row0_ok hc hf cs (i + 1) e.2 hlt f' h' q.2⟩) (hc i c (by rw [List.getElem?_eq_getElem hlt, e.1]) f h hI)
theorem row1_ok {fin : DP} {a : GO} {I J : Nat → Fr → H → Prop} {L : List GO} (hc : ∀ i c, L[i]? = some c → ∀ f h, I i f h → gow P c f h fun f' h' => Sub hS h' ∧ I (i + 1) f' h') (hf : ∀ f h, I L.length f h → dopw P hS fin f h K)
  (hj : ∀ i c, L[i]? = some c → ∀ f h, J i f h → gow P c f h fun f' h' => Sub hS h' ∧ J (i + 1) f' h') (ha : ∀ i f h, J i f h → gow P a f h fun f' h' => Sub hS h' ∧ I i f' h') :
  ∀ (cs : List GO) (i : Nat), L.drop i = cs → i ≤ L.length → ∀ f h, J i f h → dopw P hS (row1 fin a cs) f h K
 | [], i, e, hi, f, h, hI => by
  have : L.length ≤ i := by simpa using e
  obtain rfl : i = L.length := by omega
  exact gow_mono (fun f' h' q => ⟨q.1, hf f' h' q.2⟩) (ha _ f h hI)
 | c :: cs, i, e, hi, f, h, hI => by
  have e0 := e
  have hlt : i < L.length := by
   rcases Nat.lt_or_ge i L.length with h1 | h1
   ·exact h1
   ·rw [List.drop_of_length_le h1] at e; cases e
  rw [List.drop_eq_getElem_cons hlt] at e
  simp only [List.cons.injEq] at e
  exact ⟨gow_mono (fun f' h' q => ⟨q.1, row1_ok hc hf hj ha cs (i + 1) e.2 hlt f' h' q.2⟩) (hj i c (by rw [List.getElem?_eq_getElem hlt, e.1]) f h hI),
   gow_mono (fun f' h' q => ⟨q.1, row0_ok hc hf (c :: cs) i e0 hi f' h' q.2⟩) (ha i f h hI)⟩
theorem row2_ok {fin : DP} {a b : GO} {I Ja Jb M : Nat → Fr → H → Prop} {L : List GO} (hc : ∀ i c, L[i]? = some c → ∀ f h, I i f h → gow P c f h fun f' h' => Sub hS h' ∧ I (i + 1) f' h') (hf : ∀ f h, I L.length f h → dopw P hS fin f h K)
  (hja : ∀ i c, L[i]? = some c → ∀ f h, Ja i f h → gow P c f h fun f' h' => Sub hS h' ∧ Ja (i + 1) f' h') (hjb : ∀ i c, L[i]? = some c → ∀ f h, Jb i f h → gow P c f h fun f' h' => Sub hS h' ∧ Jb (i + 1) f' h')
  (hm : ∀ i c, L[i]? = some c → ∀ f h, M i f h → gow P c f h fun f' h' => Sub hS h' ∧ M (i + 1) f' h')
  (haJ : ∀ i f h, Ja i f h → gow P a f h fun f' h' => Sub hS h' ∧ I i f' h') (hbJ : ∀ i f h, Jb i f h → gow P b f h fun f' h' => Sub hS h' ∧ I i f' h')
  (ha : ∀ i f h, M i f h → gow P a f h fun f' h' => Sub hS h' ∧ Jb i f' h') (hb : ∀ i f h, M i f h → gow P b f h fun f' h' => Sub hS h' ∧ Ja i f' h') :
  ∀ (cs : List GO) (i : Nat), L.drop i = cs → i ≤ L.length → ∀ f h, M i f h → dopw P hS (row2 fin a b cs) f h K
 | [], i, e, hi, f, h, hI => 
  ⟨gow_mono (fun f' h' q => ⟨q.1, row1_ok hc hf hjb hbJ [] i e hi f' h' q.2⟩) (ha i f h hI), gow_mono (fun f' h' q => ⟨q.1, row1_ok hc hf hja haJ [] i e hi f' h' q.2⟩) (hb i f h hI)⟩
 | c :: cs, i, e, hi, f, h, hI => by
  have e0 := e
  have hlt : i < L.length := by
   rcases Nat.lt_or_ge i L.length with h1 | h1
   ·exact h1
   ·rw [List.drop_of_length_le h1] at e; cases e
  rw [List.drop_eq_getElem_cons hlt] at e
  simp only [List.cons.injEq] at e
  exact ⟨gow_mono (fun f' h' q => ⟨q.1, row2_ok hc hf hja hjb hm haJ hbJ ha hb cs (i + 1) e.2 hlt f' h' q.2⟩) (hm i c (by rw [List.getElem?_eq_getElem hlt, e.1]) f h hI),
   gow_mono (fun f' h' q => ⟨q.1, row1_ok hc hf hjb hbJ (c :: cs) i e0 hi f' h' q.2⟩) (ha i f h hI), gow_mono (fun f' h' q => ⟨q.1, row1_ok hc hf hja haJ (c :: cs) i e0 hi f' h' q.2⟩) (hb i f h hI)⟩
end
end Go.KH
namespace Go.KH

def bitsTo (n k : Nat) : List Int := ((List.range k).filter fun i => n.testBit i).map fun i : Nat => (i : Int)
def fromBits (n : Nat) : List Int := bitsTo n 24
theorem bitsTo_succ (n k : Nat) : bitsTo n (k + 1) = if n.testBit k then bitsTo n k ++ [(k : Int)] else bitsTo n k := by
 unfold bitsTo
 rw [List.range_succ, List.filter_append, List.map_append]
 by_cases h : n.testBit k <;> simp [h]
theorem bitsTo_mem (n k : Nat) (x : Int) : x ∈ bitsTo n k ↔ ∃ i : Nat, x = i ∧ i < k ∧ n.testBit i = true := by
 unfold bitsTo
 simp only [List.mem_map, List.mem_filter, List.mem_range]
 constructor
 ·rintro ⟨i, ⟨h1, h2⟩, rfl⟩; exact ⟨i, rfl, h1, h2⟩
 ·rintro ⟨i, rfl, h1, h2⟩; exact ⟨i, ⟨h1, h2⟩, rfl⟩
theorem bitsTo_len (n k : Nat) : (bitsTo n k).length ≤ k := by
 unfold bitsTo
 rw [List.length_map]
 exact Nat.le_trans (List.length_filter_le _ _) (by simp)
theorem bitsTo_sorted (n : Nat) : ∀ k, (bitsTo n k).Pairwise (· < ·)
 | 0 => by simp [bitsTo]
 | k + 1 => by
  rw [bitsTo_succ]
  split
  ·rw [List.pairwise_append]
   refine ⟨bitsTo_sorted n k, by simp, ?_⟩
   intro a ha b hb
   obtain ⟨i, rfl, hi, _⟩ := (bitsTo_mem _ _ _).1 ha
   simp only [List.mem_singleton] at hb
   subst hb
   omega
  ·exact bitsTo_sorted n k
theorem testBit_div (n k : Nat) : n.testBit k = decide (n / 2 ^ k % 2 = 1) := Nat.testBit_eq_decide_div_mod_eq
theorem shr_i64 {x j : Nat} (hj : j ≤ 62) : obin .shr (i64 (x : Int)) (i64 (j : Int)) = some (i64 ((x / 2 ^ j : Nat) : Int)) := by
 rw [bi_shr, if_neg (by omega)]
 have : min (j : Int).toNat IntKind.i64.bits = j := by simp [IntKind.bits]; omega
 rw [this]
 congr 2
 rw [Int.fdiv_eq_ediv_of_nonneg _ (by exact_mod_cast Nat.zero_le _)]
 norm_cast
theorem and1_i64 {x : Nat} (hx : x < 9223372036854775808) : obin .and (i64 (x : Int)) (i64 1) = some (i64 ((x % 2 : Nat) : Int)) := by
 have := and_i64 (a := x) (b := 1) hx (by decide)
 rw [Nat.and_one_is_mod] at this
 exact this
end Go.KH
namespace Go.KH

theorem u8_inj {a b : Nat} (ha : a < 256) (hb : b < 256) (h : UInt8.ofNat a = UInt8.ofNat b) : a = b := by
 have := congrArg UInt8.toNat h
 simp only [UInt8.toNat_ofNat'] at this
 omega
theorem leb_inj : ∀ (d u v : Nat) (r r' : List UInt8), u < d → leb u ++ r = leb v ++ r' → u = v ∧ r = r'
 | 0, u, v, r, r', hd, _ => by omega
 | d + 1, u, v, r, r', hd, h => by
  by_cases hu : u < 128
  ·by_cases hv : v < 128
   ·rw [leb_lt hu, leb_lt hv] at h
    simp only [List.cons_append, List.nil_append, List.cons.injEq] at h
    exact ⟨u8_inj (by omega) (by omega) h.1, h.2⟩
   ·rw [leb_lt hu, leb_ge hv] at h
    simp only [List.cons_append, List.nil_append, List.cons.injEq] at h
    have := u8_inj (by omega) (by omega) h.1
    omega
  ·by_cases hv : v < 128
   ·rw [leb_ge hu, leb_lt hv] at h
    simp only [List.cons_append, List.nil_append, List.cons.injEq] at h
    have := u8_inj (by omega) (by omega) h.1
    omega
   ·rw [leb_ge hu, leb_ge hv] at h
    simp only [List.cons_append, List.cons.injEq] at h
    have h1 := u8_inj (by omega) (by omega) h.1
    obtain ⟨h2, h3⟩ := leb_inj d (u / 128) (v / 128) r r' (by omega) h.2
    exact ⟨by omega, h3⟩
theorem zig_inj {a b : Int} (h : zig a = zig b) : a = b := by
 unfold zig at h
 split at h <;> split at h <;> omega
theorem putNum_inj {a b : Int} {r r' : List UInt8} (h : putNum a ++ r = putNum b ++ r') : a = b ∧ r = r' := by
 obtain ⟨h1, h2⟩ := leb_inj _ _ _ _ _ (Nat.lt_succ_self _) h
 exact ⟨zig_inj h1, h2⟩
end Go.KH
namespace Go.KH

def risingFrom (last : Int) : List UStep → Bool
 | [] => true
 | s :: l => if s.kind = 5 then decide (last < s.src) && risingFrom s.src l else risingFrom last l
def labStep (p : Bool × Int) (s : UStep) : Bool × Int := if s.kind = 5 then (p.1 && decide (p.2 < s.src), s.src) else p
theorem lab_fold : ∀ (l : List UStep) (r : Bool) (last : Int), (l.foldl labStep (r, last)).1 = (r && risingFrom last l)
 | [], r, last => by simp [risingFrom]
 | s :: l, r, last => by
  rw [List.foldl_cons]
  by_cases h : s.kind = 5
  ·rw [show labStep (r, last) s = (r && decide (last < s.src), s.src) by unfold labStep; rw [if_pos h], lab_fold l]
   rw [risingFrom, if_pos h, Bool.and_assoc]
  ·rw [show labStep (r, last) s = (r, last) by unfold labStep; rw [if_neg h], lab_fold l]
   rw [risingFrom, if_neg h]
def twiceAt (l : List UStep) (i k : Nat) : Prop := ∃ (hi : i < l.length) (hk : k < i), l[i].kind ≠ 5 ∧ (l[k]'(by omega)).kind ≠ 5 ∧ l[i].dst = (l[k]'(by omega)).dst
def twice (l : List UStep) : Prop := ∃ i k, twiceAt l i k
theorem foldl_take {α β : Type} (f : β → α → β) (b : β) (l : List α) (k : Nat) (hk : k < l.length) : (l.take (k + 1)).foldl f b = f ((l.take k).foldl f b) l[k] := by
 rw [List.take_succ_eq_append_getElem hk, List.foldl_append]; rfl
end Go.KH
namespace Go.KH

def isW (s : UStep) : Bool := !decide (s.kind = 5)
def zero8 : List UInt8 := List.replicate 8 0
def xorB (a b : List UInt8) : List UInt8 := List.zipWith (fun x y => x ^^^ y) a b
def makeB (s : UStep) (src : List UInt8) : List UInt8 := if s.kind = 1 then zero8 else if s.kind = 2 then s.data else if s.kind = 3 then src else xorB src s.data
def at8 (im : List (List UInt8)) (i : Int) : List UInt8 := im[i.toNat]?.getD []
def putB (im out : List (List UInt8)) (s : UStep) : List (List UInt8) := out.set s.dst.toNat (makeB s (at8 im s.src))
def applyB (im : List (List UInt8)) (l : List UStep) : List (List UInt8) := (l.filter isW).foldl (putB im) im
theorem fold_putB_len (im : List (List UInt8)) : ∀ (w : List UStep) (out : List (List UInt8)), (w.foldl (putB im) out).length = out.length
 | [], out => rfl
 | s :: w, out => by rw [List.foldl_cons, fold_putB_len im w]; simp [putB]
theorem applyB_len (im : List (List UInt8)) (l : List UStep) : (applyB im l).length = im.length := fold_putB_len ..
theorem fold_at {im : List (List UInt8)} {b : Nat} : ∀ (w : List UStep) (out : List (List UInt8)), w.Pairwise (fun x y => x.dst ≠ y.dst) → (∀ s ∈ w, 0 ≤ s.dst) → b < out.length →
  (∀ s ∈ w, s.dst = b → (w.foldl (putB im) out)[b]? = some (makeB s (at8 im s.src))) ∧ ((∀ s ∈ w, s.dst ≠ b) → (w.foldl (putB im) out)[b]? = out[b]?)
 | [], out, _, _, _ => ⟨fun s hs => (by cases hs), fun _ => rfl⟩
 | s :: w, out, hp, h0, hb => by
  obtain ⟨hp1, hp2⟩ := List.pairwise_cons.1 hp
  obtain ⟨i1, i2⟩ := fold_at (im := im) w (putB im out s) hp2 (fun x hx => h0 x (List.mem_cons_of_mem _ hx)) (by simpa [putB] using hb)
  have hs0 := h0 s (List.mem_cons_self ..)
  constructor
  ·intro x hx hd
   rw [List.foldl_cons]
   rcases List.mem_cons.1 hx with rfl | hx
   ·rw [i2 (fun y hy e => hp1 y hy (by omega))]
    unfold putB
    rw [show x.dst.toNat = b by omega, List.getElem?_set_self hb]
   ·exact i1 x hx hd
  ·intro hn
   rw [List.foldl_cons, i2 (fun y hy => hn y (List.mem_cons_of_mem _ hy))]
   have := hn s (List.mem_cons_self ..)
   unfold putB
   rw [List.getElem?_set_ne (by omega)]
theorem writes_apart {l : List UStep} (h : ¬ twice l) : (l.filter isW).Pairwise (fun x y => x.dst ≠ y.dst) := by
 rw [List.pairwise_filter, List.pairwise_iff_getElem]
 intro i j hi hj hij w1 w2 e
 refine h ⟨j, i, hj, hij, ?_, ?_, e.symm⟩
 ·simpa [isW] using w2
 ·simpa [isW] using w1
theorem applyB_touch {im : List (List UInt8)} {l : List UStep} {b : Nat} (h : ¬ twice l) (h0 : ∀ s ∈ l, 0 ≤ s.dst) (hb : b < im.length) :
  (∀ s ∈ l, s.kind ≠ 5 → s.dst = b → (applyB im l)[b]? = some (makeB s (at8 im s.src))) ∧ ((∀ s ∈ l, s.kind ≠ 5 → s.dst ≠ b) → (applyB im l)[b]? = im[b]?) := by
 obtain ⟨i1, i2⟩ := fold_at (im := im) (b := b) (l.filter isW) im (writes_apart h) (fun s hs => h0 s ((List.mem_filter.1 hs).1)) hb
 exact ⟨fun s hs h5 hd => i1 s (List.mem_filter.2 ⟨hs, by simp [isW, h5]⟩) hd, fun hn => i2 fun s hs => hn s ((List.mem_filter.1 hs).1) (by have := (List.mem_filter.1 hs).2; simpa [isW] using this)⟩
theorem xorB_len {a b : List UInt8} (h : a.length = b.length) : (xorB a b).length = a.length := by simp [xorB, h]
theorem wrap_u8 {n : Int} (h : 0 ≤ n) (h2 : n < 256) : IntKind.u8.wrap n = n := by
 unfold IntKind.wrap
 simp only [IntKind.bits, IntKind.signed]
 first | omega | (simp; omega)
theorem xor_u8 (x y : UInt8) : obin .xor (.int .u8 (x.toNat : Int)) (.int .u8 (y.toNat : Int)) = some (.int .u8 ((x ^^^ y).toNat : Int)) := by
 rw [bi_xor]
 congr 2
 have e1 : ∀ n : UInt8, BitVec.ofInt IntKind.u8.bits (n.toNat : Int) = n.toBitVec := fun n => by
  show BitVec.ofInt 8 (n.toNat : Int) = n.toBitVec
  rw [BitVec.ofInt_natCast]
  simp
 rw [e1, e1]
 show IntKind.u8.wrap (((x.toBitVec ^^^ y.toBitVec).toNat : Nat) : Int) = _
 rw [show ((x ^^^ y).toNat) = (x.toBitVec ^^^ y.toBitVec).toNat from rfl]
 have := (x.toBitVec ^^^ y.toBitVec).isLt
 exact wrap_u8 (by omega) (by omega)
def xorP (a b : List UInt8) (k : Nat) : List UInt8 := (xorB a b).take k ++ a.drop k
theorem xorP_0 (a b : List UInt8) : xorP a b 0 = a := by simp [xorP]
theorem xorP_8 {a b : List UInt8} {n : Nat} (ha : a.length = n) (hb : b.length = n) : xorP a b n = xorB a b := by
 unfold xorP
 rw [List.take_of_length_le (by rw [xorB_len (by omega)]; omega), List.drop_of_length_le (by omega), List.append_nil]
theorem xorP_len {a b : List UInt8} {n k : Nat} (ha : a.length = n) (hb : b.length = n) (hk : k ≤ n) : (xorP a b k).length = n := by
 unfold xorP
 rw [List.length_append, List.length_take, List.length_drop, xorB_len (by omega)]; omega
theorem xorP_get {a b : List UInt8} {n k : Nat} (ha : a.length = n) (hb : b.length = n) (hk : k < n) : (xorP a b k)[k]? = some (a[k]'(by omega)) := by
 unfold xorP
 rw [List.getElem?_append_right (by rw [List.length_take]; omega), List.length_take, xorB_len (by omega), List.getElem?_drop]
 rw [show k + (k - min k a.length) = k by omega]
 exact List.getElem?_eq_getElem _
theorem xorP_succ {a b : List UInt8} {n k : Nat} (ha : a.length = n) (hb : b.length = n) (hk : k < n) : (xorP a b k).set k (a[k]'(by omega) ^^^ b[k]'(by omega)) = xorP a b (k + 1) := by
 apply List.ext_getElem?
 intro i
 have hx := xorB_len (a := a) (b := b) (by omega)
 by_cases hi : i = k
 ·subst hi
  rw [List.getElem?_set_self (by rw [xorP_len ha hb (by omega)]; exact hk)]
  unfold xorP
  rw [List.getElem?_append_left (by rw [List.length_take]; omega), List.getElem?_take, if_pos (by omega)]
  simp [xorB, List.getElem?_zipWith, hk, ha, hb]
 ·rw [List.getElem?_set_ne (by omega)]
  unfold xorP
  by_cases hlt : i < k
  ·rw [List.getElem?_append_left (by rw [List.length_take]; omega), List.getElem?_append_left (by rw [List.length_take]; omega), List.getElem?_take, List.getElem?_take, if_pos hlt, if_pos (by omega)]
  ·rw [List.getElem?_append_right (by rw [List.length_take]; omega), List.getElem?_append_right (by rw [List.length_take]; omega), List.getElem?_drop, List.getElem?_drop, List.length_take, List.length_take]
   congr 1
   omega
theorem splice_set {α : Type} (f : α → Value) (l : List α) (k : Nat) (x : α) (hk : k < l.length) : splice (l.map f) k [f x] = (l.set k x).map f := by
 unfold splice
 rw [List.set_eq_take_append_cons_drop, if_pos hk]
 simp
end Go.KH
namespace Go.KH

def stAt (w : List UStep) (i : Nat) : UStep := w[i]?.getD ⟨0, 0, 0, []⟩
theorem stAt_get {w : List UStep} {i : Nat} (h : i < w.length) : stAt w i = w[i] := by simp [stAt, h]
def readsB (s : UStep) (b : Int) : Bool := decide ((s.kind = 3 ∨ s.kind = 4) ∧ s.src = b)
def readB (w : List UStep) (left : List Nat) (i : Nat) : Bool := left.any fun k => decide (k ≠ i) && readsB (stAt w k) (stAt w i).dst
def freeB (w : List UStep) (left : List Nat) (st : List Int) (i : Nat) : Bool := decide ((stAt w i).dst ∈ st) || !readB w left i
structure PS where
 left : List Nat
 st : List Int
 mv : List UMove
def planStep (w : List UStep) (s : PS) : PS :=
 match s.left.findIdx? (freeB w s.left s.st) with
 | some k => ⟨s.left.eraseIdx k, s.st, s.mv ++ [⟨2, s.left[k]?.getD 0, (stAt w (s.left[k]?.getD 0)).dst, 0⟩]⟩
 | none => ⟨s.left, s.st ++ [(stAt w (s.left.headD 0)).dst], s.mv ++ [⟨1, s.left.headD 0, (stAt w (s.left.headD 0)).dst, s.st.length⟩]⟩
def meas (w : List UStep) (s : PS) : Nat := 2 * s.left.length - (if (stAt w (s.left.headD 0)).dst ∈ s.st then 1 else 0)
theorem free_of_st {w : List UStep} {left : List Nat} {st : List Int} {i : Nat} (h : (stAt w i).dst ∈ st) : freeB w left st i = true := by simp [freeB, h]
theorem head_not_st {w : List UStep} {s : PS} (hl : s.left ≠ []) (h : s.left.findIdx? (freeB w s.left s.st) = none) : ∀ i ∈ s.left, (stAt w i).dst ∉ s.st := by
 intro i hi hm
 have := (List.findIdx?_eq_none_iff.1 h) i hi
 rw [free_of_st hm] at this; cases this
theorem planStep_lt {w : List UStep} {s : PS} (hl : s.left ≠ []) : meas w (planStep w s) < meas w s := by
 have hpos : 0 < s.left.length := List.length_pos_iff.2 hl
 unfold planStep
 split
 ·rename_i k hk
  have hk' := (List.findIdx?_eq_some_iff_getElem.1 hk).1
  unfold meas
  simp only
  rw [List.length_eraseIdx_of_lt hk']
  split <;> split <;> omega
 ·rename_i hn
  have hh := head_not_st hl hn (s.left.headD 0) (by cases hs : s.left with | nil => exact absurd hs hl | cons a l => simp)
  unfold meas
  simp only [List.mem_append, List.mem_singleton, or_true, if_true]
  rw [if_neg hh]
  omega
def plan (w : List UStep) (s : PS) : List UMove := if h : s.left = [] then s.mv else plan w (planStep w s)
termination_by meas w s
decreasing_by exact planStep_lt h
theorem plan_done {w : List UStep} {s : PS} (h : s.left = []) : plan w s = s.mv := by rw [plan, dif_pos h]
theorem plan_next {w : List UStep} {s : PS} (h : s.left ≠ []) : plan w s = plan w (planStep w s) := by rw [plan, dif_neg h]
def ps0 (w : List UStep) : PS := ⟨List.range w.length, [], []⟩
def planB (w : List UStep) : List UMove := plan w (ps0 w)
structure PInv (w : List UStep) (s : PS) : Prop where
 sorted : s.left.Pairwise (· < ·)
 bound : ∀ i ∈ s.left, i < w.length
 nodup : s.st.Nodup
 mv : s.mv.length + s.left.length = w.length + s.st.length
 sub : ∀ d ∈ s.st, ∃ i, i < w.length ∧ d = (stAt w i).dst
theorem pinv0 (w : List UStep) : PInv w (ps0 w) := ⟨List.pairwise_lt_range, fun i hi => List.mem_range.1 hi, by simp [ps0], by simp [ps0], by simp [ps0]⟩
theorem pinv_step {w : List UStep} {s : PS} (p : PInv w s) (hl : s.left ≠ []) : PInv w (planStep w s) := by
 unfold planStep
 split
 ·rename_i k hk
  have hk' := (List.findIdx?_eq_some_iff_getElem.1 hk).1
  refine ⟨p.sorted.sublist (List.eraseIdx_sublist ..), fun i hi => p.bound i (List.mem_of_mem_eraseIdx hi), p.nodup, ?_, p.sub⟩
  have := p.mv
  simp only [List.length_append, List.length_singleton]
  rw [List.length_eraseIdx_of_lt hk']
  omega
 ·rename_i hn
  have hmem : s.left.headD 0 ∈ s.left := by cases hs : s.left with | nil => exact absurd hs hl | cons a l => simp
  have hh := head_not_st hl hn _ hmem
  refine ⟨p.sorted, p.bound, ?_, ?_, ?_⟩
  ·simp only
   rw [List.nodup_append]
   refine ⟨p.nodup, by simp, ?_⟩
   intro a ha b hb e
   simp only [List.mem_singleton] at hb
   subst hb; subst e
   exact hh ha
  ·have := p.mv
   simp only [List.length_append, List.length_singleton]
   omega
  ·intro d hd
   simp only [List.mem_append, List.mem_singleton] at hd
   rcases hd with hd | rfl
   ·exact p.sub d hd
   ·exact ⟨_, p.bound _ hmem, rfl⟩
theorem nodup_le : ∀ (n : Nat) (l : List Int), l.Nodup → (∀ x ∈ l, 0 ≤ x ∧ x < n) → l.length ≤ n
 | 0, l, _, hb => by
  cases l with
  | nil => simp
  | cons a l => have := hb a (List.mem_cons_self ..); omega
 | n + 1, l, hd, hb => by
  have ih := nodup_le n (l.erase (n : Int)) (hd.sublist List.erase_sublist) (fun x hx => by
   have h1 := hb x (List.mem_of_mem_erase hx)
   have h2 : x ≠ (n : Int) := fun e => by subst e; exact (List.Nodup.not_mem_erase hd) hx
   omega)
  have := List.length_erase (a := (n : Int)) (l := l)
  split at this <;> omega
theorem pinv_st {w : List UStep} {s : PS} (p : PInv w s) (hd : ∀ s ∈ w, 0 ≤ s.dst ∧ s.dst ≤ 7) : s.st.length ≤ 8 :=
 nodup_le 8 s.st p.nodup fun x hx => by
  obtain ⟨i, hi, rfl⟩ := p.sub x hx
  have := hd _ (List.getElem_mem hi)
  rw [stAt_get hi]; omega
theorem plan_end {w : List UStep} : ∀ (m : Nat) (s : PS), meas w s ≤ m → PInv w s → ∃ s', PInv w s' ∧ s'.left = [] ∧ plan w s = s'.mv
 | m, s, hm, p => by
  by_cases hl : s.left = []
  ·exact ⟨s, p, hl, plan_done hl⟩
  ·have hlt := planStep_lt (w := w) hl
   cases m with
   | zero => omega
   | succ m =>
    obtain ⟨s', h1, h2, h3⟩ := plan_end m (planStep w s) (by omega) (pinv_step p hl)
    exact ⟨s', h1, h2, by rw [plan_next hl]; exact h3⟩
theorem planB_len {w : List UStep} (hd : ∀ s ∈ w, 0 ≤ s.dst ∧ s.dst ≤ 7) : (planB w).length ≤ w.length + 8 := by
 obtain ⟨s, p, hl, e⟩ := plan_end _ (ps0 w) (Nat.le_refl _) (pinv0 w)
 have h1 := pinv_st p hd
 have h2 := p.mv
 unfold planB
 rw [e, hl] at *
 simp only [List.length_nil] at h2
 omega
theorem headD_0 (l : List Nat) (h : 0 < l.length) : l.headD 0 = l[0] := by
 cases l with
 | nil => simp at h
 | cons a l => rfl
theorem mem_erase {w : List UStep} {s : PS} (p : PInv w s) {k : Nat} (hk : k < s.left.length) (j : Nat) : j ∈ s.left.eraseIdx k ↔ j ∈ s.left ∧ j ≠ s.left[k] := by
 rw [List.mem_eraseIdx_iff_getElem]
 have hp := List.pairwise_iff_getElem.1 p.sorted
 constructor
 ·rintro ⟨i, hi, hne, rfl⟩
  refine ⟨List.getElem_mem hi, fun e => ?_⟩
  by_cases h : i < k
  ·have := hp i k hi hk h; omega
  ·have := hp k i hk hi (by omega); omega
 ·rintro ⟨hm, hne⟩
  obtain ⟨i, hi, rfl⟩ := List.getElem_of_mem hm
  exact ⟨i, hi, fun e => hne (by subst e; rfl), rfl⟩
end Go.KH
namespace Go.KH

structure UAct where
 sync : Bool
 place : Int
 data : List UInt8
deriving DecidableEq
abbrev UAct.cells (a : UAct) : List Value := [.bool a.sync, i64 a.place, str a.data]
def actDo (f : UFlash) (a : UAct) : UFlash := if a.sync then flashSync f else flashPut f a.place a.data
def actsDo (f : UFlash) (l : List UAct) : UFlash := l.foldl actDo f
def actOk (n : Nat) (a : UAct) : Prop := a.sync = false → (0 ≤ a.place ∧ a.place < n) ∧ a.data.length ≤ 96
theorem actsDo_take (f : UFlash) (l : List UAct) (k : Nat) (hk : k < l.length) : actsDo f (l.take (k + 1)) = actDo (actsDo f (l.take k)) l[k] := by
 unfold actsDo
 rw [List.take_succ_eq_append_getElem hk, List.foldl_append]; rfl
theorem flashSync_ok {f : UFlash} (h : flashOk f) : flashOk (flashSync f) := by
 have hs : ∀ (ds : List UDirty) (l : List (List UInt8)), (∀ s ∈ l, s.length ≤ 96) → (∀ d ∈ ds, d.data.length ≤ 96) → ∀ s ∈ syncS l ds, s.length ≤ 96 := by
  intro ds
  induction ds with
  | nil => intro l hl _; exact hl
  | cons d ds ih =>
   intro l hl hd
   unfold syncS
   refine ih _ (fun s hs => ?_) (fun x hx => hd x (List.mem_cons_of_mem _ hx))
   rcases List.mem_or_eq_of_mem_set hs with h1 | h1
   ·exact hl s h1
   ·rw [h1]; exact hd d (List.mem_cons_self ..)
 refine ⟨by unfold flashSync; rw [syncS_len]; exact h.1, by simp [flashSync], hs _ _ h.2.2.1 (fun d hd => ?_), fun i hi => by simp [flashSync] at hi⟩
 obtain ⟨i, hi, rfl⟩ := List.getElem_of_mem hd
 exact (h.2.2.2 i hi).2.1
theorem flashSync_len (f : UFlash) : (flashSync f).sec.length = f.sec.length := by unfold flashSync; rw [syncS_len]
theorem flashPut_len (f : UFlash) (n : Int) (d : List UInt8) : (flashPut f n d).sec.length = f.sec.length := by unfold flashPut; split <;> rfl
theorem actDo_len (f : UFlash) (a : UAct) : (actDo f a).sec.length = f.sec.length := by unfold actDo; split; exact flashSync_len f; exact flashPut_len _ _ _
theorem actsDo_len : ∀ (l : List UAct) (f : UFlash), (actsDo f l).sec.length = f.sec.length
 | [], _ => rfl
 | a :: l, f => by show (actsDo (actDo f a) l).sec.length = _; rw [actsDo_len l, actDo_len]
theorem dirty_room {f : UFlash} (h : flashOk f) {n : Int} (hn : 0 ≤ n ∧ n < f.sec.length) (hno : ∀ i, (hi : i < f.dirty.length) → f.dirty[i].place ≠ n) : f.dirty.length + 1 ≤ f.sec.length := by
 have hnd : (n :: f.dirty.map fun d => d.place).Nodup := by
  rw [List.nodup_cons]
  constructor
  ·intro hm
   obtain ⟨d, hd, he⟩ := List.mem_map.1 hm
   obtain ⟨i, hi, rfl⟩ := List.getElem_of_mem hd
   exact hno i hi he
  ·unfold List.Nodup
   rw [List.pairwise_iff_getElem]
   intro i j hi hj hij
   simp only [List.length_map] at hi hj
   simp only [List.getElem_map]
   exact (h.2.2.2 j hj).2.2 i hij
 have := nodup_le f.sec.length _ hnd (fun x hx => by
  rcases List.mem_cons.1 hx with rfl | hx
  ·exact hn
  ·obtain ⟨d, hd, rfl⟩ := List.mem_map.1 hx
   obtain ⟨i, hi, rfl⟩ := List.getElem_of_mem hd
   have := (h.2.2.2 i hi).1
   omega)
 simpa using this
theorem flashPut_at {f : UFlash} {n : Int} {d : List UInt8} {k : Nat} (hk : k < f.dirty.length) (h : f.dirty[k].place = n) (hn : ∀ i, (hi : i < k) → (f.dirty[i]'(by omega)).place ≠ n) : flashPut f n d = { f with dirty := f.dirty.set k ⟨n, d⟩ } := by
 have : firstAt (isAt n) f.dirty = k := firstAt_some hk (by simp [isAt, h]) (fun i hi => by simp [isAt, hn i hi])
 unfold flashPut
 rw [this, if_pos (by omega), Int.toNat_natCast]
theorem flashPut_new {f : UFlash} {n : Int} {d : List UInt8} (hn : ∀ i, (hi : i < f.dirty.length) → f.dirty[i].place ≠ n) : flashPut f n d = { f with dirty := f.dirty ++ [⟨n, d⟩] } := by
 have : firstAt (isAt n) f.dirty = -1 := firstAt_none (fun i hi => by simp [isAt, hn i hi])
 unfold flashPut
 rw [this, if_neg (by omega)]
theorem firstAt_neg {α : Type} {p : α → Bool} {l : List α} (h : ¬ 0 ≤ firstAt p l) : ∀ i, (hi : i < l.length) → p l[i] = false := fun i hi => by
 have h1 := firstAt_le p l
 have h2 : firstAt p l = -1 := by omega
 unfold firstAt at h2
 split at h2
 ·omega
 ·rename_i h3
  exact List.findIdx?_eq_none_iff.1 h3 l[i] (List.getElem_mem hi)
theorem flashPut_ok {f : UFlash} (h : flashOk f) {n : Int} {d : List UInt8} (hn : 0 ≤ n ∧ n < f.sec.length) (hd : d.length ≤ 96) : flashOk (flashPut f n d) := by
 by_cases h0 : 0 ≤ firstAt (isAt n) f.dirty
 ·obtain ⟨k, hk, he, hp, hno⟩ := firstAt_get h0
  rw [flashPut_at hk (by simpa [isAt] using hp) (fun i hi => by simpa [isAt] using hno i hi)]
  have hkn : f.dirty[k].place = n := by simpa [isAt] using hp
  refine ⟨h.1, by simpa using h.2.1, h.2.2.1, fun i hi => ?_⟩
  simp only [List.length_set] at hi
  have hpl : ∀ j (hj : j < f.dirty.length), ((f.dirty.set k ⟨n, d⟩)[j]'(by simpa using hj)).place = f.dirty[j].place := fun j hj => by
   rw [List.getElem_set]
   split
   ·rename_i e; subst e; exact hkn.symm
   ·rfl
  have h1 := h.2.2.2 i hi
  refine ⟨by rw [hpl i hi]; exact h1.1, ?_, fun j hj => by rw [hpl i hi, hpl j (by omega)]; exact h1.2.2 j hj⟩
  simp only [List.getElem_set]
  split
  ·exact hd
  ·exact h1.2.1
 ·have hno : ∀ i, (hi : i < f.dirty.length) → f.dirty[i].place ≠ n := fun i hi => by simpa [isAt] using firstAt_neg h0 i hi
  rw [flashPut_new hno]
  refine ⟨h.1, by simpa using dirty_room h hn hno, h.2.2.1, fun i hi => ?_⟩
  simp only [List.length_append, List.length_cons, List.length_nil] at hi
  by_cases hlt : i < f.dirty.length
  ·have h1 := h.2.2.2 i hlt
   refine ⟨by simp only [List.getElem_append_left hlt]; exact h1.1, by simp only [List.getElem_append_left hlt]; exact h1.2.1, fun j hj => ?_⟩
   simp only [List.getElem_append_left hlt, List.getElem_append_left (show j < f.dirty.length by omega)]
   exact h1.2.2 j hj
  ·obtain rfl : i = f.dirty.length := by omega
   refine ⟨by simp; omega, by simpa using hd, fun j hj => ?_⟩
   simp only [List.getElem_append_left hj]
   simpa using hno j hj
theorem actDo_ok {f : UFlash} (h : flashOk f) {a : UAct} (ha : actOk f.sec.length a) : flashOk (actDo f a) := by
 unfold actDo
 cases hs : a.sync with
 | true => simp only [if_true]; exact flashSync_ok h
 | false =>
  obtain ⟨h1, h2⟩ := ha hs
  simp only [Bool.false_eq_true, if_false]
  exact flashPut_ok h h1 h2
theorem actsDo_ok : ∀ (l : List UAct) {f : UFlash}, flashOk f → (∀ a ∈ l, actOk f.sec.length a) → flashOk (actsDo f l)
 | [], _, h, _ => h
 | a :: l, f, h, ha => actsDo_ok l (actDo_ok h (ha a (List.mem_cons_self ..))) (fun x hx => by rw [actDo_len]; exact ha x (List.mem_cons_of_mem _ hx))
end Go.KH