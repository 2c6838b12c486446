/- A helper of this seat's claims (the logic of the walks): what it shows is shown for every input that its statements name, on no other condition. -/
import Derived.Test.YtpponffjeilhmaaP1
set_option linter.unusedVariables false
set_option linter.unusedSimpArgs false
set_option maxRecDepth 100000
namespace Go.KH
open Go.RowKit

/-! ## Words of 32 bits, bytes -/
abbrev w32 (x : BitVec 32) : Value := .int .u32 (x.toNat : Int)
theorem bool_eq {p q : Prop} [Decidable p] [Decidable q] (h : p ↔ q) : Value.bool (decide p) = Value.bool (decide q) := by
  by_cases hp : p
  · simp [hp, h.1 hp]
  · have hq : ¬ q := fun hq => hp (h.2 hq)
    simp [hp, hq]
theorem wrap_u32n (n : Nat) : IntKind.u32.wrap (n : Int) = ((n % 4294967296 : Nat) : Int) := by
  unfold IntKind.wrap
  simp [IntKind.bits, IntKind.signed]
theorem wrap_u32v (x : BitVec 32) : IntKind.u32.wrap (x.toNat : Int) = (x.toNat : Int) := by
  rw [wrap_u32n, Nat.mod_eq_of_lt x.isLt]
theorem wrap_u8n (n : Nat) : IntKind.u8.wrap (n : Int) = ((n % 256 : Nat) : Int) := by
  unfold IntKind.wrap
  simp [IntKind.bits, IntKind.signed]
theorem ofInt_w32 (x : BitVec 32) : BitVec.ofInt IntKind.u32.bits (x.toNat : Int) = x := by
  show BitVec.ofInt 32 (x.toNat : Int) = x
  simp
theorem xor_w32 (x y : BitVec 32) : obin .xor (w32 x) (w32 y) = some (w32 (x ^^^ y)) := by
  rw [bi_xor, ofInt_w32, ofInt_w32]
  show some (Value.int .u32 (IntKind.u32.wrap ((x ^^^ y).toNat : Int))) = _
  rw [wrap_u32v]
theorem and1_w32 (x : BitVec 32) : obin .and (w32 x) (.int .u32 1) = some (w32 (x &&& 1#32)) := by
  rw [bi_and, ofInt_w32]
  show some (Value.int .u32 (IntKind.u32.wrap ((x &&& 1#32).toNat : Int))) = _
  rw [wrap_u32v]
theorem poly_w32 (x : BitVec 32) : obin .xor (w32 x) (.int .u32 3988292384) = some (w32 (x ^^^ poly)) := xor_w32 x poly
theorem ones_w32 (x : BitVec 32) : obin .xor (w32 x) (.int .u32 4294967295) = some (w32 (~~~ x)) := by
  have := xor_w32 x (BitVec.allOnes 32)
  rw [BitVec.xor_allOnes] at this
  exact this
theorem not_w32 (x : BitVec 32) : oun .xor (w32 x) = some (w32 (~~~ x)) := by
  rw [un_xor, ofInt_w32]
  show some (Value.int .u32 (IntKind.u32.wrap ((BitVec.allOnes 32 ^^^ x).toNat : Int))) = _
  rw [wrap_u32v, BitVec.xor_comm, BitVec.xor_allOnes]
theorem shr_w32 (x : BitVec 32) (k : IntKind) (j : Nat) (hj : j ≤ 32) : obin .shr (w32 x) (.int k (j : Int)) = some (w32 (x >>> j)) := by
  rw [bi_shr, if_neg (by omega)]
  have : min (j : Int).toNat IntKind.u32.bits = j := by simp [IntKind.bits]; omega
  rw [this]
  congr 2
  rw [BitVec.toNat_ushiftRight, Nat.shiftRight_eq_div_pow, Int.fdiv_eq_ediv_of_nonneg _ (by exact_mod_cast Nat.zero_le _)]
  norm_cast
theorem shr1_w32 (x : BitVec 32) : obin .shr (w32 x) (.int .u64 1) = some (w32 (x >>> 1)) := shr_w32 x .u64 1 (by omega)
theorem eq1_w32 (x : BitVec 32) : obin .eql (w32 x) (.int .u32 1) = some (.bool (decide (x = 1#32))) := by
  rw [bi_eql]
  refine congrArg some (bool_eq ?_)
  constructor
  · intro h; apply BitVec.eq_of_toNat_eq; have : x.toNat = 1 := by omega
    rw [this]; rfl
  · intro h; subst h; rfl
theorem wrap_b32 (b : UInt8) : IntKind.u32.wrap (b.toNat : Int) = ((b32 b).toNat : Int) := by
  have := b.toNat_lt
  rw [wrap_u32n]
  simp only [b32, BitVec.toNat_ofNat]
theorem wrap_i64_32 (x : BitVec 32) : IntKind.i64.wrap (x.toNat : Int) = (x.toNat : Int) := by
  have := x.isLt
  exact wrap_i64 (by omega) (by omega)
abbrev bys (l : List UInt8) : List (List Value) := l.map fun b => [.int .u8 (b.toNat : Int)]
theorem bytesOf_nil : bytesOf [] = some [] := rfl
theorem bytesOf_cons (n : Int) (l : List Value) : bytesOf (.int .u8 n :: l) = (bytesOf l).map fun r => UInt8.ofNat n.toNat :: r := rfl
theorem bytesOf_bys : ∀ l : List UInt8, bytesOf (bys l).flatten = some l
  | [] => rfl
  | b :: l => by
    show bytesOf (.int .u8 (b.toNat : Int) :: (bys l).flatten) = _
    rw [bytesOf_cons, bytesOf_bys l]
    simp
theorem ofNat_mod (n : Nat) : UInt8.ofNat (n % 256) = UInt8.ofNat n := by
  apply UInt8.toNat_inj.1
  simp
theorem toNat_u8 (b : UInt8) : IntKind.u8.wrap (b.toNat : Int) = (b.toNat : Int) := by
  have := b.toNat_lt
  rw [wrap_u8n, Nat.mod_eq_of_lt this]
theorem wrap_ofNat (n : Nat) : IntKind.u8.wrap (n : Int) = ((UInt8.ofNat n).toNat : Int) := by
  rw [wrap_u8n]; simp
theorem Own.shape {h0 h : H} {v : Value} {w : Nat} {rows : List (List Value)} (o : Own h0 h v w rows) : ∃ a c, v = .slice a rows.length c := by
  rcases o with ⟨rfl, rfl⟩ | ⟨b, c, z, rfl, _⟩
  · exact ⟨none, 0, rfl⟩
  · exact ⟨_, c, rfl⟩
theorem wrap_u64 {n : Int} (h0 : 0 ≤ n) (h1 : n < 18446744073709551616) : IntKind.u64.wrap n = n := by
  unfold IntKind.wrap
  simp only [IntKind.bits, IntKind.signed]
  simp
  omega
theorem wrap_u64m (n : Int) : IntKind.u64.wrap n = n % 18446744073709551616 := by
  unfold IntKind.wrap
  simp [IntKind.bits, IntKind.signed]
theorem or128 (u : Nat) : obin .or (.int .u8 ((UInt8.ofNat u).toNat : Int)) (.int .u8 128) = some (.int .u8 ((UInt8.ofNat (u % 128 + 128)).toNat : Int)) := by
  rw [bi_or]
  have key : ∀ b : BitVec 8, (b ||| 128#8).toNat = b.toNat % 128 + 128 := by decide
  have e1 : BitVec.ofInt IntKind.u8.bits ((UInt8.ofNat u).toNat : Int) = BitVec.ofNat 8 (UInt8.ofNat u).toNat := by
    exact BitVec.ofInt_natCast ..
  rw [e1]
  show some (Value.int .u8 (IntKind.u8.wrap ((BitVec.ofNat 8 (UInt8.ofNat u).toNat ||| 128#8).toNat : Int))) = _
  rw [key, wrap_ofNat, show (BitVec.ofNat 8 (UInt8.ofNat u).toNat).toNat % 128 + 128 = u % 128 + 128 by
    simp only [BitVec.toNat_ofNat, UInt8.toNat_ofNat']; omega]
theorem not_u64 (n : Nat) (h : n < 18446744073709551616) : oun .xor (.int .u64 (n : Int)) = some (.int .u64 ((18446744073709551615 - n : Nat) : Int)) := by
  rw [un_xor]
  have e1 : BitVec.ofInt IntKind.u64.bits (n : Int) = BitVec.ofNat 64 n := by
    exact BitVec.ofInt_natCast ..
  rw [e1]
  show some (Value.int .u64 (IntKind.u64.wrap ((BitVec.allOnes 64 ^^^ BitVec.ofNat 64 n).toNat : Int))) = _
  rw [BitVec.xor_comm, BitVec.xor_allOnes, BitVec.toNat_not, BitVec.toNat_ofNat, Nat.mod_eq_of_lt (by simpa using h), wrap_u64 (by omega) (by omega)]
/-- A string out of bytes of the call's own. -/
theorem b2s_own {h0 h : H} {v : Value} {l : List UInt8} {K : Value → Prop} (o : Own h0 h v 1 (bys l)) (hk : K (str l)) :
    withO (asR v) fun p => Br (p.2.2 = 0) (withO (some (str [])) K) (withO (ldc h p.1 p.2.1 p.2.2) fun cs => withO (bytesOf cs) fun r => withO (some (str r)) K) := by
  rcases o with ⟨rfl, e⟩ | ⟨b, c, z, rfl, hlc, hb, h0b, hg, hcz, hw⟩
  · have : l = [] := by simpa using e
    subst this
    simp only [nils, asR, withO_some]
    exact Br.of (fun _ => hk) (fun hn => absurd trivial hn)
  · simp only [asR_mk, withO_some, List.length_map]
    refine Br.of (fun h0 => ?_) (fun h0 => ?_)
    · have : l = [] := List.length_eq_zero_iff.1 h0
      subst this; exact hk
    · have hl := flat_length hw
      simp only [List.length_map, Nat.mul_one] at hl
      have e : ldc h b 0 l.length = some (bys l).flatten := by
        unfold ldc
        rw [hg]
        simp only
        rw [if_pos (by omega), List.drop_zero, List.take_of_length_le (by omega)]
      rw [e]
      simp only [withO_some, bytesOf_bys]
      exact hk
theorem shr_nat (k : IntKind) (n j : Nat) (hj : j ≤ k.bits) : obin .shr (.int k (n : Int)) (.int .u64 (j : Int)) = some (.int k ((n / 2 ^ j : Nat) : Int)) := by
  rw [bi_shr, if_neg (by omega)]
  have : min (j : Int).toNat k.bits = j := by simp; omega
  rw [this]
  congr 2
  rw [Int.fdiv_eq_ediv_of_nonneg _ (by exact_mod_cast Nat.zero_le _)]
  norm_cast
theorem shr8 (k : IntKind) (n : Nat) (hk : 32 ≤ k.bits) : obin .shr (.int k (n : Int)) (.int .u64 8) = some (.int k ((n / 256 : Nat) : Int)) := shr_nat k n 8 (by omega)
theorem shr16 (k : IntKind) (n : Nat) (hk : 32 ≤ k.bits) : obin .shr (.int k (n : Int)) (.int .u64 16) = some (.int k ((n / 65536 : Nat) : Int)) := shr_nat k n 16 (by omega)
theorem shr24 (k : IntKind) (n : Nat) (hk : 32 ≤ k.bits) : obin .shr (.int k (n : Int)) (.int .u64 24) = some (.int k ((n / 16777216 : Nat) : Int)) := shr_nat k n 24 (by omega)
end Go.KH
