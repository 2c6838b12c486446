/- A helper of this seat's claims (the logic of the walks): what it shows is shown for every input that its statements name, on no other condition. -/
import Derived.Test.YthjbhdmjfakfaaaGreatDoorKD
set_option linter.unusedVariables false
set_option linter.unusedSimpArgs false
set_option maxRecDepth 100000
namespace Go.KH
open Go.RowKit

/-! ## Words of 32 bits: sums, shifts to the left -/
theorem or_w32 (x y : BitVec 32) : obin .or (w32 x) (w32 y) = some (w32 (x ||| y)) := by
  rw [bi_or, ofInt_w32, ofInt_w32]
  show some (Value.int .u32 (IntKind.u32.wrap ((x ||| y).toNat : Int))) = _
  rw [wrap_u32v]
theorem and_w32 (x y : BitVec 32) : obin .and (w32 x) (w32 y) = some (w32 (x &&& y)) := by
  rw [bi_and, ofInt_w32, ofInt_w32]
  show some (Value.int .u32 (IntKind.u32.wrap ((x &&& y).toNat : Int))) = _
  rw [wrap_u32v]
theorem add_w32 (x y : BitVec 32) : obin .add (w32 x) (w32 y) = some (w32 (x + y)) := by
  rw [bi_add]
  refine congrArg some (congrArg (Value.int .u32) ?_)
  rw [show ((x.toNat : Int) + (y.toNat : Int)) = ((x.toNat + y.toNat : Nat) : Int) from by push_cast; rfl, wrap_u32n, BitVec.toNat_add]
theorem shl_w32 (x : BitVec 32) (k : IntKind) (j : Nat) (hj : j ≤ 32) : obin .shl (w32 x) (.int k (j : Int)) = some (w32 (x <<< j)) := by
  rw [bi_shl, if_neg (by omega)]
  have : min (j : Int).toNat IntKind.u32.bits = j := by show min (j : Int).toNat 32 = j; omega
  rw [this]
  refine congrArg some (congrArg (Value.int .u32) ?_)
  rw [show ((x.toNat : Int) * 2 ^ j) = ((x.toNat * 2 ^ j : Nat) : Int) from by push_cast; rfl, wrap_u32n, BitVec.toNat_shiftLeft, Nat.shiftLeft_eq]
theorem shl24_w32 (x : BitVec 32) : obin .shl (w32 x) (.int .u64 24) = some (w32 (x <<< 24)) := shl_w32 x .u64 24 (by omega)
theorem shl16_w32 (x : BitVec 32) : obin .shl (w32 x) (.int .u64 16) = some (w32 (x <<< 16)) := shl_w32 x .u64 16 (by omega)
theorem shl8_w32 (x : BitVec 32) : obin .shl (w32 x) (.int .u64 8) = some (w32 (x <<< 8)) := shl_w32 x .u64 8 (by omega)
theorem shr3_w32 (x : BitVec 32) : obin .shr (w32 x) (.int .u64 3) = some (w32 (x >>> 3)) := shr_w32 x .u64 3 (by omega)
theorem shr10_w32 (x : BitVec 32) : obin .shr (w32 x) (.int .u64 10) = some (w32 (x >>> 10)) := shr_w32 x .u64 10 (by omega)
end Go.KH

set_option linter.unusedVariables false
set_option maxRecDepth 100000
namespace Go.KH

/-! ## The digest, plain -/
def rotW (x : BitVec 32) (k : Nat) : BitVec 32 := (x >>> k) ||| (x <<< (32 - k))
def shaKeys : List Nat := [1116352408, 1899447441, 3049323471, 3921009573, 961987163, 1508970993, 2453635748, 2870763221, 3624381080, 310598401, 607225278, 1426881987, 1925078388, 2162078206, 2614888103, 3248222580, 3835390401, 4022224774, 264347078, 604807628, 770255983, 1249150122, 1555081692, 1996064986, 2554220882, 2821834349, 2952996808, 3210313671, 3336571891, 3584528711, 113926993, 338241895, 666307205, 773529912, 1294757372, 1396182291, 1695183700, 1986661051, 2177026350, 2456956037, 2730485921, 2820302411, 3259730800, 3345764771, 3516065817, 3600352804, 4094571909, 275423344, 430227734, 506948616, 659060556, 883997877, 958139571, 1322822218, 1537002063, 1747873779, 1955562222, 2024104815, 2227730452, 2361852424, 2428436474, 2756734187, 3204031479, 3329325298]
def shaKey (i : Nat) : BitVec 32 := BitVec.ofNat 32 (shaKeys.getD i 0)
/-- The words of a block: one more. -/
def wNext (w : List (BitVec 32)) : BitVec 32 :=
  let at' := fun k => w.getD (w.length - k) 0
  at' 16 + (rotW (at' 15) 7 ^^^ rotW (at' 15) 18 ^^^ at' 15 >>> 3) + at' 7 + (rotW (at' 2) 17 ^^^ rotW (at' 2) 19 ^^^ at' 2 >>> 10)
def wGrow (w : List (BitVec 32)) : Nat → List (BitVec 32)
  | 0 => w
  | n + 1 => wGrow w n ++ [wNext (wGrow w n)]
theorem wGrow_length (w : List (BitVec 32)) : ∀ n, (wGrow w n).length = w.length + n
  | 0 => rfl
  | n + 1 => by rw [wGrow, List.length_append, wGrow_length w n]; simp; omega
/-- The word that stands at 4 i. -/
def beW (l : List UInt8) (i : Nat) : BitVec 32 :=
  b32 (l.getD (4 * i) 0) <<< 24 ||| b32 (l.getD (4 * i + 1) 0) <<< 16 ||| b32 (l.getD (4 * i + 2) 0) <<< 8 ||| b32 (l.getD (4 * i + 3) 0)
def w16 (l : List UInt8) (n : Nat) : List (BitVec 32) := (List.range n).map (beW l)
structure S8 where
  (a b c d e f g h : BitVec 32)
def S8.list (s : S8) : List (BitVec 32) := [s.a, s.b, s.c, s.d, s.e, s.f, s.g, s.h]
def rnd (s : S8) (k w : BitVec 32) : S8 :=
  let t1 := s.h + (rotW s.e 6 ^^^ rotW s.e 11 ^^^ rotW s.e 25) + (s.e &&& s.f ^^^ ~~~ s.e &&& s.g) + k + w
  let t2 := (rotW s.a 2 ^^^ rotW s.a 13 ^^^ rotW s.a 22) + (s.a &&& s.b ^^^ s.a &&& s.c ^^^ s.b &&& s.c)
  ⟨t1 + t2, s.a, s.b, s.c, s.d + t1, s.e, s.f, s.g⟩
def rnds (w : List (BitVec 32)) (s : S8) : Nat → S8
  | 0 => s
  | n + 1 => rnd (rnds w s n) (shaKey n) (w.getD n 0)
def S8.plus (s t : S8) : S8 := ⟨s.a + t.a, s.b + t.b, s.c + t.c, s.d + t.d, s.e + t.e, s.f + t.f, s.g + t.g, s.h + t.h⟩
def shaBlock (s : S8) (l : List UInt8) : S8 := s.plus (rnds (wGrow (w16 l 16) 48) s 64)
def shaBlocks (l : List UInt8) (s : S8) : Nat → S8
  | 0 => s
  | n + 1 => shaBlock (shaBlocks l s n) ((l.drop (64 * n)).take 64)
def shaStart : S8 := ⟨1779033703, 3144134277, 1013904242, 2773480762, 1359893119, 2600822924, 528734635, 1541459225⟩
def shaPad (l : List UInt8) : List UInt8 :=
  l ++ [128] ++ List.replicate ((119 - l.length % 64) % 64) 0 ++ (List.range 8).map fun k => UInt8.ofNat (8 * l.length / 2 ^ (56 - 8 * k))
def beB (x : BitVec 32) : List UInt8 := [UInt8.ofNat (x.toNat / 16777216), UInt8.ofNat (x.toNat / 65536), UInt8.ofNat (x.toNat / 256), UInt8.ofNat x.toNat]
def shaL (l : List UInt8) : List UInt8 := ((shaBlocks (shaPad l) shaStart ((shaPad l).length / 64)).list.map beB).flatten
theorem shaL_length (l : List UInt8) : (shaL l).length = 32 := by
  simp [shaL, S8.list, beB]
end Go.KH
