/- A helper of this seat's claims (the logic of the walks): what it shows is shown for every input that its statements name, on no other condition. -/
import Derived.Test.YtdofcojbjcpikaaDoorKD
set_option linter.unusedVariables false
set_option linter.unusedSimpArgs false
set_option maxRecDepth 100000
namespace Go.KH
open Go.RowKit

/-! ## Words of 32 bits: sums, shifts to the left -/
theorem or_w32 (x y : BitVec 32) : obin .or (w32 x) (w32 y) = some (w32 (x ||| y)) := by
  rw [bi_or, ofInt_w32, ofInt_w32]
  show some (Value.int .u32 (IntKind.u32.wrap ((x ||| y).toNat : Int))) = _
  rw [wrap_u32v]
theorem and_w32 (x y : BitVec 32) : obin .and (w32 x) (w32 y) = some (w32 (x &&& y)) := by
  rw [bi_and, ofInt_w32, ofInt_w32]
  show some (Value.int .u32 (IntKind.u32.wrap ((x &&& y).toNat : Int))) = _
  rw [wrap_u32v]
theorem add_w32 (x y : BitVec 32) : obin .add (w32 x) (w32 y) = some (w32 (x + y)) := by
  rw [bi_add]
  refine congrArg some (congrArg (Value.int .u32) ?_)
  rw [show ((x.toNat : Int) + (y.toNat : Int)) = ((x.toNat + y.toNat : Nat) : Int) from by push_cast; rfl, wrap_u32n, BitVec.toNat_add]
theorem shl_w32 (x : BitVec 32) (k : IntKind) (j : Nat) (hj : j ≤ 32) : obin .shl (w32 x) (.int k (j : Int)) = some (w32 (x <<< j)) := by
  rw [bi_shl, if_neg (by omega)]
  have : min (j : Int).toNat IntKind.u32.bits = j := by show min (j : Int).toNat 32 = j; omega
  rw [this]
  refine congrArg some (congrArg (Value.int .u32) ?_)
  rw [show ((x.toNat : Int) * 2 ^ j) = ((x.toNat * 2 ^ j : Nat) : Int) from by push_cast; rfl, wrap_u32n, BitVec.toNat_shiftLeft, Nat.shiftLeft_eq]
theorem shl24_w32 (x : BitVec 32) : obin .shl (w32 x) (.int .u64 24) = some (w32 (x <<< 24)) := shl_w32 x .u64 24 (by omega)
theorem shl16_w32 (x : BitVec 32) : obin .shl (w32 x) (.int .u64 16) = some (w32 (x <<< 16)) := shl_w32 x .u64 16 (by omega)
theorem shl8_w32 (x : BitVec 32) : obin .shl (w32 x) (.int .u64 8) = some (w32 (x <<< 8)) := shl_w32 x .u64 8 (by omega)
theorem shr3_w32 (x : BitVec 32) : obin .shr (w32 x) (.int .u64 3) = some (w32 (x >>> 3)) := shr_w32 x .u64 3 (by omega)
theorem shr10_w32 (x : BitVec 32) : obin .shr (w32 x) (.int .u64 10) = some (w32 (x >>> 10)) := shr_w32 x .u64 10 (by omega)
end Go.KH
