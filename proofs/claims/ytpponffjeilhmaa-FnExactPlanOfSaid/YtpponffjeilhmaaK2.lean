/- A helper of this seat's claims (the logic of the walks): what it shows is shown for every input that its statements name, on no other condition. -/
import Derived.Test.YtpponffjeilhmaaK1
set_option linter.unusedVariables false
set_option linter.unusedSimpArgs false
namespace Go.KH
open Go.RowKit

section
variable {P : Program}

theorem asB_some {v : Value} {t : Bool} (h : asB v = some t) : v = .bool t := by cases v <;> simp_all [asB]
theorem asI_some {v : Value} {q : IntKind × Int} (h : asI v = some q) : v = .int q.1 q.2 := by
  cases v with
  | int k n => simp only [asI, Option.some.injEq] at h; subst h; rfl
  | _ => cases h
theorem asP_some {v : Value} {q : Nat × Nat} (h : asP v = some q) : v = ptr q.1 q.2 := by
  unfold asP at h; split at h
  · simp at h; subst h; rfl
  · cases h
theorem asS_some {v : Value} {q : List UInt8} (h : asS v = some q) : ∃ s, v = .string s ∧ q = bl s := by cases v <;> simp_all [asS]
theorem asA_some {v : Value} {q : List Value} (h : asA v = some q) : v = .agg q.toArray := by cases v <;> simp_all [asA]; subst h; rfl
theorem asT_some {v : Value} {q : List Value} (h : asT v = some q) : v = .tuple q.toArray := by cases v <;> simp_all [asT]; subst h; rfl
theorem asL_some {v : Value} {q : Option Addr × Nat × Nat} (h : asL v = some q) : v = .slice q.1 q.2.1 q.2.2 := by
  cases v with
  | slice k n c => simp only [asL, Option.some.injEq] at h; subst h; rfl
  | _ => cases h
theorem asR_some {v : Value} {q : Nat × Nat × Nat} (h : asR v = some q) : (∃ c, v = sl q.1 q.2.1 q.2.2 c) ∨ (∃ a c, v = .slice a 0 c ∧ q.2.2 = 0) := by
  unfold asR at h; split at h
  · simp at h; subst h; exact .inl ⟨_, rfl⟩
  · simp at h; subst h; exact .inr ⟨_, _, rfl, rfl⟩
  · cases h

theorem run_typeInfo' {t : TypeId} {i : TypeInfo} (h : P.info? t = some i) (w : World) : (typeInfo t).run P w = .ok i w := by
  simp [typeInfo, h]
theorem run_sizeOf' {t : TypeId} {i : TypeInfo} (h : P.info? t = some i) (w : World) : (sizeOf t).run P w = .ok i.size w := by
  simp [sizeOf, run_typeInfo' h]
theorem run_isAgg' {t : TypeId} {d : TypeDesc} (h : P.underlying t = some d) (w : World) : (isAgg t).run P w = .ok (isAggD d) w := by
  cases d <;> simp [isAgg, run_underlying h, isAggD]
theorem run_zeroValue' {t : TypeId} {i : TypeInfo} {z : Value} (h : P.info? t = some i) (hz : i.zero = some z) (w : World) : (zeroValue t).run P w = .ok z w := by
  simp [zeroValue, run_typeInfo' h, hz]
theorem run_part' {t : TypeId} {i : TypeInfo} {d : TypeDesc} (h : P.info? t = some i) (hd : P.underlying t = some d) (cs : List Value) (off : Nat) (w : World) {v : Value}
    (hv : (if isAggD d then some (.agg ((cs.drop off).take i.size).toArray) else cs[off]?) = some v) : (part t cs.toArray off).run P w = .ok v w := by
  unfold part
  simp only [Sem.run_bind, run_isAgg' hd, Result.andThen_ok]
  split at hv
  · rename_i ha
    simp only [Option.some.injEq] at hv
    subst hv
    simp only [ha, if_true, Sem.run_bind, run_sizeOf' h, Result.andThen_ok, Sem.run_pure]
    congr 2
    rw [← Array.toList_inj]
    simp [List.extract_eq_take_drop]
  · rename_i ha
    simp only [ha, if_false, Bool.false_eq_true]
    have h2 : cs.toArray[off]? = some v := by simpa using hv
    rw [h2]; rfl

theorem run_asInt {k : IntKind} {n : Int} (w : World) : (asInt (.int k n)).run P w = .ok n w := rfl
theorem run_asIntOf {k : IntKind} {n : Int} (w : World) : (asIntOf (.int k n)).run P w = .ok (k, n) w := rfl

theorem bl_length (s : ByteArray) : (bl s).length = s.size := rfl
theorem toList_eq (s : ByteArray) : s.toList = bl s := by
  rw [bl]; exact ByteArray.toList_eq s

theorem run_bnd {x : Option Value} {d y : Nat} {n : Nat} {code : BoundsCode} (w : World) (v : Value) (hx : x = some v) (h : bnd x d y = some n) : (Instr.sliceBound v y code).run P w = .ok n w := by
  subst hx
  simp only [bnd, Option.bind_eq_some_iff] at h
  obtain ⟨q, hq, h⟩ := h
  split at h
  · rename_i hc
    simp only [Option.some.injEq] at h
    rw [asI_some hq]
    unfold Instr.sliceBound
    simp only [Sem.run_bind, run_asIntOf, Result.andThen_ok, hc, and_self, if_true, Sem.run_pure, h]
  · cases h

theorem run_bounds {b : Bool} {len cap l hh : Nat} {lo hi : Option Value} (w : World) (h1 : bnd hi len cap = some hh) (h2 : bnd lo 0 hh = some l) :
    (Instr.sliceBounds b len cap lo hi none).run P w = .ok (l, hh, cap) w := by
  unfold Instr.sliceBounds
  cases hi with
  | none =>
    simp only [bnd, Option.some.injEq] at h1; subst h1
    cases lo with
    | none => simp only [bnd, Option.some.injEq] at h2; subst h2; simp
    | some v => simp [run_bnd w v rfl h2]
  | some u =>
    cases lo with
    | none => simp only [bnd, Option.some.injEq] at h2; subst h2; simp [run_bnd w u rfl h1]
    | some v => simp [run_bnd w u rfl h1, run_bnd w v rfl h2]

theorem run_ibin {op : BinOp} {k : IntKind} {a b : Int} {v : Value} (w : World) (hs : op ≠ .shl) (hr : op ≠ .shr) (h : ibin op k a b = some v) (t : TypeId) :
    (binOp op t (.int k a) (.int k b)).run P w = .ok v w := by
  cases op <;> simp_all [ibin, binOp, Op.intArith, Op.intDiv, Op.intBits, Op.intCmp] <;>
    first
      | (subst h; rfl)
      | (obtain ⟨h0, h⟩ := h; subst h; simp [h0])
      | (subst h; simp [BEq.beq, bne]; done)
      | (subst h; congr; simp [bne, BEq.beq, Bool.not_eq_true, decide_not])
      | skip
end
end Go.KH
