/- A helper of this seat's claims (contracts of the functions): what it shows is shown for every input that its statements name, on no other condition. -/
import Derived.Test.YtdofcojbjcpikaaDoorC13a
set_option linter.unusedVariables false
set_option linter.unusedSimpArgs false
set_option maxRecDepth 100000
namespace Go.Proofs.YtdofcojbjcpikaaDoor
open Go.KH

/-! ## Records -/
def stepB (s : UStep) : List UInt8 := putNum s.kind ++ putNum s.dst ++ putNum s.src ++ putText s.data
def recordB (n : Int) (s : UStep) : List UInt8 := sealB (putNum n ++ stepB s)
def recordBytes (n : Int) (s : UStep) : List UInt8 := if (0 ≤ n ∧ n ≤ 1000000) ∧ stepOk s 8 then recordB n s else []
theorem stepOk_data {s : UStep} {b : Int} (h : stepOk s b) : s.data.length ≤ 8 := by
  have := h.2.2.2
  split at this
  · omega
  · rw [this]; simp
theorem stepB_le {s : UStep} (hs : s.ok) (hd : s.data.length ≤ 8000) : (stepB s).length ≤ 8040 := by
  have l1 := putNum_le hs.1
  have l2 := putNum_le hs.2.1
  have l3 := putNum_le hs.2.2.1
  have l4 := putText_le (t := s.data) (by omega)
  unfold stepB
  simp only [List.length_append]; omega
theorem sl3 {h : H} {b : Nat} {x y z : Int} (hb : h.get b = some ⟨[i64 x, i64 y, i64 z], 3⟩) : Sl h (sl b 0 3 3) 1 ([x, y, z].map fun n => [i64 n]) :=
  ⟨_, _, b, 0, rfl, Nat.le_refl _, rfl, fun i r hr => by
    match i, hr with
    | 0, hr => simp only [List.map_cons, List.map_nil, List.getElem?_cons_zero, Option.some.injEq] at hr; subst hr; simp [ldc, hb]
    | 1, hr => simp only [List.map_cons, List.map_nil, List.getElem?_cons_succ, List.getElem?_cons_zero, Option.some.injEq] at hr; subst hr; simp [ldc, hb]
    | 2, hr => simp only [List.map_cons, List.map_nil, List.getElem?_cons_succ, List.getElem?_cons_zero, Option.some.injEq] at hr; subst hr; simp [ldc, hb]
    | i + 3, hr => simp at hr⟩
end Go.Proofs.YtdofcojbjcpikaaDoor
