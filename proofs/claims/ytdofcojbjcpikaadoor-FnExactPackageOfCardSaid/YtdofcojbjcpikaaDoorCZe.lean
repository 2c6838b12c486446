/- A helper of this seat's claims (contracts of the functions): what it shows is shown for every input that its statements name, on no other condition. -/
import Derived.Test.YtdofcojbjcpikaaDoorK31
import Derived.Test.YtdofcojbjcpikaaDoorCZa
import Derived.Test.YtdofcojbjcpikaaDoorRows
set_option linter.unusedVariables false
set_option linter.unusedSimpArgs false
set_option maxRecDepth 100000
namespace Go.Proofs.YtdofcojbjcpikaaDoor
open Go.KH Go.RowKit

/-! ## The tables, as the rows list them -/
abbrev laidL : List (String × DataW Unit) := [("loop.example/g00668/impl.digestStart", Rows.laid_loop_example_g00668_impl_digestStart), ("loop.example/g00668/impl.digestRounds", Rows.laid_loop_example_g00668_impl_digestRounds)]
theorem start_tab : (Rows.laid_loop_example_g00668_impl_digestStart : DataW Unit) = Lib.tabData .u32 (shaStart.list.map fun x => (x.toNat : Int)) := by rfl
theorem keys_tab : (Rows.laid_loop_example_g00668_impl_digestRounds : DataW Unit) = Lib.tabData .u32 (keysL.map fun x => (x.toNat : Int)) := by rfl
theorem flat_w (l : List (BitVec 32)) : (l.map fun x => (x.toNat : Int)).map (fun z => Value.int .u32 z) = (wsV l).flatten := by
  induction l with
  | nil => rfl
  | cons x l ih => simp only [List.map_cons, List.flatten_cons, ih]; rfl
theorem tabs_of {W : World} (h : laidMetH Tryd.prog laidL W) : Tabs (h0 W) := by
  rw [MakeChecks.laidMetH_plain _ _ _ (by kernel_rfl)] at h
  obtain ⟨ps, ⟨g0, t0, cs0, f0, p0, q0, hg0, ht0, hv0, hd0, ⟨g1, t1, cs1, f1, p1, q1, hg1, ht1, hv1, hd1, _, _⟩, _⟩, _, _⟩ := h
  obtain rfl := Option.some.inj ((show Tryd.prog.globalNamed "loop.example/g00668/impl.digestStart" = some 0 by kernel_rfl).symm.trans hg0)
  obtain rfl := Option.some.inj ((show Tryd.prog.globalNamed "loop.example/g00668/impl.digestRounds" = some 1 by kernel_rfl).symm.trans hg1)
  obtain rfl := Option.some.inj ((show (Tryd.prog.globals[0]?).map (·.type) = some 79 by kernel_rfl).symm.trans ht0)
  obtain rfl := Option.some.inj ((show (Tryd.prog.globals[1]?).map (·.type) = some 107 by kernel_rfl).symm.trans ht1)
  rw [start_tab] at hd0
  rw [keys_tab] at hd1
  have u32 : Tryd.prog.underlying 78 = some (.int .u32) := by kernel_rfl
  have c32 : Tryd.prog.cellsOf 78 = 1 := by kernel_rfl
  obtain ⟨z0, k0⟩ := laid_cells hg0 hv0 (show Tryd.prog.underlying 79 = some (.array 8 78) by kernel_rfl) u32 c32 (by kernel_rfl) hd0
  obtain ⟨z1, k1⟩ := laid_cells hg1 hv1 (show Tryd.prog.underlying 107 = some (.array 64 78) by kernel_rfl) u32 c32 (by kernel_rfl) hd1
  rw [flat_w] at k0 k1
  have s0 := Sl.of_get (c := 8) k0 (Nat.le_of_eq rfl) (Wid.map fun _ => rfl)
  have s1 := Sl.of_get (c := 64) k1 (Nat.le_of_eq rfl) (Wid.map fun _ => rfl)
  exact ⟨s0, s1, trivial⟩
/-- The door's own heap meets the condition. -/
theorem door_met (os : Os) (args : Array Value) : laidMetH Tryd.prog laidL ((World.doorLaid Tryd.prog 400 os).forCall (fun _ _ => 0) ⟨#[], args, []⟩).memory :=
  laidMetH_of_parts3 (fuel := 8) (laidMet_of_run' 8 (by kernel_rfl) (by kernel_rfl)) (by kernel_rfl) (by kernel_rfl)
end Go.Proofs.YtdofcojbjcpikaaDoor
