/-
  No cell of these rows narrows 'for every input' (looked for: loops, veiled, ifaces, maps, wideKeys, modest, calm, conditions, laid).
  DERIVED. THE GIVEN ROWS OF THIS SEAT. 7 by the template 'for every input the law returns true; each argument reads behind the call as it read before'; 0 by the template 'total and deterministic' (their statements: YthheclnjaemjnaaTotals.lean).
  GIVEN WITH THE SEED: the statements are not yours to turn. If you find one false, say at which input.
  Laid BY PROGRAM, IN A SANDBOX (cutbox-rows.mjs): the forced cells as the released guide's own fill.sh prints them over the translation 42632587bd875f4b… (all of the seat's roots in one cut). By AI agents, Wed Nov 11 2026. No macro, syntax, notation, axiom, sorry.
-/
import Derived.Test.YthheclnjaemjnaaChecked
import GoSem.Claim
import GoSem.ClaimJoined
import GoSem.ClaimMapViews
import Derived.JoinedTies
import Derived.KernelRfl
namespace Go.Proofs.Ythheclnjaemjnaa
/- THE CELL 'sum', in the pinned program and in every row, IS THE sha256 OF THE DUMP (.gsa) THAT YthheclnjaemjnaaProg.lean LOADS. Nothing in Lean hashes anything: it is a label: what it is worth is what the hold of that sum in a sandbox is worth. -/
noncomputable def Try.pinned : Pinned := { name := "ythheclnjaemjnaa", sum := "42632587bd875f4b916434fdbd463540122c85ef8ee1953db1ea635e3013dc44", checked := Try.checked }
namespace Rows
def none {H : Type} : Left H := { results := [], args := [] }

/-- 'laws.FnLog': WHATEVER THE INPUT: true; the input reads as it did. -/
def fnLogSpec : ChangeSpec := { name := "fnLog", fn := fun _ => fun
  | [d1, d2] => { results := [.lit (.bool true)], args := [d1, d2] }
  | _ => none }
def fnLogRow : OpenClaim := { program := "ythheclnjaemjnaa", sum := "42632587bd875f4b916434fdbd463540122c85ef8ee1953db1ea635e3013dc44", func := "loop.example/g00668/laws.FnLog", spec := "fnLog", apart := false }
def FnLogSaid : Prop := fnLogRow.holds Try.pinned (OpenSpec.ofChange fnLogSpec)

/-- ITS FALSE NEIGHBOUR: 'it returns false'. Refute it at one input. -/
def fnLogWrong : ChangeSpec := { name := "fnLog", fn := fun _ => fun
  | [d1, d2] => { results := [.lit (.bool false)], args := [d1, d2] }
  | _ => none }
def FnLogWrongFalsely : Prop := fnLogRow.holds Try.pinned (OpenSpec.ofChange fnLogWrong)

/-- 'laws.FnState': WHATEVER THE INPUT: true; the input reads as it did. -/
def fnStateSpec : ChangeSpec := { name := "fnState", fn := fun _ => fun
  | [d1, d2] => { results := [.lit (.bool true)], args := [d1, d2] }
  | _ => none }
def fnStateRow : OpenClaim := { program := "ythheclnjaemjnaa", sum := "42632587bd875f4b916434fdbd463540122c85ef8ee1953db1ea635e3013dc44", func := "loop.example/g00668/laws.FnState", spec := "fnState", apart := false }
def FnStateSaid : Prop := fnStateRow.holds Try.pinned (OpenSpec.ofChange fnStateSpec)

/-- ITS FALSE NEIGHBOUR: 'it returns false'. Refute it at one input. -/
def fnStateWrong : ChangeSpec := { name := "fnState", fn := fun _ => fun
  | [d1, d2] => { results := [.lit (.bool false)], args := [d1, d2] }
  | _ => none }
def FnStateWrongFalsely : Prop := fnStateRow.holds Try.pinned (OpenSpec.ofChange fnStateWrong)

/-- 'laws.FnExactIdealBoot': WHATEVER THE INPUT: true; the input reads as it did. -/
def fnExactIdealBootSpec : ChangeSpec := { name := "fnExactIdealBoot", fn := fun _ => fun
  | [d] => { results := [.lit (.bool true)], args := [d] }
  | _ => none }
def fnExactIdealBootRow : OpenClaim := { program := "ythheclnjaemjnaa", sum := "42632587bd875f4b916434fdbd463540122c85ef8ee1953db1ea635e3013dc44", func := "loop.example/g00668/laws.FnExactIdealBoot", spec := "fnExactIdealBoot", unfollowed := true, recurses := true, apart := false }
def FnExactIdealBootSaid : Prop := fnExactIdealBootRow.holds Try.pinned (OpenSpec.ofChange fnExactIdealBootSpec)

/-- ITS FALSE NEIGHBOUR: 'it returns false'. Refute it at one input. -/
def fnExactIdealBootWrong : ChangeSpec := { name := "fnExactIdealBoot", fn := fun _ => fun
  | [d] => { results := [.lit (.bool false)], args := [d] }
  | _ => none }
def FnExactIdealBootWrongFalsely : Prop := fnExactIdealBootRow.holds Try.pinned (OpenSpec.ofChange fnExactIdealBootWrong)

/-- 'laws.FnExactMachineFit': WHATEVER THE INPUT: true; the input reads as it did. -/
def fnExactMachineFitSpec : ChangeSpec := { name := "fnExactMachineFit", fn := fun _ => fun
  | [d] => { results := [.lit (.bool true)], args := [d] }
  | _ => none }
def fnExactMachineFitRow : OpenClaim := { program := "ythheclnjaemjnaa", sum := "42632587bd875f4b916434fdbd463540122c85ef8ee1953db1ea635e3013dc44", func := "loop.example/g00668/laws.FnExactMachineFit", spec := "fnExactMachineFit", unfollowed := true, recurses := true, apart := false }
def FnExactMachineFitSaid : Prop := fnExactMachineFitRow.holds Try.pinned (OpenSpec.ofChange fnExactMachineFitSpec)

/-- ITS FALSE NEIGHBOUR: 'it returns false'. Refute it at one input. -/
def fnExactMachineFitWrong : ChangeSpec := { name := "fnExactMachineFit", fn := fun _ => fun
  | [d] => { results := [.lit (.bool false)], args := [d] }
  | _ => none }
def FnExactMachineFitWrongFalsely : Prop := fnExactMachineFitRow.holds Try.pinned (OpenSpec.ofChange fnExactMachineFitWrong)

/-- 'laws.FnExactStashOf': WHATEVER THE INPUT: true; the input reads as it did. -/
def fnExactStashOfSpec : ChangeSpec := { name := "fnExactStashOf", fn := fun _ => fun
  | [d1, d2] => { results := [.lit (.bool true)], args := [d1, d2] }
  | _ => none }
def fnExactStashOfRow : OpenClaim := { program := "ythheclnjaemjnaa", sum := "42632587bd875f4b916434fdbd463540122c85ef8ee1953db1ea635e3013dc44", func := "loop.example/g00668/laws.FnExactStashOf", spec := "fnExactStashOf", unfollowed := true, recurses := true, apart := false }
def FnExactStashOfSaid : Prop := fnExactStashOfRow.holds Try.pinned (OpenSpec.ofChange fnExactStashOfSpec)

/-- ITS FALSE NEIGHBOUR: 'it returns false'. Refute it at one input. -/
def fnExactStashOfWrong : ChangeSpec := { name := "fnExactStashOf", fn := fun _ => fun
  | [d1, d2] => { results := [.lit (.bool false)], args := [d1, d2] }
  | _ => none }
def FnExactStashOfWrongFalsely : Prop := fnExactStashOfRow.holds Try.pinned (OpenSpec.ofChange fnExactStashOfWrong)

/-- 'laws.FnExactMachineNew': WHATEVER THE INPUT: true; the input reads as it did. -/
def fnExactMachineNewSpec : ChangeSpec := { name := "fnExactMachineNew", fn := fun _ => fun
  | [d] => { results := [.lit (.bool true)], args := [d] }
  | _ => none }
def fnExactMachineNewRow : OpenClaim := { program := "ythheclnjaemjnaa", sum := "42632587bd875f4b916434fdbd463540122c85ef8ee1953db1ea635e3013dc44", func := "loop.example/g00668/laws.FnExactMachineNew", spec := "fnExactMachineNew", unfollowed := true, recurses := true, apart := false }
def FnExactMachineNewSaid : Prop := fnExactMachineNewRow.holds Try.pinned (OpenSpec.ofChange fnExactMachineNewSpec)

/-- ITS FALSE NEIGHBOUR: 'it returns false'. Refute it at one input. -/
def fnExactMachineNewWrong : ChangeSpec := { name := "fnExactMachineNew", fn := fun _ => fun
  | [d] => { results := [.lit (.bool false)], args := [d] }
  | _ => none }
def FnExactMachineNewWrongFalsely : Prop := fnExactMachineNewRow.holds Try.pinned (OpenSpec.ofChange fnExactMachineNewWrong)

/-- 'laws.FnExactStateOf': WHATEVER THE INPUT: true; the input reads as it did. -/
def fnExactStateOfSpec : ChangeSpec := { name := "fnExactStateOf", fn := fun _ => fun
  | [d] => { results := [.lit (.bool true)], args := [d] }
  | _ => none }
def fnExactStateOfRow : OpenClaim := { program := "ythheclnjaemjnaa", sum := "42632587bd875f4b916434fdbd463540122c85ef8ee1953db1ea635e3013dc44", func := "loop.example/g00668/laws.FnExactStateOf", spec := "fnExactStateOf", unfollowed := true, recurses := true, apart := false }
def FnExactStateOfSaid : Prop := fnExactStateOfRow.holds Try.pinned (OpenSpec.ofChange fnExactStateOfSpec)

/-- ITS FALSE NEIGHBOUR: 'it returns false'. Refute it at one input. -/
def fnExactStateOfWrong : ChangeSpec := { name := "fnExactStateOf", fn := fun _ => fun
  | [d] => { results := [.lit (.bool false)], args := [d] }
  | _ => none }
def FnExactStateOfWrongFalsely : Prop := fnExactStateOfRow.holds Try.pinned (OpenSpec.ofChange fnExactStateOfWrong)

/- THE SECOND FORM. 'bulk': how many values and letters a reading holds, each counted each time it is reached (what is shared counts as often as it is met; a slice's spare places count too). A statement '..UptoSaid' is the law's where the arguments, and the package variables that the reading takes, are together of bulk at most 1048576: NARROWER than '..Said'. Prove '..Said' where nothing that the law and all that it calls make is longer than what came in: it says more and counts as full. Else prove '..UptoSaid'. A law counts once. -/
mutual
def uptoBulk {H : Type} : DataW H → Nat
  | .lit (.string bytes) => bytes.length + 1
  | .lit _ => 1
  | .nil => 1
  | .ptr d => uptoBulk d + 1
  | .slice elems spare => uptoBulkAll elems + uptoBulkAll spare + 1
  | .agg parts => uptoBulkAll parts + 1
  | .iface _ d => uptoBulk d + 1
  | .map entries => uptoBulkEntries entries + 1
  | .held _ => 1
def uptoBulkAll {H : Type} : List (DataW H) → Nat
  | [] => 0
  | d :: r => uptoBulk d + uptoBulkAll r
def uptoBulkEntries {H : Type} : List (Lit × DataW H) → Nat
  | [] => 0
  | x :: r => uptoBulkEntry x + uptoBulkEntries r
def uptoBulkEntry {H : Type} : Lit × DataW H → Nat
  | (.string bytes, d) => bytes.length + uptoBulk d + 1
  | (_, d) => uptoBulk d + 1
 end
def uptoSmall : (H : Type) → List (DataW H) → Bool := fun _ ds => decide (uptoBulkAll ds ≤ 1048576)
def OpenSpec.upto (s : _root_.Go.ChangeSpec) : _root_.Go.OpenSpec := { _root_.Go.OpenSpec.ofChange s with cond := some uptoSmall }

/-- 'laws.FnLog', WHERE WHAT IT READS IS OF BULK AT MOST 1048576: true; the input reads as it did. -/
def fnLogUptoRow : OpenClaim := { program := "ythheclnjaemjnaa", sum := "42632587bd875f4b916434fdbd463540122c85ef8ee1953db1ea635e3013dc44", func := "loop.example/g00668/laws.FnLog", spec := "fnLog", apart := false, narrowed := true }
def FnLogUptoSaid : Prop := fnLogUptoRow.holds Try.pinned (OpenSpec.upto fnLogSpec)

/-- 'laws.FnState', WHERE WHAT IT READS IS OF BULK AT MOST 1048576: true; the input reads as it did. -/
def fnStateUptoRow : OpenClaim := { program := "ythheclnjaemjnaa", sum := "42632587bd875f4b916434fdbd463540122c85ef8ee1953db1ea635e3013dc44", func := "loop.example/g00668/laws.FnState", spec := "fnState", apart := false, narrowed := true }
def FnStateUptoSaid : Prop := fnStateUptoRow.holds Try.pinned (OpenSpec.upto fnStateSpec)

/-- 'laws.FnExactIdealBoot', WHERE WHAT IT READS IS OF BULK AT MOST 1048576: true; the input reads as it did. -/
def fnExactIdealBootUptoRow : OpenClaim := { program := "ythheclnjaemjnaa", sum := "42632587bd875f4b916434fdbd463540122c85ef8ee1953db1ea635e3013dc44", func := "loop.example/g00668/laws.FnExactIdealBoot", spec := "fnExactIdealBoot", unfollowed := true, recurses := true, apart := false, narrowed := true }
def FnExactIdealBootUptoSaid : Prop := fnExactIdealBootUptoRow.holds Try.pinned (OpenSpec.upto fnExactIdealBootSpec)

/-- 'laws.FnExactMachineFit', WHERE WHAT IT READS IS OF BULK AT MOST 1048576: true; the input reads as it did. -/
def fnExactMachineFitUptoRow : OpenClaim := { program := "ythheclnjaemjnaa", sum := "42632587bd875f4b916434fdbd463540122c85ef8ee1953db1ea635e3013dc44", func := "loop.example/g00668/laws.FnExactMachineFit", spec := "fnExactMachineFit", unfollowed := true, recurses := true, apart := false, narrowed := true }
def FnExactMachineFitUptoSaid : Prop := fnExactMachineFitUptoRow.holds Try.pinned (OpenSpec.upto fnExactMachineFitSpec)

/-- 'laws.FnExactStashOf', WHERE WHAT IT READS IS OF BULK AT MOST 1048576: true; the input reads as it did. -/
def fnExactStashOfUptoRow : OpenClaim := { program := "ythheclnjaemjnaa", sum := "42632587bd875f4b916434fdbd463540122c85ef8ee1953db1ea635e3013dc44", func := "loop.example/g00668/laws.FnExactStashOf", spec := "fnExactStashOf", unfollowed := true, recurses := true, apart := false, narrowed := true }
def FnExactStashOfUptoSaid : Prop := fnExactStashOfUptoRow.holds Try.pinned (OpenSpec.upto fnExactStashOfSpec)

/-- 'laws.FnExactMachineNew', WHERE WHAT IT READS IS OF BULK AT MOST 1048576: true; the input reads as it did. -/
def fnExactMachineNewUptoRow : OpenClaim := { program := "ythheclnjaemjnaa", sum := "42632587bd875f4b916434fdbd463540122c85ef8ee1953db1ea635e3013dc44", func := "loop.example/g00668/laws.FnExactMachineNew", spec := "fnExactMachineNew", unfollowed := true, recurses := true, apart := false, narrowed := true }
def FnExactMachineNewUptoSaid : Prop := fnExactMachineNewUptoRow.holds Try.pinned (OpenSpec.upto fnExactMachineNewSpec)

/-- 'laws.FnExactStateOf', WHERE WHAT IT READS IS OF BULK AT MOST 1048576: true; the input reads as it did. -/
def fnExactStateOfUptoRow : OpenClaim := { program := "ythheclnjaemjnaa", sum := "42632587bd875f4b916434fdbd463540122c85ef8ee1953db1ea635e3013dc44", func := "loop.example/g00668/laws.FnExactStateOf", spec := "fnExactStateOf", unfollowed := true, recurses := true, apart := false, narrowed := true }
def FnExactStateOfUptoSaid : Prop := fnExactStateOfUptoRow.holds Try.pinned (OpenSpec.upto fnExactStateOfSpec)

end Rows
end Go.Proofs.Ythheclnjaemjnaa
