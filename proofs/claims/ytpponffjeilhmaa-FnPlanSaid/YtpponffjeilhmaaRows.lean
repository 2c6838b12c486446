/-
  No cell of these rows narrows 'for every input' (looked for: loops, veiled, ifaces, maps, wideKeys, modest, calm, conditions, laid).
  DERIVED. THE GIVEN ROWS OF THIS SEAT. 11 by the template 'for every input the law returns true; each argument reads behind the call as it read before'; 0 by the template 'total and deterministic' (their statements: YtpponffjeilhmaaTotals.lean).
  GIVEN WITH THE SEED: the statements are not yours to turn. If you find one false, say at which input.
  Laid BY PROGRAM, IN A SANDBOX (cutbox-rows.mjs): the forced cells as the released guide's own fill.sh prints them over the translation c43e55c8673a7247… (all of the seat's roots in one cut). By AI agents, Wed Nov 11 2026. No macro, syntax, notation, axiom, sorry.
-/
import Derived.Test.YtpponffjeilhmaaChecked
import GoSem.Claim
import GoSem.ClaimJoined
import GoSem.ClaimMapViews
import Derived.JoinedTies
import Derived.KernelRfl
namespace Go.Proofs.Ytpponffjeilhmaa
/- THE CELL 'sum', in the pinned program and in every row, IS THE sha256 OF THE DUMP (.gsa) THAT YtpponffjeilhmaaProg.lean LOADS. Nothing in Lean hashes anything: it is a label: what it is worth is what the hold of that sum in a sandbox is worth. -/
noncomputable def Try.pinned : Pinned := { name := "ytpponffjeilhmaa", sum := "c43e55c8673a7247b61f417b89af9c3be445442d117c9cb937a95778296323de", checked := Try.checked }
namespace Rows
def none {H : Type} : Left H := { results := [], args := [] }

/-- 'laws.FnExactPlanOf': WHATEVER THE INPUT: true; the input reads as it did. -/
def fnExactPlanOfSpec : ChangeSpec := { name := "fnExactPlanOf", fn := fun _ => fun
  | [d1, d2] => { results := [.lit (.bool true)], args := [d1, d2] }
  | _ => none }
def fnExactPlanOfRow : OpenClaim := { program := "ytpponffjeilhmaa", sum := "c43e55c8673a7247b61f417b89af9c3be445442d117c9cb937a95778296323de", func := "loop.example/g00668/laws.FnExactPlanOf", spec := "fnExactPlanOf", unfollowed := true, recurses := true, apart := false }
def FnExactPlanOfSaid : Prop := fnExactPlanOfRow.holds Try.pinned (OpenSpec.ofChange fnExactPlanOfSpec)

/-- ITS FALSE NEIGHBOUR: 'it returns false'. Refute it at one input. -/
def fnExactPlanOfWrong : ChangeSpec := { name := "fnExactPlanOf", fn := fun _ => fun
  | [d1, d2] => { results := [.lit (.bool false)], args := [d1, d2] }
  | _ => none }
def FnExactPlanOfWrongFalsely : Prop := fnExactPlanOfRow.holds Try.pinned (OpenSpec.ofChange fnExactPlanOfWrong)

/-- 'laws.FnExactIdealRight': WHATEVER THE INPUT: true; the input reads as it did. -/
def fnExactIdealRightSpec : ChangeSpec := { name := "fnExactIdealRight", fn := fun _ => fun
  | [d] => { results := [.lit (.bool true)], args := [d] }
  | _ => none }
def fnExactIdealRightRow : OpenClaim := { program := "ytpponffjeilhmaa", sum := "c43e55c8673a7247b61f417b89af9c3be445442d117c9cb937a95778296323de", func := "loop.example/g00668/laws.FnExactIdealRight", spec := "fnExactIdealRight", unfollowed := true, recurses := true, apart := false }
def FnExactIdealRightSaid : Prop := fnExactIdealRightRow.holds Try.pinned (OpenSpec.ofChange fnExactIdealRightSpec)

/-- ITS FALSE NEIGHBOUR: 'it returns false'. Refute it at one input. -/
def fnExactIdealRightWrong : ChangeSpec := { name := "fnExactIdealRight", fn := fun _ => fun
  | [d] => { results := [.lit (.bool false)], args := [d] }
  | _ => none }
def FnExactIdealRightWrongFalsely : Prop := fnExactIdealRightRow.holds Try.pinned (OpenSpec.ofChange fnExactIdealRightWrong)

/-- 'laws.FnExactSameIdeal': WHATEVER THE INPUT: true; the input reads as it did. -/
def fnExactSameIdealSpec : ChangeSpec := { name := "fnExactSameIdeal", fn := fun _ => fun
  | [d1, d2] => { results := [.lit (.bool true)], args := [d1, d2] }
  | _ => none }
def fnExactSameIdealRow : OpenClaim := { program := "ytpponffjeilhmaa", sum := "c43e55c8673a7247b61f417b89af9c3be445442d117c9cb937a95778296323de", func := "loop.example/g00668/laws.FnExactSameIdeal", spec := "fnExactSameIdeal", unfollowed := true, recurses := true, apart := false }
def FnExactSameIdealSaid : Prop := fnExactSameIdealRow.holds Try.pinned (OpenSpec.ofChange fnExactSameIdealSpec)

/-- ITS FALSE NEIGHBOUR: 'it returns false'. Refute it at one input. -/
def fnExactSameIdealWrong : ChangeSpec := { name := "fnExactSameIdeal", fn := fun _ => fun
  | [d1, d2] => { results := [.lit (.bool false)], args := [d1, d2] }
  | _ => none }
def FnExactSameIdealWrongFalsely : Prop := fnExactSameIdealRow.holds Try.pinned (OpenSpec.ofChange fnExactSameIdealWrong)

/-- 'laws.FnExactIdealView': WHATEVER THE INPUT: true; the input reads as it did. -/
def fnExactIdealViewSpec : ChangeSpec := { name := "fnExactIdealView", fn := fun _ => fun
  | [d] => { results := [.lit (.bool true)], args := [d] }
  | _ => none }
def fnExactIdealViewRow : OpenClaim := { program := "ytpponffjeilhmaa", sum := "c43e55c8673a7247b61f417b89af9c3be445442d117c9cb937a95778296323de", func := "loop.example/g00668/laws.FnExactIdealView", spec := "fnExactIdealView", unfollowed := true, recurses := true, apart := false }
def FnExactIdealViewSaid : Prop := fnExactIdealViewRow.holds Try.pinned (OpenSpec.ofChange fnExactIdealViewSpec)

/-- ITS FALSE NEIGHBOUR: 'it returns false'. Refute it at one input. -/
def fnExactIdealViewWrong : ChangeSpec := { name := "fnExactIdealView", fn := fun _ => fun
  | [d] => { results := [.lit (.bool false)], args := [d] }
  | _ => none }
def FnExactIdealViewWrongFalsely : Prop := fnExactIdealViewRow.holds Try.pinned (OpenSpec.ofChange fnExactIdealViewWrong)

/-- 'laws.FnExactPackageRead': WHATEVER THE INPUT: true; the input reads as it did. -/
def fnExactPackageReadSpec : ChangeSpec := { name := "fnExactPackageRead", fn := fun _ => fun
  | [d] => { results := [.lit (.bool true)], args := [d] }
  | _ => none }
def fnExactPackageReadRow : OpenClaim := { program := "ytpponffjeilhmaa", sum := "c43e55c8673a7247b61f417b89af9c3be445442d117c9cb937a95778296323de", func := "loop.example/g00668/laws.FnExactPackageRead", spec := "fnExactPackageRead", unfollowed := true, recurses := true, apart := false }
def FnExactPackageReadSaid : Prop := fnExactPackageReadRow.holds Try.pinned (OpenSpec.ofChange fnExactPackageReadSpec)

/-- ITS FALSE NEIGHBOUR: 'it returns false'. Refute it at one input. -/
def fnExactPackageReadWrong : ChangeSpec := { name := "fnExactPackageRead", fn := fun _ => fun
  | [d] => { results := [.lit (.bool false)], args := [d] }
  | _ => none }
def FnExactPackageReadWrongFalsely : Prop := fnExactPackageReadRow.holds Try.pinned (OpenSpec.ofChange fnExactPackageReadWrong)

/-- 'laws.FnExactPlanRun': WHATEVER THE INPUT: true; the input reads as it did. -/
def fnExactPlanRunSpec : ChangeSpec := { name := "fnExactPlanRun", fn := fun _ => fun
  | [d1, d2, d3] => { results := [.lit (.bool true)], args := [d1, d2, d3] }
  | _ => none }
def fnExactPlanRunRow : OpenClaim := { program := "ytpponffjeilhmaa", sum := "c43e55c8673a7247b61f417b89af9c3be445442d117c9cb937a95778296323de", func := "loop.example/g00668/laws.FnExactPlanRun", spec := "fnExactPlanRun", unfollowed := true, recurses := true, apart := false }
def FnExactPlanRunSaid : Prop := fnExactPlanRunRow.holds Try.pinned (OpenSpec.ofChange fnExactPlanRunSpec)

/-- ITS FALSE NEIGHBOUR: 'it returns false'. Refute it at one input. -/
def fnExactPlanRunWrong : ChangeSpec := { name := "fnExactPlanRun", fn := fun _ => fun
  | [d1, d2, d3] => { results := [.lit (.bool false)], args := [d1, d2, d3] }
  | _ => none }
def FnExactPlanRunWrongFalsely : Prop := fnExactPlanRunRow.holds Try.pinned (OpenSpec.ofChange fnExactPlanRunWrong)

/-- 'laws.FnStep': WHATEVER THE INPUT: true; the input reads as it did. -/
def fnStepSpec : ChangeSpec := { name := "fnStep", fn := fun _ => fun
  | [d1, d2] => { results := [.lit (.bool true)], args := [d1, d2] }
  | _ => none }
def fnStepRow : OpenClaim := { program := "ytpponffjeilhmaa", sum := "c43e55c8673a7247b61f417b89af9c3be445442d117c9cb937a95778296323de", func := "loop.example/g00668/laws.FnStep", spec := "fnStep", unfollowed := true, recurses := true, apart := false }
def FnStepSaid : Prop := fnStepRow.holds Try.pinned (OpenSpec.ofChange fnStepSpec)

/-- ITS FALSE NEIGHBOUR: 'it returns false'. Refute it at one input. -/
def fnStepWrong : ChangeSpec := { name := "fnStep", fn := fun _ => fun
  | [d1, d2] => { results := [.lit (.bool false)], args := [d1, d2] }
  | _ => none }
def FnStepWrongFalsely : Prop := fnStepRow.holds Try.pinned (OpenSpec.ofChange fnStepWrong)

/-- 'laws.FnSnap': WHATEVER THE INPUT: true; the input reads as it did. -/
def fnSnapSpec : ChangeSpec := { name := "fnSnap", fn := fun _ => fun
  | [d1, d2] => { results := [.lit (.bool true)], args := [d1, d2] }
  | _ => none }
def fnSnapRow : OpenClaim := { program := "ytpponffjeilhmaa", sum := "c43e55c8673a7247b61f417b89af9c3be445442d117c9cb937a95778296323de", func := "loop.example/g00668/laws.FnSnap", spec := "fnSnap", unfollowed := true, recurses := true, apart := false }
def FnSnapSaid : Prop := fnSnapRow.holds Try.pinned (OpenSpec.ofChange fnSnapSpec)

/-- ITS FALSE NEIGHBOUR: 'it returns false'. Refute it at one input. -/
def fnSnapWrong : ChangeSpec := { name := "fnSnap", fn := fun _ => fun
  | [d1, d2] => { results := [.lit (.bool false)], args := [d1, d2] }
  | _ => none }
def FnSnapWrongFalsely : Prop := fnSnapRow.holds Try.pinned (OpenSpec.ofChange fnSnapWrong)

/-- 'laws.FnPlan': WHATEVER THE INPUT: true; the input reads as it did. -/
def fnPlanSpec : ChangeSpec := { name := "fnPlan", fn := fun _ => fun
  | [d1, d2] => { results := [.lit (.bool true)], args := [d1, d2] }
  | _ => none }
def fnPlanRow : OpenClaim := { program := "ytpponffjeilhmaa", sum := "c43e55c8673a7247b61f417b89af9c3be445442d117c9cb937a95778296323de", func := "loop.example/g00668/laws.FnPlan", spec := "fnPlan", unfollowed := true, recurses := true, apart := false }
def FnPlanSaid : Prop := fnPlanRow.holds Try.pinned (OpenSpec.ofChange fnPlanSpec)

/-- ITS FALSE NEIGHBOUR: 'it returns false'. Refute it at one input. -/
def fnPlanWrong : ChangeSpec := { name := "fnPlan", fn := fun _ => fun
  | [d1, d2] => { results := [.lit (.bool false)], args := [d1, d2] }
  | _ => none }
def FnPlanWrongFalsely : Prop := fnPlanRow.holds Try.pinned (OpenSpec.ofChange fnPlanWrong)

/-- 'laws.FnLog': WHATEVER THE INPUT: true; the input reads as it did. -/
def fnLogSpec : ChangeSpec := { name := "fnLog", fn := fun _ => fun
  | [d1, d2] => { results := [.lit (.bool true)], args := [d1, d2] }
  | _ => none }
def fnLogRow : OpenClaim := { program := "ytpponffjeilhmaa", sum := "c43e55c8673a7247b61f417b89af9c3be445442d117c9cb937a95778296323de", func := "loop.example/g00668/laws.FnLog", spec := "fnLog", apart := false }
def FnLogSaid : Prop := fnLogRow.holds Try.pinned (OpenSpec.ofChange fnLogSpec)

/-- ITS FALSE NEIGHBOUR: 'it returns false'. Refute it at one input. -/
def fnLogWrong : ChangeSpec := { name := "fnLog", fn := fun _ => fun
  | [d1, d2] => { results := [.lit (.bool false)], args := [d1, d2] }
  | _ => none }
def FnLogWrongFalsely : Prop := fnLogRow.holds Try.pinned (OpenSpec.ofChange fnLogWrong)

/-- 'laws.FnState': WHATEVER THE INPUT: true; the input reads as it did. -/
def fnStateSpec : ChangeSpec := { name := "fnState", fn := fun _ => fun
  | [d1, d2] => { results := [.lit (.bool true)], args := [d1, d2] }
  | _ => none }
def fnStateRow : OpenClaim := { program := "ytpponffjeilhmaa", sum := "c43e55c8673a7247b61f417b89af9c3be445442d117c9cb937a95778296323de", func := "loop.example/g00668/laws.FnState", spec := "fnState", apart := false }
def FnStateSaid : Prop := fnStateRow.holds Try.pinned (OpenSpec.ofChange fnStateSpec)

/-- ITS FALSE NEIGHBOUR: 'it returns false'. Refute it at one input. -/
def fnStateWrong : ChangeSpec := { name := "fnState", fn := fun _ => fun
  | [d1, d2] => { results := [.lit (.bool false)], args := [d1, d2] }
  | _ => none }
def FnStateWrongFalsely : Prop := fnStateRow.holds Try.pinned (OpenSpec.ofChange fnStateWrong)

/- THE SECOND FORM. 'bulk': how many values and letters a reading holds, each counted each time it is reached (what is shared counts as often as it is met; a slice's spare places count too). A statement '..UptoSaid' is the law's where the arguments, and the package variables that the reading takes, are together of bulk at most 1048576: NARROWER than '..Said'. Prove '..Said' where nothing that the law and all that it calls make is longer than what came in: it says more and counts as full. Else prove '..UptoSaid'. A law counts once. -/
mutual
def uptoBulk {H : Type} : DataW H → Nat
  | .lit (.string bytes) => bytes.length + 1
  | .lit _ => 1
  | .nil => 1
  | .ptr d => uptoBulk d + 1
  | .slice elems spare => uptoBulkAll elems + uptoBulkAll spare + 1
  | .agg parts => uptoBulkAll parts + 1
  | .iface _ d => uptoBulk d + 1
  | .map entries => uptoBulkEntries entries + 1
  | .held _ => 1
def uptoBulkAll {H : Type} : List (DataW H) → Nat
  | [] => 0
  | d :: r => uptoBulk d + uptoBulkAll r
def uptoBulkEntries {H : Type} : List (Lit × DataW H) → Nat
  | [] => 0
  | x :: r => uptoBulkEntry x + uptoBulkEntries r
def uptoBulkEntry {H : Type} : Lit × DataW H → Nat
  | (.string bytes, d) => bytes.length + uptoBulk d + 1
  | (_, d) => uptoBulk d + 1
 end
def uptoSmall : (H : Type) → List (DataW H) → Bool := fun _ ds => decide (uptoBulkAll ds ≤ 1048576)
def OpenSpec.upto (s : _root_.Go.ChangeSpec) : _root_.Go.OpenSpec := { _root_.Go.OpenSpec.ofChange s with cond := some uptoSmall }

/-- 'laws.FnExactPlanOf', WHERE WHAT IT READS IS OF BULK AT MOST 1048576: true; the input reads as it did. -/
def fnExactPlanOfUptoRow : OpenClaim := { program := "ytpponffjeilhmaa", sum := "c43e55c8673a7247b61f417b89af9c3be445442d117c9cb937a95778296323de", func := "loop.example/g00668/laws.FnExactPlanOf", spec := "fnExactPlanOf", unfollowed := true, recurses := true, apart := false, narrowed := true }
def FnExactPlanOfUptoSaid : Prop := fnExactPlanOfUptoRow.holds Try.pinned (OpenSpec.upto fnExactPlanOfSpec)

/-- 'laws.FnExactIdealRight', WHERE WHAT IT READS IS OF BULK AT MOST 1048576: true; the input reads as it did. -/
def fnExactIdealRightUptoRow : OpenClaim := { program := "ytpponffjeilhmaa", sum := "c43e55c8673a7247b61f417b89af9c3be445442d117c9cb937a95778296323de", func := "loop.example/g00668/laws.FnExactIdealRight", spec := "fnExactIdealRight", unfollowed := true, recurses := true, apart := false, narrowed := true }
def FnExactIdealRightUptoSaid : Prop := fnExactIdealRightUptoRow.holds Try.pinned (OpenSpec.upto fnExactIdealRightSpec)

/-- 'laws.FnExactSameIdeal', WHERE WHAT IT READS IS OF BULK AT MOST 1048576: true; the input reads as it did. -/
def fnExactSameIdealUptoRow : OpenClaim := { program := "ytpponffjeilhmaa", sum := "c43e55c8673a7247b61f417b89af9c3be445442d117c9cb937a95778296323de", func := "loop.example/g00668/laws.FnExactSameIdeal", spec := "fnExactSameIdeal", unfollowed := true, recurses := true, apart := false, narrowed := true }
def FnExactSameIdealUptoSaid : Prop := fnExactSameIdealUptoRow.holds Try.pinned (OpenSpec.upto fnExactSameIdealSpec)

/-- 'laws.FnExactIdealView', WHERE WHAT IT READS IS OF BULK AT MOST 1048576: true; the input reads as it did. -/
def fnExactIdealViewUptoRow : OpenClaim := { program := "ytpponffjeilhmaa", sum := "c43e55c8673a7247b61f417b89af9c3be445442d117c9cb937a95778296323de", func := "loop.example/g00668/laws.FnExactIdealView", spec := "fnExactIdealView", unfollowed := true, recurses := true, apart := false, narrowed := true }
def FnExactIdealViewUptoSaid : Prop := fnExactIdealViewUptoRow.holds Try.pinned (OpenSpec.upto fnExactIdealViewSpec)

/-- 'laws.FnExactPackageRead', WHERE WHAT IT READS IS OF BULK AT MOST 1048576: true; the input reads as it did. -/
def fnExactPackageReadUptoRow : OpenClaim := { program := "ytpponffjeilhmaa", sum := "c43e55c8673a7247b61f417b89af9c3be445442d117c9cb937a95778296323de", func := "loop.example/g00668/laws.FnExactPackageRead", spec := "fnExactPackageRead", unfollowed := true, recurses := true, apart := false, narrowed := true }
def FnExactPackageReadUptoSaid : Prop := fnExactPackageReadUptoRow.holds Try.pinned (OpenSpec.upto fnExactPackageReadSpec)

/-- 'laws.FnExactPlanRun', WHERE WHAT IT READS IS OF BULK AT MOST 1048576: true; the input reads as it did. -/
def fnExactPlanRunUptoRow : OpenClaim := { program := "ytpponffjeilhmaa", sum := "c43e55c8673a7247b61f417b89af9c3be445442d117c9cb937a95778296323de", func := "loop.example/g00668/laws.FnExactPlanRun", spec := "fnExactPlanRun", unfollowed := true, recurses := true, apart := false, narrowed := true }
def FnExactPlanRunUptoSaid : Prop := fnExactPlanRunUptoRow.holds Try.pinned (OpenSpec.upto fnExactPlanRunSpec)

/-- 'laws.FnStep', WHERE WHAT IT READS IS OF BULK AT MOST 1048576: true; the input reads as it did. -/
def fnStepUptoRow : OpenClaim := { program := "ytpponffjeilhmaa", sum := "c43e55c8673a7247b61f417b89af9c3be445442d117c9cb937a95778296323de", func := "loop.example/g00668/laws.FnStep", spec := "fnStep", unfollowed := true, recurses := true, apart := false, narrowed := true }
def FnStepUptoSaid : Prop := fnStepUptoRow.holds Try.pinned (OpenSpec.upto fnStepSpec)

/-- 'laws.FnSnap', WHERE WHAT IT READS IS OF BULK AT MOST 1048576: true; the input reads as it did. -/
def fnSnapUptoRow : OpenClaim := { program := "ytpponffjeilhmaa", sum := "c43e55c8673a7247b61f417b89af9c3be445442d117c9cb937a95778296323de", func := "loop.example/g00668/laws.FnSnap", spec := "fnSnap", unfollowed := true, recurses := true, apart := false, narrowed := true }
def FnSnapUptoSaid : Prop := fnSnapUptoRow.holds Try.pinned (OpenSpec.upto fnSnapSpec)

/-- 'laws.FnPlan', WHERE WHAT IT READS IS OF BULK AT MOST 1048576: true; the input reads as it did. -/
def fnPlanUptoRow : OpenClaim := { program := "ytpponffjeilhmaa", sum := "c43e55c8673a7247b61f417b89af9c3be445442d117c9cb937a95778296323de", func := "loop.example/g00668/laws.FnPlan", spec := "fnPlan", unfollowed := true, recurses := true, apart := false, narrowed := true }
def FnPlanUptoSaid : Prop := fnPlanUptoRow.holds Try.pinned (OpenSpec.upto fnPlanSpec)

/-- 'laws.FnLog', WHERE WHAT IT READS IS OF BULK AT MOST 1048576: true; the input reads as it did. -/
def fnLogUptoRow : OpenClaim := { program := "ytpponffjeilhmaa", sum := "c43e55c8673a7247b61f417b89af9c3be445442d117c9cb937a95778296323de", func := "loop.example/g00668/laws.FnLog", spec := "fnLog", apart := false, narrowed := true }
def FnLogUptoSaid : Prop := fnLogUptoRow.holds Try.pinned (OpenSpec.upto fnLogSpec)

/-- 'laws.FnState', WHERE WHAT IT READS IS OF BULK AT MOST 1048576: true; the input reads as it did. -/
def fnStateUptoRow : OpenClaim := { program := "ytpponffjeilhmaa", sum := "c43e55c8673a7247b61f417b89af9c3be445442d117c9cb937a95778296323de", func := "loop.example/g00668/laws.FnState", spec := "fnState", apart := false, narrowed := true }
def FnStateUptoSaid : Prop := fnStateUptoRow.holds Try.pinned (OpenSpec.upto fnStateSpec)

end Rows
end Go.Proofs.Ytpponffjeilhmaa
