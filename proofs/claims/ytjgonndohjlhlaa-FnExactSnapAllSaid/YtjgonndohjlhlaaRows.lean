/-
  No cell of these rows narrows 'for every input' (looked for: loops, veiled, ifaces, maps, wideKeys, modest, calm, conditions, laid).
  DERIVED. THE GIVEN ROWS OF THIS SEAT. 12 by the template 'for every input the law returns true; each argument reads behind the call as it read before'; 0 by the template 'total and deterministic' (their statements: YtjgonndohjlhlaaTotals.lean).
  GIVEN WITH THE SEED: the statements are not yours to turn. If you find one false, say at which input.
  Laid BY PROGRAM, IN A SANDBOX (cutbox-rows.mjs): the forced cells as the released guide's own fill.sh prints them over the translation 4be30b09762d7eb5… (all of the seat's roots in one cut). By AI agents, Wed Nov 11 2026. No macro, syntax, notation, axiom, sorry.
-/
import Derived.Test.YtjgonndohjlhlaaChecked
import GoSem.Claim
import GoSem.ClaimJoined
import GoSem.ClaimMapViews
import Derived.JoinedTies
import Derived.KernelRfl
namespace Go.Proofs.Ytjgonndohjlhlaa
/- THE CELL 'sum', in the pinned program and in every row, IS THE sha256 OF THE DUMP (.gsa) THAT YtjgonndohjlhlaaProg.lean LOADS. Nothing in Lean hashes anything: it is a label: what it is worth is what the hold of that sum in a sandbox is worth. -/
noncomputable def Try.pinned : Pinned := { name := "ytjgonndohjlhlaa", sum := "4be30b09762d7eb5c1f86ac0a7d2065316fdc872ae2e9d64631610f92fc47ae4", checked := Try.checked }
namespace Rows
def none {H : Type} : Left H := { results := [], args := [] }

/-- 'laws.FnExactRecordRead': WHATEVER THE INPUT: true; the input reads as it did. -/
def fnExactRecordReadSpec : ChangeSpec := { name := "fnExactRecordRead", fn := fun _ => fun
  | [d1, d2] => { results := [.lit (.bool true)], args := [d1, d2] }
  | _ => none }
def fnExactRecordReadRow : OpenClaim := { program := "ytjgonndohjlhlaa", sum := "4be30b09762d7eb5c1f86ac0a7d2065316fdc872ae2e9d64631610f92fc47ae4", func := "loop.example/g00668/laws.FnExactRecordRead", spec := "fnExactRecordRead", apart := false }
def FnExactRecordReadSaid : Prop := fnExactRecordReadRow.holds Try.pinned (OpenSpec.ofChange fnExactRecordReadSpec)

/-- ITS FALSE NEIGHBOUR: 'it returns false'. Refute it at one input. -/
def fnExactRecordReadWrong : ChangeSpec := { name := "fnExactRecordRead", fn := fun _ => fun
  | [d1, d2] => { results := [.lit (.bool false)], args := [d1, d2] }
  | _ => none }
def FnExactRecordReadWrongFalsely : Prop := fnExactRecordReadRow.holds Try.pinned (OpenSpec.ofChange fnExactRecordReadWrong)

/-- 'laws.FnExactStateRead': WHATEVER THE INPUT: true; the input reads as it did. -/
def fnExactStateReadSpec : ChangeSpec := { name := "fnExactStateRead", fn := fun _ => fun
  | [d] => { results := [.lit (.bool true)], args := [d] }
  | _ => none }
def fnExactStateReadRow : OpenClaim := { program := "ytjgonndohjlhlaa", sum := "4be30b09762d7eb5c1f86ac0a7d2065316fdc872ae2e9d64631610f92fc47ae4", func := "loop.example/g00668/laws.FnExactStateRead", spec := "fnExactStateRead", apart := false }
def FnExactStateReadSaid : Prop := fnExactStateReadRow.holds Try.pinned (OpenSpec.ofChange fnExactStateReadSpec)

/-- ITS FALSE NEIGHBOUR: 'it returns false'. Refute it at one input. -/
def fnExactStateReadWrong : ChangeSpec := { name := "fnExactStateRead", fn := fun _ => fun
  | [d] => { results := [.lit (.bool false)], args := [d] }
  | _ => none }
def FnExactStateReadWrongFalsely : Prop := fnExactStateReadRow.holds Try.pinned (OpenSpec.ofChange fnExactStateReadWrong)

/-- 'laws.FnExactPackageBytes': WHATEVER THE INPUT: true; the input reads as it did. -/
def fnExactPackageBytesSpec : ChangeSpec := { name := "fnExactPackageBytes", fn := fun _ => fun
  | [d] => { results := [.lit (.bool true)], args := [d] }
  | _ => none }
def fnExactPackageBytesRow : OpenClaim := { program := "ytjgonndohjlhlaa", sum := "4be30b09762d7eb5c1f86ac0a7d2065316fdc872ae2e9d64631610f92fc47ae4", func := "loop.example/g00668/laws.FnExactPackageBytes", spec := "fnExactPackageBytes", unfollowed := true, recurses := true, apart := false }
def FnExactPackageBytesSaid : Prop := fnExactPackageBytesRow.holds Try.pinned (OpenSpec.ofChange fnExactPackageBytesSpec)

/-- ITS FALSE NEIGHBOUR: 'it returns false'. Refute it at one input. -/
def fnExactPackageBytesWrong : ChangeSpec := { name := "fnExactPackageBytes", fn := fun _ => fun
  | [d] => { results := [.lit (.bool false)], args := [d] }
  | _ => none }
def FnExactPackageBytesWrongFalsely : Prop := fnExactPackageBytesRow.holds Try.pinned (OpenSpec.ofChange fnExactPackageBytesWrong)

/-- 'laws.FnExactPackageRead': WHATEVER THE INPUT: true; the input reads as it did. -/
def fnExactPackageReadSpec : ChangeSpec := { name := "fnExactPackageRead", fn := fun _ => fun
  | [d] => { results := [.lit (.bool true)], args := [d] }
  | _ => none }
def fnExactPackageReadRow : OpenClaim := { program := "ytjgonndohjlhlaa", sum := "4be30b09762d7eb5c1f86ac0a7d2065316fdc872ae2e9d64631610f92fc47ae4", func := "loop.example/g00668/laws.FnExactPackageRead", spec := "fnExactPackageRead", unfollowed := true, recurses := true, apart := false }
def FnExactPackageReadSaid : Prop := fnExactPackageReadRow.holds Try.pinned (OpenSpec.ofChange fnExactPackageReadSpec)

/-- ITS FALSE NEIGHBOUR: 'it returns false'. Refute it at one input. -/
def fnExactPackageReadWrong : ChangeSpec := { name := "fnExactPackageRead", fn := fun _ => fun
  | [d] => { results := [.lit (.bool false)], args := [d] }
  | _ => none }
def FnExactPackageReadWrongFalsely : Prop := fnExactPackageReadRow.holds Try.pinned (OpenSpec.ofChange fnExactPackageReadWrong)

/-- 'laws.FnExactIdealNew': WHATEVER THE INPUT: true; the input reads as it did. -/
def fnExactIdealNewSpec : ChangeSpec := { name := "fnExactIdealNew", fn := fun _ => fun
  | [d] => { results := [.lit (.bool true)], args := [d] }
  | _ => none }
def fnExactIdealNewRow : OpenClaim := { program := "ytjgonndohjlhlaa", sum := "4be30b09762d7eb5c1f86ac0a7d2065316fdc872ae2e9d64631610f92fc47ae4", func := "loop.example/g00668/laws.FnExactIdealNew", spec := "fnExactIdealNew", unfollowed := true, recurses := true, apart := false }
def FnExactIdealNewSaid : Prop := fnExactIdealNewRow.holds Try.pinned (OpenSpec.ofChange fnExactIdealNewSpec)

/-- ITS FALSE NEIGHBOUR: 'it returns false'. Refute it at one input. -/
def fnExactIdealNewWrong : ChangeSpec := { name := "fnExactIdealNew", fn := fun _ => fun
  | [d] => { results := [.lit (.bool false)], args := [d] }
  | _ => none }
def FnExactIdealNewWrongFalsely : Prop := fnExactIdealNewRow.holds Try.pinned (OpenSpec.ofChange fnExactIdealNewWrong)

/-- 'laws.FnExactScan': WHATEVER THE INPUT: true; the input reads as it did. -/
def fnExactScanSpec : ChangeSpec := { name := "fnExactScan", fn := fun _ => fun
  | [d] => { results := [.lit (.bool true)], args := [d] }
  | _ => none }
def fnExactScanRow : OpenClaim := { program := "ytjgonndohjlhlaa", sum := "4be30b09762d7eb5c1f86ac0a7d2065316fdc872ae2e9d64631610f92fc47ae4", func := "loop.example/g00668/laws.FnExactScan", spec := "fnExactScan", apart := false }
def FnExactScanSaid : Prop := fnExactScanRow.holds Try.pinned (OpenSpec.ofChange fnExactScanSpec)

/-- ITS FALSE NEIGHBOUR: 'it returns false'. Refute it at one input. -/
def fnExactScanWrong : ChangeSpec := { name := "fnExactScan", fn := fun _ => fun
  | [d] => { results := [.lit (.bool false)], args := [d] }
  | _ => none }
def FnExactScanWrongFalsely : Prop := fnExactScanRow.holds Try.pinned (OpenSpec.ofChange fnExactScanWrong)

/-- 'laws.FnExactSnapRead': WHATEVER THE INPUT: true; the input reads as it did. -/
def fnExactSnapReadSpec : ChangeSpec := { name := "fnExactSnapRead", fn := fun _ => fun
  | [d1, d2, d3] => { results := [.lit (.bool true)], args := [d1, d2, d3] }
  | _ => none }
def fnExactSnapReadRow : OpenClaim := { program := "ytjgonndohjlhlaa", sum := "4be30b09762d7eb5c1f86ac0a7d2065316fdc872ae2e9d64631610f92fc47ae4", func := "loop.example/g00668/laws.FnExactSnapRead", spec := "fnExactSnapRead", unfollowed := true, recurses := true, apart := false }
def FnExactSnapReadSaid : Prop := fnExactSnapReadRow.holds Try.pinned (OpenSpec.ofChange fnExactSnapReadSpec)

/-- ITS FALSE NEIGHBOUR: 'it returns false'. Refute it at one input. -/
def fnExactSnapReadWrong : ChangeSpec := { name := "fnExactSnapRead", fn := fun _ => fun
  | [d1, d2, d3] => { results := [.lit (.bool false)], args := [d1, d2, d3] }
  | _ => none }
def FnExactSnapReadWrongFalsely : Prop := fnExactSnapReadRow.holds Try.pinned (OpenSpec.ofChange fnExactSnapReadWrong)

/-- 'laws.FnExactSnapAll': WHATEVER THE INPUT: true; the input reads as it did. -/
def fnExactSnapAllSpec : ChangeSpec := { name := "fnExactSnapAll", fn := fun _ => fun
  | [d1, d2] => { results := [.lit (.bool true)], args := [d1, d2] }
  | _ => none }
def fnExactSnapAllRow : OpenClaim := { program := "ytjgonndohjlhlaa", sum := "4be30b09762d7eb5c1f86ac0a7d2065316fdc872ae2e9d64631610f92fc47ae4", func := "loop.example/g00668/laws.FnExactSnapAll", spec := "fnExactSnapAll", unfollowed := true, recurses := true, apart := false }
def FnExactSnapAllSaid : Prop := fnExactSnapAllRow.holds Try.pinned (OpenSpec.ofChange fnExactSnapAllSpec)

/-- ITS FALSE NEIGHBOUR: 'it returns false'. Refute it at one input. -/
def fnExactSnapAllWrong : ChangeSpec := { name := "fnExactSnapAll", fn := fun _ => fun
  | [d1, d2] => { results := [.lit (.bool false)], args := [d1, d2] }
  | _ => none }
def FnExactSnapAllWrongFalsely : Prop := fnExactSnapAllRow.holds Try.pinned (OpenSpec.ofChange fnExactSnapAllWrong)

/-- 'laws.FnExactPlanOf': WHATEVER THE INPUT: true; the input reads as it did. -/
def fnExactPlanOfSpec : ChangeSpec := { name := "fnExactPlanOf", fn := fun _ => fun
  | [d1, d2] => { results := [.lit (.bool true)], args := [d1, d2] }
  | _ => none }
def fnExactPlanOfRow : OpenClaim := { program := "ytjgonndohjlhlaa", sum := "4be30b09762d7eb5c1f86ac0a7d2065316fdc872ae2e9d64631610f92fc47ae4", func := "loop.example/g00668/laws.FnExactPlanOf", spec := "fnExactPlanOf", unfollowed := true, recurses := true, apart := false }
def FnExactPlanOfSaid : Prop := fnExactPlanOfRow.holds Try.pinned (OpenSpec.ofChange fnExactPlanOfSpec)

/-- ITS FALSE NEIGHBOUR: 'it returns false'. Refute it at one input. -/
def fnExactPlanOfWrong : ChangeSpec := { name := "fnExactPlanOf", fn := fun _ => fun
  | [d1, d2] => { results := [.lit (.bool false)], args := [d1, d2] }
  | _ => none }
def FnExactPlanOfWrongFalsely : Prop := fnExactPlanOfRow.holds Try.pinned (OpenSpec.ofChange fnExactPlanOfWrong)

/-- 'laws.FnExactIdealRight': WHATEVER THE INPUT: true; the input reads as it did. -/
def fnExactIdealRightSpec : ChangeSpec := { name := "fnExactIdealRight", fn := fun _ => fun
  | [d] => { results := [.lit (.bool true)], args := [d] }
  | _ => none }
def fnExactIdealRightRow : OpenClaim := { program := "ytjgonndohjlhlaa", sum := "4be30b09762d7eb5c1f86ac0a7d2065316fdc872ae2e9d64631610f92fc47ae4", func := "loop.example/g00668/laws.FnExactIdealRight", spec := "fnExactIdealRight", unfollowed := true, recurses := true, apart := false }
def FnExactIdealRightSaid : Prop := fnExactIdealRightRow.holds Try.pinned (OpenSpec.ofChange fnExactIdealRightSpec)

/-- ITS FALSE NEIGHBOUR: 'it returns false'. Refute it at one input. -/
def fnExactIdealRightWrong : ChangeSpec := { name := "fnExactIdealRight", fn := fun _ => fun
  | [d] => { results := [.lit (.bool false)], args := [d] }
  | _ => none }
def FnExactIdealRightWrongFalsely : Prop := fnExactIdealRightRow.holds Try.pinned (OpenSpec.ofChange fnExactIdealRightWrong)

/-- 'laws.FnExactSameIdeal': WHATEVER THE INPUT: true; the input reads as it did. -/
def fnExactSameIdealSpec : ChangeSpec := { name := "fnExactSameIdeal", fn := fun _ => fun
  | [d1, d2] => { results := [.lit (.bool true)], args := [d1, d2] }
  | _ => none }
def fnExactSameIdealRow : OpenClaim := { program := "ytjgonndohjlhlaa", sum := "4be30b09762d7eb5c1f86ac0a7d2065316fdc872ae2e9d64631610f92fc47ae4", func := "loop.example/g00668/laws.FnExactSameIdeal", spec := "fnExactSameIdeal", unfollowed := true, recurses := true, apart := false }
def FnExactSameIdealSaid : Prop := fnExactSameIdealRow.holds Try.pinned (OpenSpec.ofChange fnExactSameIdealSpec)

/-- ITS FALSE NEIGHBOUR: 'it returns false'. Refute it at one input. -/
def fnExactSameIdealWrong : ChangeSpec := { name := "fnExactSameIdeal", fn := fun _ => fun
  | [d1, d2] => { results := [.lit (.bool false)], args := [d1, d2] }
  | _ => none }
def FnExactSameIdealWrongFalsely : Prop := fnExactSameIdealRow.holds Try.pinned (OpenSpec.ofChange fnExactSameIdealWrong)

/-- 'laws.FnExactIdealView': WHATEVER THE INPUT: true; the input reads as it did. -/
def fnExactIdealViewSpec : ChangeSpec := { name := "fnExactIdealView", fn := fun _ => fun
  | [d] => { results := [.lit (.bool true)], args := [d] }
  | _ => none }
def fnExactIdealViewRow : OpenClaim := { program := "ytjgonndohjlhlaa", sum := "4be30b09762d7eb5c1f86ac0a7d2065316fdc872ae2e9d64631610f92fc47ae4", func := "loop.example/g00668/laws.FnExactIdealView", spec := "fnExactIdealView", unfollowed := true, recurses := true, apart := false }
def FnExactIdealViewSaid : Prop := fnExactIdealViewRow.holds Try.pinned (OpenSpec.ofChange fnExactIdealViewSpec)

/-- ITS FALSE NEIGHBOUR: 'it returns false'. Refute it at one input. -/
def fnExactIdealViewWrong : ChangeSpec := { name := "fnExactIdealView", fn := fun _ => fun
  | [d] => { results := [.lit (.bool false)], args := [d] }
  | _ => none }
def FnExactIdealViewWrongFalsely : Prop := fnExactIdealViewRow.holds Try.pinned (OpenSpec.ofChange fnExactIdealViewWrong)

/- THE SECOND FORM. 'bulk': how many values and letters a reading holds, each counted each time it is reached (what is shared counts as often as it is met; a slice's spare places count too). A statement '..UptoSaid' is the law's where the arguments, and the package variables that the reading takes, are together of bulk at most 1048576: NARROWER than '..Said'. Prove '..Said' where nothing that the law and all that it calls make is longer than what came in: it says more and counts as full. Else prove '..UptoSaid'. A law counts once. -/
mutual
def uptoBulk {H : Type} : DataW H → Nat
  | .lit (.string bytes) => bytes.length + 1
  | .lit _ => 1
  | .nil => 1
  | .ptr d => uptoBulk d + 1
  | .slice elems spare => uptoBulkAll elems + uptoBulkAll spare + 1
  | .agg parts => uptoBulkAll parts + 1
  | .iface _ d => uptoBulk d + 1
  | .map entries => uptoBulkEntries entries + 1
  | .held _ => 1
def uptoBulkAll {H : Type} : List (DataW H) → Nat
  | [] => 0
  | d :: r => uptoBulk d + uptoBulkAll r
def uptoBulkEntries {H : Type} : List (Lit × DataW H) → Nat
  | [] => 0
  | x :: r => uptoBulkEntry x + uptoBulkEntries r
def uptoBulkEntry {H : Type} : Lit × DataW H → Nat
  | (.string bytes, d) => bytes.length + uptoBulk d + 1
  | (_, d) => uptoBulk d + 1
 end
def uptoSmall : (H : Type) → List (DataW H) → Bool := fun _ ds => decide (uptoBulkAll ds ≤ 1048576)
def OpenSpec.upto (s : _root_.Go.ChangeSpec) : _root_.Go.OpenSpec := { _root_.Go.OpenSpec.ofChange s with cond := some uptoSmall }

/-- 'laws.FnExactRecordRead', WHERE WHAT IT READS IS OF BULK AT MOST 1048576: true; the input reads as it did. -/
def fnExactRecordReadUptoRow : OpenClaim := { program := "ytjgonndohjlhlaa", sum := "4be30b09762d7eb5c1f86ac0a7d2065316fdc872ae2e9d64631610f92fc47ae4", func := "loop.example/g00668/laws.FnExactRecordRead", spec := "fnExactRecordRead", apart := false, narrowed := true }
def FnExactRecordReadUptoSaid : Prop := fnExactRecordReadUptoRow.holds Try.pinned (OpenSpec.upto fnExactRecordReadSpec)

/-- 'laws.FnExactStateRead', WHERE WHAT IT READS IS OF BULK AT MOST 1048576: true; the input reads as it did. -/
def fnExactStateReadUptoRow : OpenClaim := { program := "ytjgonndohjlhlaa", sum := "4be30b09762d7eb5c1f86ac0a7d2065316fdc872ae2e9d64631610f92fc47ae4", func := "loop.example/g00668/laws.FnExactStateRead", spec := "fnExactStateRead", apart := false, narrowed := true }
def FnExactStateReadUptoSaid : Prop := fnExactStateReadUptoRow.holds Try.pinned (OpenSpec.upto fnExactStateReadSpec)

/-- 'laws.FnExactPackageBytes', WHERE WHAT IT READS IS OF BULK AT MOST 1048576: true; the input reads as it did. -/
def fnExactPackageBytesUptoRow : OpenClaim := { program := "ytjgonndohjlhlaa", sum := "4be30b09762d7eb5c1f86ac0a7d2065316fdc872ae2e9d64631610f92fc47ae4", func := "loop.example/g00668/laws.FnExactPackageBytes", spec := "fnExactPackageBytes", unfollowed := true, recurses := true, apart := false, narrowed := true }
def FnExactPackageBytesUptoSaid : Prop := fnExactPackageBytesUptoRow.holds Try.pinned (OpenSpec.upto fnExactPackageBytesSpec)

/-- 'laws.FnExactPackageRead', WHERE WHAT IT READS IS OF BULK AT MOST 1048576: true; the input reads as it did. -/
def fnExactPackageReadUptoRow : OpenClaim := { program := "ytjgonndohjlhlaa", sum := "4be30b09762d7eb5c1f86ac0a7d2065316fdc872ae2e9d64631610f92fc47ae4", func := "loop.example/g00668/laws.FnExactPackageRead", spec := "fnExactPackageRead", unfollowed := true, recurses := true, apart := false, narrowed := true }
def FnExactPackageReadUptoSaid : Prop := fnExactPackageReadUptoRow.holds Try.pinned (OpenSpec.upto fnExactPackageReadSpec)

/-- 'laws.FnExactIdealNew', WHERE WHAT IT READS IS OF BULK AT MOST 1048576: true; the input reads as it did. -/
def fnExactIdealNewUptoRow : OpenClaim := { program := "ytjgonndohjlhlaa", sum := "4be30b09762d7eb5c1f86ac0a7d2065316fdc872ae2e9d64631610f92fc47ae4", func := "loop.example/g00668/laws.FnExactIdealNew", spec := "fnExactIdealNew", unfollowed := true, recurses := true, apart := false, narrowed := true }
def FnExactIdealNewUptoSaid : Prop := fnExactIdealNewUptoRow.holds Try.pinned (OpenSpec.upto fnExactIdealNewSpec)

/-- 'laws.FnExactScan', WHERE WHAT IT READS IS OF BULK AT MOST 1048576: true; the input reads as it did. -/
def fnExactScanUptoRow : OpenClaim := { program := "ytjgonndohjlhlaa", sum := "4be30b09762d7eb5c1f86ac0a7d2065316fdc872ae2e9d64631610f92fc47ae4", func := "loop.example/g00668/laws.FnExactScan", spec := "fnExactScan", apart := false, narrowed := true }
def FnExactScanUptoSaid : Prop := fnExactScanUptoRow.holds Try.pinned (OpenSpec.upto fnExactScanSpec)

/-- 'laws.FnExactSnapRead', WHERE WHAT IT READS IS OF BULK AT MOST 1048576: true; the input reads as it did. -/
def fnExactSnapReadUptoRow : OpenClaim := { program := "ytjgonndohjlhlaa", sum := "4be30b09762d7eb5c1f86ac0a7d2065316fdc872ae2e9d64631610f92fc47ae4", func := "loop.example/g00668/laws.FnExactSnapRead", spec := "fnExactSnapRead", unfollowed := true, recurses := true, apart := false, narrowed := true }
def FnExactSnapReadUptoSaid : Prop := fnExactSnapReadUptoRow.holds Try.pinned (OpenSpec.upto fnExactSnapReadSpec)

/-- 'laws.FnExactSnapAll', WHERE WHAT IT READS IS OF BULK AT MOST 1048576: true; the input reads as it did. -/
def fnExactSnapAllUptoRow : OpenClaim := { program := "ytjgonndohjlhlaa", sum := "4be30b09762d7eb5c1f86ac0a7d2065316fdc872ae2e9d64631610f92fc47ae4", func := "loop.example/g00668/laws.FnExactSnapAll", spec := "fnExactSnapAll", unfollowed := true, recurses := true, apart := false, narrowed := true }
def FnExactSnapAllUptoSaid : Prop := fnExactSnapAllUptoRow.holds Try.pinned (OpenSpec.upto fnExactSnapAllSpec)

/-- 'laws.FnExactPlanOf', WHERE WHAT IT READS IS OF BULK AT MOST 1048576: true; the input reads as it did. -/
def fnExactPlanOfUptoRow : OpenClaim := { program := "ytjgonndohjlhlaa", sum := "4be30b09762d7eb5c1f86ac0a7d2065316fdc872ae2e9d64631610f92fc47ae4", func := "loop.example/g00668/laws.FnExactPlanOf", spec := "fnExactPlanOf", unfollowed := true, recurses := true, apart := false, narrowed := true }
def FnExactPlanOfUptoSaid : Prop := fnExactPlanOfUptoRow.holds Try.pinned (OpenSpec.upto fnExactPlanOfSpec)

/-- 'laws.FnExactIdealRight', WHERE WHAT IT READS IS OF BULK AT MOST 1048576: true; the input reads as it did. -/
def fnExactIdealRightUptoRow : OpenClaim := { program := "ytjgonndohjlhlaa", sum := "4be30b09762d7eb5c1f86ac0a7d2065316fdc872ae2e9d64631610f92fc47ae4", func := "loop.example/g00668/laws.FnExactIdealRight", spec := "fnExactIdealRight", unfollowed := true, recurses := true, apart := false, narrowed := true }
def FnExactIdealRightUptoSaid : Prop := fnExactIdealRightUptoRow.holds Try.pinned (OpenSpec.upto fnExactIdealRightSpec)

/-- 'laws.FnExactSameIdeal', WHERE WHAT IT READS IS OF BULK AT MOST 1048576: true; the input reads as it did. -/
def fnExactSameIdealUptoRow : OpenClaim := { program := "ytjgonndohjlhlaa", sum := "4be30b09762d7eb5c1f86ac0a7d2065316fdc872ae2e9d64631610f92fc47ae4", func := "loop.example/g00668/laws.FnExactSameIdeal", spec := "fnExactSameIdeal", unfollowed := true, recurses := true, apart := false, narrowed := true }
def FnExactSameIdealUptoSaid : Prop := fnExactSameIdealUptoRow.holds Try.pinned (OpenSpec.upto fnExactSameIdealSpec)

/-- 'laws.FnExactIdealView', WHERE WHAT IT READS IS OF BULK AT MOST 1048576: true; the input reads as it did. -/
def fnExactIdealViewUptoRow : OpenClaim := { program := "ytjgonndohjlhlaa", sum := "4be30b09762d7eb5c1f86ac0a7d2065316fdc872ae2e9d64631610f92fc47ae4", func := "loop.example/g00668/laws.FnExactIdealView", spec := "fnExactIdealView", unfollowed := true, recurses := true, apart := false, narrowed := true }
def FnExactIdealViewUptoSaid : Prop := fnExactIdealViewUptoRow.holds Try.pinned (OpenSpec.upto fnExactIdealViewSpec)

end Rows
end Go.Proofs.Ytjgonndohjlhlaa
