/-
  No cell of these rows narrows 'for every input' (looked for: loops, veiled, ifaces, maps, wideKeys, modest, calm, conditions, laid).
  DERIVED. THE GIVEN ROWS OF THIS SEAT. 3 by the template 'for every input the law returns true; each argument reads behind the call as it read before'; 0 by the template 'total and deterministic' (their statements: YthheclnjaemjnaaGreatTotals.lean).
  GIVEN WITH THE SEED: the statements are not yours to turn. If you find one false, say at which input.
  Laid BY PROGRAM, IN A SANDBOX (cutbox-rows.mjs): the forced cells as the released guide's own fill.sh prints them over the translation 9a82ca9ff5cbb880… (all of the seat's roots in one cut). By AI agents, Wed Nov 11 2026. No macro, syntax, notation, axiom, sorry.
-/
import Derived.Test.YthheclnjaemjnaaGreatChecked
import GoSem.Claim
import GoSem.ClaimJoined
import GoSem.ClaimMapViews
import Derived.JoinedTies
import Derived.KernelRfl
namespace Go.Proofs.YthheclnjaemjnaaGreat
/- THE CELL 'sum', in the pinned program and in every row, IS THE sha256 OF THE DUMP (.gsa) THAT YthheclnjaemjnaaGreatProg.lean LOADS. Nothing in Lean hashes anything: it is a label: what it is worth is what the hold of that sum in a sandbox is worth. -/
noncomputable def Tryz.pinned : Pinned := { name := "ythheclnjaemjnaagreat", sum := "9a82ca9ff5cbb880747fbf7d4c55344eda39e23b90acf07208a58abb1921c659", checked := Tryz.checked }
namespace Rows
def none {H : Type} : Left H := { results := [], args := [] }

/-- 'laws.FnExactLogOf': WHATEVER THE INPUT: true; the input reads as it did. -/
def fnExactLogOfSpec : ChangeSpec := { name := "fnExactLogOf", fn := fun _ => fun
  | [d] => { results := [.lit (.bool true)], args := [d] }
  | _ => none }
def fnExactLogOfRow : OpenClaim := { program := "ythheclnjaemjnaagreat", sum := "9a82ca9ff5cbb880747fbf7d4c55344eda39e23b90acf07208a58abb1921c659", func := "loop.example/g00668/laws.FnExactLogOf", spec := "fnExactLogOf", unfollowed := true, recurses := true, apart := false }
def FnExactLogOfSaid : Prop := fnExactLogOfRow.holds Tryz.pinned (OpenSpec.ofChange fnExactLogOfSpec)

/-- ITS FALSE NEIGHBOUR: 'it returns false'. Refute it at one input. -/
def fnExactLogOfWrong : ChangeSpec := { name := "fnExactLogOf", fn := fun _ => fun
  | [d] => { results := [.lit (.bool false)], args := [d] }
  | _ => none }
def FnExactLogOfWrongFalsely : Prop := fnExactLogOfRow.holds Tryz.pinned (OpenSpec.ofChange fnExactLogOfWrong)

/-- 'laws.FnExactMachineRight': WHATEVER THE INPUT: true; the input reads as it did. -/
def fnExactMachineRightSpec : ChangeSpec := { name := "fnExactMachineRight", fn := fun _ => fun
  | [d] => { results := [.lit (.bool true)], args := [d] }
  | _ => none }
def fnExactMachineRightRow : OpenClaim := { program := "ythheclnjaemjnaagreat", sum := "9a82ca9ff5cbb880747fbf7d4c55344eda39e23b90acf07208a58abb1921c659", func := "loop.example/g00668/laws.FnExactMachineRight", spec := "fnExactMachineRight", unfollowed := true, recurses := true, apart := false }
def FnExactMachineRightSaid : Prop := fnExactMachineRightRow.holds Tryz.pinned (OpenSpec.ofChange fnExactMachineRightSpec)

/-- ITS FALSE NEIGHBOUR: 'it returns false'. Refute it at one input. -/
def fnExactMachineRightWrong : ChangeSpec := { name := "fnExactMachineRight", fn := fun _ => fun
  | [d] => { results := [.lit (.bool false)], args := [d] }
  | _ => none }
def FnExactMachineRightWrongFalsely : Prop := fnExactMachineRightRow.holds Tryz.pinned (OpenSpec.ofChange fnExactMachineRightWrong)

/-- 'laws.FnExactBootActs': WHATEVER THE INPUT: true; the input reads as it did. -/
def fnExactBootActsSpec : ChangeSpec := { name := "fnExactBootActs", fn := fun _ => fun
  | [d] => { results := [.lit (.bool true)], args := [d] }
  | _ => none }
def fnExactBootActsRow : OpenClaim := { program := "ythheclnjaemjnaagreat", sum := "9a82ca9ff5cbb880747fbf7d4c55344eda39e23b90acf07208a58abb1921c659", func := "loop.example/g00668/laws.FnExactBootActs", spec := "fnExactBootActs", unfollowed := true, recurses := true, apart := false }
def FnExactBootActsSaid : Prop := fnExactBootActsRow.holds Tryz.pinned (OpenSpec.ofChange fnExactBootActsSpec)

/-- ITS FALSE NEIGHBOUR: 'it returns false'. Refute it at one input. -/
def fnExactBootActsWrong : ChangeSpec := { name := "fnExactBootActs", fn := fun _ => fun
  | [d] => { results := [.lit (.bool false)], args := [d] }
  | _ => none }
def FnExactBootActsWrongFalsely : Prop := fnExactBootActsRow.holds Tryz.pinned (OpenSpec.ofChange fnExactBootActsWrong)

/- THE SECOND FORM. 'bulk': how many values and letters a reading holds, each counted each time it is reached (what is shared counts as often as it is met; a slice's spare places count too). A statement '..UptoSaid' is the law's where the arguments, and the package variables that the reading takes, are together of bulk at most 1048576: NARROWER than '..Said'. Prove '..Said' where nothing that the law and all that it calls make is longer than what came in: it says more and counts as full. Else prove '..UptoSaid'. A law counts once. -/
mutual
def uptoBulk {H : Type} : DataW H → Nat
  | .lit (.string bytes) => bytes.length + 1
  | .lit _ => 1
  | .nil => 1
  | .ptr d => uptoBulk d + 1
  | .slice elems spare => uptoBulkAll elems + uptoBulkAll spare + 1
  | .agg parts => uptoBulkAll parts + 1
  | .iface _ d => uptoBulk d + 1
  | .map entries => uptoBulkEntries entries + 1
  | .held _ => 1
def uptoBulkAll {H : Type} : List (DataW H) → Nat
  | [] => 0
  | d :: r => uptoBulk d + uptoBulkAll r
def uptoBulkEntries {H : Type} : List (Lit × DataW H) → Nat
  | [] => 0
  | x :: r => uptoBulkEntry x + uptoBulkEntries r
def uptoBulkEntry {H : Type} : Lit × DataW H → Nat
  | (.string bytes, d) => bytes.length + uptoBulk d + 1
  | (_, d) => uptoBulk d + 1
 end
def uptoSmall : (H : Type) → List (DataW H) → Bool := fun _ ds => decide (uptoBulkAll ds ≤ 1048576)
def OpenSpec.upto (s : _root_.Go.ChangeSpec) : _root_.Go.OpenSpec := { _root_.Go.OpenSpec.ofChange s with cond := some uptoSmall }

/-- 'laws.FnExactLogOf', WHERE WHAT IT READS IS OF BULK AT MOST 1048576: true; the input reads as it did. -/
def fnExactLogOfUptoRow : OpenClaim := { program := "ythheclnjaemjnaagreat", sum := "9a82ca9ff5cbb880747fbf7d4c55344eda39e23b90acf07208a58abb1921c659", func := "loop.example/g00668/laws.FnExactLogOf", spec := "fnExactLogOf", unfollowed := true, recurses := true, apart := false, narrowed := true }
def FnExactLogOfUptoSaid : Prop := fnExactLogOfUptoRow.holds Tryz.pinned (OpenSpec.upto fnExactLogOfSpec)

/-- 'laws.FnExactMachineRight', WHERE WHAT IT READS IS OF BULK AT MOST 1048576: true; the input reads as it did. -/
def fnExactMachineRightUptoRow : OpenClaim := { program := "ythheclnjaemjnaagreat", sum := "9a82ca9ff5cbb880747fbf7d4c55344eda39e23b90acf07208a58abb1921c659", func := "loop.example/g00668/laws.FnExactMachineRight", spec := "fnExactMachineRight", unfollowed := true, recurses := true, apart := false, narrowed := true }
def FnExactMachineRightUptoSaid : Prop := fnExactMachineRightUptoRow.holds Tryz.pinned (OpenSpec.upto fnExactMachineRightSpec)

/-- 'laws.FnExactBootActs', WHERE WHAT IT READS IS OF BULK AT MOST 1048576: true; the input reads as it did. -/
def fnExactBootActsUptoRow : OpenClaim := { program := "ythheclnjaemjnaagreat", sum := "9a82ca9ff5cbb880747fbf7d4c55344eda39e23b90acf07208a58abb1921c659", func := "loop.example/g00668/laws.FnExactBootActs", spec := "fnExactBootActs", unfollowed := true, recurses := true, apart := false, narrowed := true }
def FnExactBootActsUptoSaid : Prop := fnExactBootActsUptoRow.holds Tryz.pinned (OpenSpec.upto fnExactBootActsSpec)

end Rows
end Go.Proofs.YthheclnjaemjnaaGreat
