/-
  No cell of these rows narrows 'for every input' (looked for: loops, veiled, ifaces, maps, wideKeys, modest, calm, conditions, laid).
  DERIVED. THE GIVEN ROWS OF THIS SEAT. 6 by the template 'for every input the law returns true; each argument reads behind the call as it read before'; 0 by the template 'total and deterministic' (their statements: YtiokibikhanfcaaGreatTotals.lean).
  GIVEN WITH THE SEED: the statements are not yours to turn. If you find one false, say at which input.
  Laid BY PROGRAM, IN A SANDBOX (cutbox-rows.mjs): the forced cells as the released guide's own fill.sh prints them over the translation b5e1729bc97b05f9… (all of the seat's roots in one cut). By AI agents, Wed Nov 11 2026. No macro, syntax, notation, axiom, sorry.
-/
import Derived.Test.YtiokibikhanfcaaGreatChecked
import GoSem.Claim
import GoSem.ClaimJoined
import GoSem.ClaimMapViews
import Derived.JoinedTies
import Derived.KernelRfl
namespace Go.Proofs.YtiokibikhanfcaaGreat
/- THE CELL 'sum', in the pinned program and in every row, IS THE sha256 OF THE DUMP (.gsa) THAT YtiokibikhanfcaaGreatProg.lean LOADS. Nothing in Lean hashes anything: it is a label: what it is worth is what the hold of that sum in a sandbox is worth. -/
noncomputable def Tryz.pinned : Pinned := { name := "ytiokibikhanfcaagreat", sum := "b5e1729bc97b05f9fffc8b711036bd828a061ad969baa713877c84faba02e8ea", checked := Tryz.checked }
namespace Rows
def none {H : Type} : Left H := { results := [], args := [] }

/-- 'laws.FnExactMovesOf': WHATEVER THE INPUT: true; the input reads as it did. -/
def fnExactMovesOfSpec : ChangeSpec := { name := "fnExactMovesOf", fn := fun _ => fun
  | [d] => { results := [.lit (.bool true)], args := [d] }
  | _ => none }
def fnExactMovesOfRow : OpenClaim := { program := "ytiokibikhanfcaagreat", sum := "b5e1729bc97b05f9fffc8b711036bd828a061ad969baa713877c84faba02e8ea", func := "loop.example/g00668/laws.FnExactMovesOf", spec := "fnExactMovesOf", unfollowed := true, recurses := true, apart := false }
def FnExactMovesOfSaid : Prop := fnExactMovesOfRow.holds Tryz.pinned (OpenSpec.ofChange fnExactMovesOfSpec)

/-- ITS FALSE NEIGHBOUR: 'it returns false'. Refute it at one input. -/
def fnExactMovesOfWrong : ChangeSpec := { name := "fnExactMovesOf", fn := fun _ => fun
  | [d] => { results := [.lit (.bool false)], args := [d] }
  | _ => none }
def FnExactMovesOfWrongFalsely : Prop := fnExactMovesOfRow.holds Tryz.pinned (OpenSpec.ofChange fnExactMovesOfWrong)

/-- 'laws.FnExactBaseOf': WHATEVER THE INPUT: true; the input reads as it did. -/
def fnExactBaseOfSpec : ChangeSpec := { name := "fnExactBaseOf", fn := fun _ => fun
  | [d] => { results := [.lit (.bool true)], args := [d] }
  | _ => none }
def fnExactBaseOfRow : OpenClaim := { program := "ytiokibikhanfcaagreat", sum := "b5e1729bc97b05f9fffc8b711036bd828a061ad969baa713877c84faba02e8ea", func := "loop.example/g00668/laws.FnExactBaseOf", spec := "fnExactBaseOf", unfollowed := true, recurses := true, apart := false }
def FnExactBaseOfSaid : Prop := fnExactBaseOfRow.holds Tryz.pinned (OpenSpec.ofChange fnExactBaseOfSpec)

/-- ITS FALSE NEIGHBOUR: 'it returns false'. Refute it at one input. -/
def fnExactBaseOfWrong : ChangeSpec := { name := "fnExactBaseOf", fn := fun _ => fun
  | [d] => { results := [.lit (.bool false)], args := [d] }
  | _ => none }
def FnExactBaseOfWrongFalsely : Prop := fnExactBaseOfRow.holds Tryz.pinned (OpenSpec.ofChange fnExactBaseOfWrong)

/-- 'laws.FnExactBoot': WHATEVER THE INPUT: true; the input reads as it did. -/
def fnExactBootSpec : ChangeSpec := { name := "fnExactBoot", fn := fun _ => fun
  | [d] => { results := [.lit (.bool true)], args := [d] }
  | _ => none }
def fnExactBootRow : OpenClaim := { program := "ytiokibikhanfcaagreat", sum := "b5e1729bc97b05f9fffc8b711036bd828a061ad969baa713877c84faba02e8ea", func := "loop.example/g00668/laws.FnExactBoot", spec := "fnExactBoot", unfollowed := true, recurses := true, apart := false }
def FnExactBootSaid : Prop := fnExactBootRow.holds Tryz.pinned (OpenSpec.ofChange fnExactBootSpec)

/-- ITS FALSE NEIGHBOUR: 'it returns false'. Refute it at one input. -/
def fnExactBootWrong : ChangeSpec := { name := "fnExactBoot", fn := fun _ => fun
  | [d] => { results := [.lit (.bool false)], args := [d] }
  | _ => none }
def FnExactBootWrongFalsely : Prop := fnExactBootRow.holds Tryz.pinned (OpenSpec.ofChange fnExactBootWrong)

/-- 'laws.FnExactBootCut': WHATEVER THE INPUT: true; the input reads as it did. -/
def fnExactBootCutSpec : ChangeSpec := { name := "fnExactBootCut", fn := fun _ => fun
  | [d1, d2, d3] => { results := [.lit (.bool true)], args := [d1, d2, d3] }
  | _ => none }
def fnExactBootCutRow : OpenClaim := { program := "ytiokibikhanfcaagreat", sum := "b5e1729bc97b05f9fffc8b711036bd828a061ad969baa713877c84faba02e8ea", func := "loop.example/g00668/laws.FnExactBootCut", spec := "fnExactBootCut", unfollowed := true, recurses := true, apart := false }
def FnExactBootCutSaid : Prop := fnExactBootCutRow.holds Tryz.pinned (OpenSpec.ofChange fnExactBootCutSpec)

/-- ITS FALSE NEIGHBOUR: 'it returns false'. Refute it at one input. -/
def fnExactBootCutWrong : ChangeSpec := { name := "fnExactBootCut", fn := fun _ => fun
  | [d1, d2, d3] => { results := [.lit (.bool false)], args := [d1, d2, d3] }
  | _ => none }
def FnExactBootCutWrongFalsely : Prop := fnExactBootCutRow.holds Tryz.pinned (OpenSpec.ofChange fnExactBootCutWrong)

/-- 'laws.FnExactViewOf': WHATEVER THE INPUT: true; the input reads as it did. -/
def fnExactViewOfSpec : ChangeSpec := { name := "fnExactViewOf", fn := fun _ => fun
  | [d] => { results := [.lit (.bool true)], args := [d] }
  | _ => none }
def fnExactViewOfRow : OpenClaim := { program := "ytiokibikhanfcaagreat", sum := "b5e1729bc97b05f9fffc8b711036bd828a061ad969baa713877c84faba02e8ea", func := "loop.example/g00668/laws.FnExactViewOf", spec := "fnExactViewOf", unfollowed := true, recurses := true, apart := false }
def FnExactViewOfSaid : Prop := fnExactViewOfRow.holds Tryz.pinned (OpenSpec.ofChange fnExactViewOfSpec)

/-- ITS FALSE NEIGHBOUR: 'it returns false'. Refute it at one input. -/
def fnExactViewOfWrong : ChangeSpec := { name := "fnExactViewOf", fn := fun _ => fun
  | [d] => { results := [.lit (.bool false)], args := [d] }
  | _ => none }
def FnExactViewOfWrongFalsely : Prop := fnExactViewOfRow.holds Tryz.pinned (OpenSpec.ofChange fnExactViewOfWrong)

/-- 'laws.FnExactIdealOf': WHATEVER THE INPUT: true; the input reads as it did. -/
def fnExactIdealOfSpec : ChangeSpec := { name := "fnExactIdealOf", fn := fun _ => fun
  | [d] => { results := [.lit (.bool true)], args := [d] }
  | _ => none }
def fnExactIdealOfRow : OpenClaim := { program := "ytiokibikhanfcaagreat", sum := "b5e1729bc97b05f9fffc8b711036bd828a061ad969baa713877c84faba02e8ea", func := "loop.example/g00668/laws.FnExactIdealOf", spec := "fnExactIdealOf", unfollowed := true, recurses := true, apart := false }
def FnExactIdealOfSaid : Prop := fnExactIdealOfRow.holds Tryz.pinned (OpenSpec.ofChange fnExactIdealOfSpec)

/-- ITS FALSE NEIGHBOUR: 'it returns false'. Refute it at one input. -/
def fnExactIdealOfWrong : ChangeSpec := { name := "fnExactIdealOf", fn := fun _ => fun
  | [d] => { results := [.lit (.bool false)], args := [d] }
  | _ => none }
def FnExactIdealOfWrongFalsely : Prop := fnExactIdealOfRow.holds Tryz.pinned (OpenSpec.ofChange fnExactIdealOfWrong)

/- THE SECOND FORM. 'bulk': how many values and letters a reading holds, each counted each time it is reached (what is shared counts as often as it is met; a slice's spare places count too). A statement '..UptoSaid' is the law's where the arguments, and the package variables that the reading takes, are together of bulk at most 1048576: NARROWER than '..Said'. Prove '..Said' where nothing that the law and all that it calls make is longer than what came in: it says more and counts as full. Else prove '..UptoSaid'. A law counts once. -/
mutual
def uptoBulk {H : Type} : DataW H → Nat
  | .lit (.string bytes) => bytes.length + 1
  | .lit _ => 1
  | .nil => 1
  | .ptr d => uptoBulk d + 1
  | .slice elems spare => uptoBulkAll elems + uptoBulkAll spare + 1
  | .agg parts => uptoBulkAll parts + 1
  | .iface _ d => uptoBulk d + 1
  | .map entries => uptoBulkEntries entries + 1
  | .held _ => 1
def uptoBulkAll {H : Type} : List (DataW H) → Nat
  | [] => 0
  | d :: r => uptoBulk d + uptoBulkAll r
def uptoBulkEntries {H : Type} : List (Lit × DataW H) → Nat
  | [] => 0
  | x :: r => uptoBulkEntry x + uptoBulkEntries r
def uptoBulkEntry {H : Type} : Lit × DataW H → Nat
  | (.string bytes, d) => bytes.length + uptoBulk d + 1
  | (_, d) => uptoBulk d + 1
 end
def uptoSmall : (H : Type) → List (DataW H) → Bool := fun _ ds => decide (uptoBulkAll ds ≤ 1048576)
def OpenSpec.upto (s : _root_.Go.ChangeSpec) : _root_.Go.OpenSpec := { _root_.Go.OpenSpec.ofChange s with cond := some uptoSmall }

/-- 'laws.FnExactMovesOf', WHERE WHAT IT READS IS OF BULK AT MOST 1048576: true; the input reads as it did. -/
def fnExactMovesOfUptoRow : OpenClaim := { program := "ytiokibikhanfcaagreat", sum := "b5e1729bc97b05f9fffc8b711036bd828a061ad969baa713877c84faba02e8ea", func := "loop.example/g00668/laws.FnExactMovesOf", spec := "fnExactMovesOf", unfollowed := true, recurses := true, apart := false, narrowed := true }
def FnExactMovesOfUptoSaid : Prop := fnExactMovesOfUptoRow.holds Tryz.pinned (OpenSpec.upto fnExactMovesOfSpec)

/-- 'laws.FnExactBaseOf', WHERE WHAT IT READS IS OF BULK AT MOST 1048576: true; the input reads as it did. -/
def fnExactBaseOfUptoRow : OpenClaim := { program := "ytiokibikhanfcaagreat", sum := "b5e1729bc97b05f9fffc8b711036bd828a061ad969baa713877c84faba02e8ea", func := "loop.example/g00668/laws.FnExactBaseOf", spec := "fnExactBaseOf", unfollowed := true, recurses := true, apart := false, narrowed := true }
def FnExactBaseOfUptoSaid : Prop := fnExactBaseOfUptoRow.holds Tryz.pinned (OpenSpec.upto fnExactBaseOfSpec)

/-- 'laws.FnExactBoot', WHERE WHAT IT READS IS OF BULK AT MOST 1048576: true; the input reads as it did. -/
def fnExactBootUptoRow : OpenClaim := { program := "ytiokibikhanfcaagreat", sum := "b5e1729bc97b05f9fffc8b711036bd828a061ad969baa713877c84faba02e8ea", func := "loop.example/g00668/laws.FnExactBoot", spec := "fnExactBoot", unfollowed := true, recurses := true, apart := false, narrowed := true }
def FnExactBootUptoSaid : Prop := fnExactBootUptoRow.holds Tryz.pinned (OpenSpec.upto fnExactBootSpec)

/-- 'laws.FnExactBootCut', WHERE WHAT IT READS IS OF BULK AT MOST 1048576: true; the input reads as it did. -/
def fnExactBootCutUptoRow : OpenClaim := { program := "ytiokibikhanfcaagreat", sum := "b5e1729bc97b05f9fffc8b711036bd828a061ad969baa713877c84faba02e8ea", func := "loop.example/g00668/laws.FnExactBootCut", spec := "fnExactBootCut", unfollowed := true, recurses := true, apart := false, narrowed := true }
def FnExactBootCutUptoSaid : Prop := fnExactBootCutUptoRow.holds Tryz.pinned (OpenSpec.upto fnExactBootCutSpec)

/-- 'laws.FnExactViewOf', WHERE WHAT IT READS IS OF BULK AT MOST 1048576: true; the input reads as it did. -/
def fnExactViewOfUptoRow : OpenClaim := { program := "ytiokibikhanfcaagreat", sum := "b5e1729bc97b05f9fffc8b711036bd828a061ad969baa713877c84faba02e8ea", func := "loop.example/g00668/laws.FnExactViewOf", spec := "fnExactViewOf", unfollowed := true, recurses := true, apart := false, narrowed := true }
def FnExactViewOfUptoSaid : Prop := fnExactViewOfUptoRow.holds Tryz.pinned (OpenSpec.upto fnExactViewOfSpec)

/-- 'laws.FnExactIdealOf', WHERE WHAT IT READS IS OF BULK AT MOST 1048576: true; the input reads as it did. -/
def fnExactIdealOfUptoRow : OpenClaim := { program := "ytiokibikhanfcaagreat", sum := "b5e1729bc97b05f9fffc8b711036bd828a061ad969baa713877c84faba02e8ea", func := "loop.example/g00668/laws.FnExactIdealOf", spec := "fnExactIdealOf", unfollowed := true, recurses := true, apart := false, narrowed := true }
def FnExactIdealOfUptoSaid : Prop := fnExactIdealOfUptoRow.holds Tryz.pinned (OpenSpec.upto fnExactIdealOfSpec)

end Rows
end Go.Proofs.YtiokibikhanfcaaGreat
