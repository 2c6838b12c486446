/-
  No cell of these rows narrows 'for every input' (looked for: loops, veiled, ifaces, maps, wideKeys, modest, calm, conditions, laid).
  DERIVED. THE GIVEN ROWS OF THIS SEAT. 12 by the template 'for every input the law returns true; each argument reads behind the call as it read before'; 0 by the template 'total and deterministic' (their statements: YtneiikjafpnapaaTotals.lean).
  GIVEN WITH THE SEED: the statements are not yours to turn. If you find one false, say at which input.
  Laid BY PROGRAM, IN A SANDBOX (cutbox-rows.mjs): the forced cells as the released guide's own fill.sh prints them over the translation e8064b778d73eea7… (all of the seat's roots in one cut). By AI agents, Wed Nov 11 2026. No macro, syntax, notation, axiom, sorry.
-/
import Derived.Test.YtneiikjafpnapaaChecked
import GoSem.Claim
import GoSem.ClaimJoined
import GoSem.ClaimMapViews
import Derived.JoinedTies
import Derived.KernelRfl
namespace Go.Proofs.Ytneiikjafpnapaa
/- THE CELL 'sum', in the pinned program and in every row, IS THE sha256 OF THE DUMP (.gsa) THAT YtneiikjafpnapaaProg.lean LOADS. Nothing in Lean hashes anything: it is a label: what it is worth is what the hold of that sum in a sandbox is worth. -/
noncomputable def Try.pinned : Pinned := { name := "ytneiikjafpnapaa", sum := "e8064b778d73eea70a8ca6ad6ad93eefab6f269c95f36b607f24e9cf0048fc4e", checked := Try.checked }
namespace Rows
def none {H : Type} : Left H := { results := [], args := [] }

/-- 'laws.FnExactSlotsOf': WHATEVER THE INPUT: true; the input reads as it did. -/
def fnExactSlotsOfSpec : ChangeSpec := { name := "fnExactSlotsOf", fn := fun _ => fun
  | [d] => { results := [.lit (.bool true)], args := [d] }
  | _ => none }
def fnExactSlotsOfRow : OpenClaim := { program := "ytneiikjafpnapaa", sum := "e8064b778d73eea70a8ca6ad6ad93eefab6f269c95f36b607f24e9cf0048fc4e", func := "loop.example/g00668/laws.FnExactSlotsOf", spec := "fnExactSlotsOf", apart := false }
def FnExactSlotsOfSaid : Prop := fnExactSlotsOfRow.holds Try.pinned (OpenSpec.ofChange fnExactSlotsOfSpec)

/-- ITS FALSE NEIGHBOUR: 'it returns false'. Refute it at one input. -/
def fnExactSlotsOfWrong : ChangeSpec := { name := "fnExactSlotsOf", fn := fun _ => fun
  | [d] => { results := [.lit (.bool false)], args := [d] }
  | _ => none }
def FnExactSlotsOfWrongFalsely : Prop := fnExactSlotsOfRow.holds Try.pinned (OpenSpec.ofChange fnExactSlotsOfWrong)

/-- 'laws.FnExactSourceOf': WHATEVER THE INPUT: true; the input reads as it did. -/
def fnExactSourceOfSpec : ChangeSpec := { name := "fnExactSourceOf", fn := fun _ => fun
  | [d1, d2, d3] => { results := [.lit (.bool true)], args := [d1, d2, d3] }
  | _ => none }
def fnExactSourceOfRow : OpenClaim := { program := "ytneiikjafpnapaa", sum := "e8064b778d73eea70a8ca6ad6ad93eefab6f269c95f36b607f24e9cf0048fc4e", func := "loop.example/g00668/laws.FnExactSourceOf", spec := "fnExactSourceOf", apart := false }
def FnExactSourceOfSaid : Prop := fnExactSourceOfRow.holds Try.pinned (OpenSpec.ofChange fnExactSourceOfSpec)

/-- ITS FALSE NEIGHBOUR: 'it returns false'. Refute it at one input. -/
def fnExactSourceOfWrong : ChangeSpec := { name := "fnExactSourceOf", fn := fun _ => fun
  | [d1, d2, d3] => { results := [.lit (.bool false)], args := [d1, d2, d3] }
  | _ => none }
def FnExactSourceOfWrongFalsely : Prop := fnExactSourceOfRow.holds Try.pinned (OpenSpec.ofChange fnExactSourceOfWrong)

/-- 'laws.FnExactKeptOf': WHATEVER THE INPUT: true; the input reads as it did. -/
def fnExactKeptOfSpec : ChangeSpec := { name := "fnExactKeptOf", fn := fun _ => fun
  | [d] => { results := [.lit (.bool true)], args := [d] }
  | _ => none }
def fnExactKeptOfRow : OpenClaim := { program := "ytneiikjafpnapaa", sum := "e8064b778d73eea70a8ca6ad6ad93eefab6f269c95f36b607f24e9cf0048fc4e", func := "loop.example/g00668/laws.FnExactKeptOf", spec := "fnExactKeptOf", apart := false }
def FnExactKeptOfSaid : Prop := fnExactKeptOfRow.holds Try.pinned (OpenSpec.ofChange fnExactKeptOfSpec)

/-- ITS FALSE NEIGHBOUR: 'it returns false'. Refute it at one input. -/
def fnExactKeptOfWrong : ChangeSpec := { name := "fnExactKeptOf", fn := fun _ => fun
  | [d] => { results := [.lit (.bool false)], args := [d] }
  | _ => none }
def FnExactKeptOfWrongFalsely : Prop := fnExactKeptOfRow.holds Try.pinned (OpenSpec.ofChange fnExactKeptOfWrong)

/-- 'laws.FnExactTouches': WHATEVER THE INPUT: true; the input reads as it did. -/
def fnExactTouchesSpec : ChangeSpec := { name := "fnExactTouches", fn := fun _ => fun
  | [d1, d2] => { results := [.lit (.bool true)], args := [d1, d2] }
  | _ => none }
def fnExactTouchesRow : OpenClaim := { program := "ytneiikjafpnapaa", sum := "e8064b778d73eea70a8ca6ad6ad93eefab6f269c95f36b607f24e9cf0048fc4e", func := "loop.example/g00668/laws.FnExactTouches", spec := "fnExactTouches", unfollowed := true, recurses := true, apart := false }
def FnExactTouchesSaid : Prop := fnExactTouchesRow.holds Try.pinned (OpenSpec.ofChange fnExactTouchesSpec)

/-- ITS FALSE NEIGHBOUR: 'it returns false'. Refute it at one input. -/
def fnExactTouchesWrong : ChangeSpec := { name := "fnExactTouches", fn := fun _ => fun
  | [d1, d2] => { results := [.lit (.bool false)], args := [d1, d2] }
  | _ => none }
def FnExactTouchesWrongFalsely : Prop := fnExactTouchesRow.holds Try.pinned (OpenSpec.ofChange fnExactTouchesWrong)

/-- 'laws.FnExactNoteBytes': WHATEVER THE INPUT: true; the input reads as it did. -/
def fnExactNoteBytesSpec : ChangeSpec := { name := "fnExactNoteBytes", fn := fun _ => fun
  | [d1, d2, d3] => { results := [.lit (.bool true)], args := [d1, d2, d3] }
  | _ => none }
def fnExactNoteBytesRow : OpenClaim := { program := "ytneiikjafpnapaa", sum := "e8064b778d73eea70a8ca6ad6ad93eefab6f269c95f36b607f24e9cf0048fc4e", func := "loop.example/g00668/laws.FnExactNoteBytes", spec := "fnExactNoteBytes", apart := false }
def FnExactNoteBytesSaid : Prop := fnExactNoteBytesRow.holds Try.pinned (OpenSpec.ofChange fnExactNoteBytesSpec)

/-- ITS FALSE NEIGHBOUR: 'it returns false'. Refute it at one input. -/
def fnExactNoteBytesWrong : ChangeSpec := { name := "fnExactNoteBytes", fn := fun _ => fun
  | [d1, d2, d3] => { results := [.lit (.bool false)], args := [d1, d2, d3] }
  | _ => none }
def FnExactNoteBytesWrongFalsely : Prop := fnExactNoteBytesRow.holds Try.pinned (OpenSpec.ofChange fnExactNoteBytesWrong)

/-- 'laws.FnExactCmdRight': WHATEVER THE INPUT: true; the input reads as it did. -/
def fnExactCmdRightSpec : ChangeSpec := { name := "fnExactCmdRight", fn := fun _ => fun
  | [d] => { results := [.lit (.bool true)], args := [d] }
  | _ => none }
def fnExactCmdRightRow : OpenClaim := { program := "ytneiikjafpnapaa", sum := "e8064b778d73eea70a8ca6ad6ad93eefab6f269c95f36b607f24e9cf0048fc4e", func := "loop.example/g00668/laws.FnExactCmdRight", spec := "fnExactCmdRight", apart := false }
def FnExactCmdRightSaid : Prop := fnExactCmdRightRow.holds Try.pinned (OpenSpec.ofChange fnExactCmdRightSpec)

/-- ITS FALSE NEIGHBOUR: 'it returns false'. Refute it at one input. -/
def fnExactCmdRightWrong : ChangeSpec := { name := "fnExactCmdRight", fn := fun _ => fun
  | [d] => { results := [.lit (.bool false)], args := [d] }
  | _ => none }
def FnExactCmdRightWrongFalsely : Prop := fnExactCmdRightRow.holds Try.pinned (OpenSpec.ofChange fnExactCmdRightWrong)

/-- 'laws.FnExactStateRight': WHATEVER THE INPUT: true; the input reads as it did. -/
def fnExactStateRightSpec : ChangeSpec := { name := "fnExactStateRight", fn := fun _ => fun
  | [d] => { results := [.lit (.bool true)], args := [d] }
  | _ => none }
def fnExactStateRightRow : OpenClaim := { program := "ytneiikjafpnapaa", sum := "e8064b778d73eea70a8ca6ad6ad93eefab6f269c95f36b607f24e9cf0048fc4e", func := "loop.example/g00668/laws.FnExactStateRight", spec := "fnExactStateRight", apart := false }
def FnExactStateRightSaid : Prop := fnExactStateRightRow.holds Try.pinned (OpenSpec.ofChange fnExactStateRightSpec)

/-- ITS FALSE NEIGHBOUR: 'it returns false'. Refute it at one input. -/
def fnExactStateRightWrong : ChangeSpec := { name := "fnExactStateRight", fn := fun _ => fun
  | [d] => { results := [.lit (.bool false)], args := [d] }
  | _ => none }
def FnExactStateRightWrongFalsely : Prop := fnExactStateRightRow.holds Try.pinned (OpenSpec.ofChange fnExactStateRightWrong)

/-- 'laws.FnExactRecordBytes': WHATEVER THE INPUT: true; the input reads as it did. -/
def fnExactRecordBytesSpec : ChangeSpec := { name := "fnExactRecordBytes", fn := fun _ => fun
  | [d1, d2] => { results := [.lit (.bool true)], args := [d1, d2] }
  | _ => none }
def fnExactRecordBytesRow : OpenClaim := { program := "ytneiikjafpnapaa", sum := "e8064b778d73eea70a8ca6ad6ad93eefab6f269c95f36b607f24e9cf0048fc4e", func := "loop.example/g00668/laws.FnExactRecordBytes", spec := "fnExactRecordBytes", apart := false }
def FnExactRecordBytesSaid : Prop := fnExactRecordBytesRow.holds Try.pinned (OpenSpec.ofChange fnExactRecordBytesSpec)

/-- ITS FALSE NEIGHBOUR: 'it returns false'. Refute it at one input. -/
def fnExactRecordBytesWrong : ChangeSpec := { name := "fnExactRecordBytes", fn := fun _ => fun
  | [d1, d2] => { results := [.lit (.bool false)], args := [d1, d2] }
  | _ => none }
def FnExactRecordBytesWrongFalsely : Prop := fnExactRecordBytesRow.holds Try.pinned (OpenSpec.ofChange fnExactRecordBytesWrong)

/-- 'laws.FnExactStateIdle': WHATEVER THE INPUT: true; the input reads as it did. -/
def fnExactStateIdleSpec : ChangeSpec := { name := "fnExactStateIdle", fn := fun _ => fun
  | [d] => { results := [.lit (.bool true)], args := [d] }
  | _ => none }
def fnExactStateIdleRow : OpenClaim := { program := "ytneiikjafpnapaa", sum := "e8064b778d73eea70a8ca6ad6ad93eefab6f269c95f36b607f24e9cf0048fc4e", func := "loop.example/g00668/laws.FnExactStateIdle", spec := "fnExactStateIdle", apart := false }
def FnExactStateIdleSaid : Prop := fnExactStateIdleRow.holds Try.pinned (OpenSpec.ofChange fnExactStateIdleSpec)

/-- ITS FALSE NEIGHBOUR: 'it returns false'. Refute it at one input. -/
def fnExactStateIdleWrong : ChangeSpec := { name := "fnExactStateIdle", fn := fun _ => fun
  | [d] => { results := [.lit (.bool false)], args := [d] }
  | _ => none }
def FnExactStateIdleWrongFalsely : Prop := fnExactStateIdleRow.holds Try.pinned (OpenSpec.ofChange fnExactStateIdleWrong)

/-- 'laws.FnExactStateBytes': WHATEVER THE INPUT: true; the input reads as it did. -/
def fnExactStateBytesSpec : ChangeSpec := { name := "fnExactStateBytes", fn := fun _ => fun
  | [d] => { results := [.lit (.bool true)], args := [d] }
  | _ => none }
def fnExactStateBytesRow : OpenClaim := { program := "ytneiikjafpnapaa", sum := "e8064b778d73eea70a8ca6ad6ad93eefab6f269c95f36b607f24e9cf0048fc4e", func := "loop.example/g00668/laws.FnExactStateBytes", spec := "fnExactStateBytes", apart := false }
def FnExactStateBytesSaid : Prop := fnExactStateBytesRow.holds Try.pinned (OpenSpec.ofChange fnExactStateBytesSpec)

/-- ITS FALSE NEIGHBOUR: 'it returns false'. Refute it at one input. -/
def fnExactStateBytesWrong : ChangeSpec := { name := "fnExactStateBytes", fn := fun _ => fun
  | [d] => { results := [.lit (.bool false)], args := [d] }
  | _ => none }
def FnExactStateBytesWrongFalsely : Prop := fnExactStateBytesRow.holds Try.pinned (OpenSpec.ofChange fnExactStateBytesWrong)

/-- 'laws.FnExactStepRead': WHATEVER THE INPUT: true; the input reads as it did. -/
def fnExactStepReadSpec : ChangeSpec := { name := "fnExactStepRead", fn := fun _ => fun
  | [d] => { results := [.lit (.bool true)], args := [d] }
  | _ => none }
def fnExactStepReadRow : OpenClaim := { program := "ytneiikjafpnapaa", sum := "e8064b778d73eea70a8ca6ad6ad93eefab6f269c95f36b607f24e9cf0048fc4e", func := "loop.example/g00668/laws.FnExactStepRead", spec := "fnExactStepRead", apart := false }
def FnExactStepReadSaid : Prop := fnExactStepReadRow.holds Try.pinned (OpenSpec.ofChange fnExactStepReadSpec)

/-- ITS FALSE NEIGHBOUR: 'it returns false'. Refute it at one input. -/
def fnExactStepReadWrong : ChangeSpec := { name := "fnExactStepRead", fn := fun _ => fun
  | [d] => { results := [.lit (.bool false)], args := [d] }
  | _ => none }
def FnExactStepReadWrongFalsely : Prop := fnExactStepReadRow.holds Try.pinned (OpenSpec.ofChange fnExactStepReadWrong)

/-- 'laws.FnExactNoteRead': WHATEVER THE INPUT: true; the input reads as it did. -/
def fnExactNoteReadSpec : ChangeSpec := { name := "fnExactNoteRead", fn := fun _ => fun
  | [d1, d2] => { results := [.lit (.bool true)], args := [d1, d2] }
  | _ => none }
def fnExactNoteReadRow : OpenClaim := { program := "ytneiikjafpnapaa", sum := "e8064b778d73eea70a8ca6ad6ad93eefab6f269c95f36b607f24e9cf0048fc4e", func := "loop.example/g00668/laws.FnExactNoteRead", spec := "fnExactNoteRead", apart := false }
def FnExactNoteReadSaid : Prop := fnExactNoteReadRow.holds Try.pinned (OpenSpec.ofChange fnExactNoteReadSpec)

/-- ITS FALSE NEIGHBOUR: 'it returns false'. Refute it at one input. -/
def fnExactNoteReadWrong : ChangeSpec := { name := "fnExactNoteRead", fn := fun _ => fun
  | [d1, d2] => { results := [.lit (.bool false)], args := [d1, d2] }
  | _ => none }
def FnExactNoteReadWrongFalsely : Prop := fnExactNoteReadRow.holds Try.pinned (OpenSpec.ofChange fnExactNoteReadWrong)

/- THE SECOND FORM. 'bulk': how many values and letters a reading holds, each counted each time it is reached (what is shared counts as often as it is met; a slice's spare places count too). A statement '..UptoSaid' is the law's where the arguments, and the package variables that the reading takes, are together of bulk at most 1048576: NARROWER than '..Said'. Prove '..Said' where nothing that the law and all that it calls make is longer than what came in: it says more and counts as full. Else prove '..UptoSaid'. A law counts once. -/
mutual
def uptoBulk {H : Type} : DataW H → Nat
  | .lit (.string bytes) => bytes.length + 1
  | .lit _ => 1
  | .nil => 1
  | .ptr d => uptoBulk d + 1
  | .slice elems spare => uptoBulkAll elems + uptoBulkAll spare + 1
  | .agg parts => uptoBulkAll parts + 1
  | .iface _ d => uptoBulk d + 1
  | .map entries => uptoBulkEntries entries + 1
  | .held _ => 1
def uptoBulkAll {H : Type} : List (DataW H) → Nat
  | [] => 0
  | d :: r => uptoBulk d + uptoBulkAll r
def uptoBulkEntries {H : Type} : List (Lit × DataW H) → Nat
  | [] => 0
  | x :: r => uptoBulkEntry x + uptoBulkEntries r
def uptoBulkEntry {H : Type} : Lit × DataW H → Nat
  | (.string bytes, d) => bytes.length + uptoBulk d + 1
  | (_, d) => uptoBulk d + 1
 end
def uptoSmall : (H : Type) → List (DataW H) → Bool := fun _ ds => decide (uptoBulkAll ds ≤ 1048576)
def OpenSpec.upto (s : _root_.Go.ChangeSpec) : _root_.Go.OpenSpec := { _root_.Go.OpenSpec.ofChange s with cond := some uptoSmall }

/-- 'laws.FnExactSlotsOf', WHERE WHAT IT READS IS OF BULK AT MOST 1048576: true; the input reads as it did. -/
def fnExactSlotsOfUptoRow : OpenClaim := { program := "ytneiikjafpnapaa", sum := "e8064b778d73eea70a8ca6ad6ad93eefab6f269c95f36b607f24e9cf0048fc4e", func := "loop.example/g00668/laws.FnExactSlotsOf", spec := "fnExactSlotsOf", apart := false, narrowed := true }
def FnExactSlotsOfUptoSaid : Prop := fnExactSlotsOfUptoRow.holds Try.pinned (OpenSpec.upto fnExactSlotsOfSpec)

/-- 'laws.FnExactSourceOf', WHERE WHAT IT READS IS OF BULK AT MOST 1048576: true; the input reads as it did. -/
def fnExactSourceOfUptoRow : OpenClaim := { program := "ytneiikjafpnapaa", sum := "e8064b778d73eea70a8ca6ad6ad93eefab6f269c95f36b607f24e9cf0048fc4e", func := "loop.example/g00668/laws.FnExactSourceOf", spec := "fnExactSourceOf", apart := false, narrowed := true }
def FnExactSourceOfUptoSaid : Prop := fnExactSourceOfUptoRow.holds Try.pinned (OpenSpec.upto fnExactSourceOfSpec)

/-- 'laws.FnExactKeptOf', WHERE WHAT IT READS IS OF BULK AT MOST 1048576: true; the input reads as it did. -/
def fnExactKeptOfUptoRow : OpenClaim := { program := "ytneiikjafpnapaa", sum := "e8064b778d73eea70a8ca6ad6ad93eefab6f269c95f36b607f24e9cf0048fc4e", func := "loop.example/g00668/laws.FnExactKeptOf", spec := "fnExactKeptOf", apart := false, narrowed := true }
def FnExactKeptOfUptoSaid : Prop := fnExactKeptOfUptoRow.holds Try.pinned (OpenSpec.upto fnExactKeptOfSpec)

/-- 'laws.FnExactTouches', WHERE WHAT IT READS IS OF BULK AT MOST 1048576: true; the input reads as it did. -/
def fnExactTouchesUptoRow : OpenClaim := { program := "ytneiikjafpnapaa", sum := "e8064b778d73eea70a8ca6ad6ad93eefab6f269c95f36b607f24e9cf0048fc4e", func := "loop.example/g00668/laws.FnExactTouches", spec := "fnExactTouches", unfollowed := true, recurses := true, apart := false, narrowed := true }
def FnExactTouchesUptoSaid : Prop := fnExactTouchesUptoRow.holds Try.pinned (OpenSpec.upto fnExactTouchesSpec)

/-- 'laws.FnExactNoteBytes', WHERE WHAT IT READS IS OF BULK AT MOST 1048576: true; the input reads as it did. -/
def fnExactNoteBytesUptoRow : OpenClaim := { program := "ytneiikjafpnapaa", sum := "e8064b778d73eea70a8ca6ad6ad93eefab6f269c95f36b607f24e9cf0048fc4e", func := "loop.example/g00668/laws.FnExactNoteBytes", spec := "fnExactNoteBytes", apart := false, narrowed := true }
def FnExactNoteBytesUptoSaid : Prop := fnExactNoteBytesUptoRow.holds Try.pinned (OpenSpec.upto fnExactNoteBytesSpec)

/-- 'laws.FnExactCmdRight', WHERE WHAT IT READS IS OF BULK AT MOST 1048576: true; the input reads as it did. -/
def fnExactCmdRightUptoRow : OpenClaim := { program := "ytneiikjafpnapaa", sum := "e8064b778d73eea70a8ca6ad6ad93eefab6f269c95f36b607f24e9cf0048fc4e", func := "loop.example/g00668/laws.FnExactCmdRight", spec := "fnExactCmdRight", apart := false, narrowed := true }
def FnExactCmdRightUptoSaid : Prop := fnExactCmdRightUptoRow.holds Try.pinned (OpenSpec.upto fnExactCmdRightSpec)

/-- 'laws.FnExactStateRight', WHERE WHAT IT READS IS OF BULK AT MOST 1048576: true; the input reads as it did. -/
def fnExactStateRightUptoRow : OpenClaim := { program := "ytneiikjafpnapaa", sum := "e8064b778d73eea70a8ca6ad6ad93eefab6f269c95f36b607f24e9cf0048fc4e", func := "loop.example/g00668/laws.FnExactStateRight", spec := "fnExactStateRight", apart := false, narrowed := true }
def FnExactStateRightUptoSaid : Prop := fnExactStateRightUptoRow.holds Try.pinned (OpenSpec.upto fnExactStateRightSpec)

/-- 'laws.FnExactRecordBytes', WHERE WHAT IT READS IS OF BULK AT MOST 1048576: true; the input reads as it did. -/
def fnExactRecordBytesUptoRow : OpenClaim := { program := "ytneiikjafpnapaa", sum := "e8064b778d73eea70a8ca6ad6ad93eefab6f269c95f36b607f24e9cf0048fc4e", func := "loop.example/g00668/laws.FnExactRecordBytes", spec := "fnExactRecordBytes", apart := false, narrowed := true }
def FnExactRecordBytesUptoSaid : Prop := fnExactRecordBytesUptoRow.holds Try.pinned (OpenSpec.upto fnExactRecordBytesSpec)

/-- 'laws.FnExactStateIdle', WHERE WHAT IT READS IS OF BULK AT MOST 1048576: true; the input reads as it did. -/
def fnExactStateIdleUptoRow : OpenClaim := { program := "ytneiikjafpnapaa", sum := "e8064b778d73eea70a8ca6ad6ad93eefab6f269c95f36b607f24e9cf0048fc4e", func := "loop.example/g00668/laws.FnExactStateIdle", spec := "fnExactStateIdle", apart := false, narrowed := true }
def FnExactStateIdleUptoSaid : Prop := fnExactStateIdleUptoRow.holds Try.pinned (OpenSpec.upto fnExactStateIdleSpec)

/-- 'laws.FnExactStateBytes', WHERE WHAT IT READS IS OF BULK AT MOST 1048576: true; the input reads as it did. -/
def fnExactStateBytesUptoRow : OpenClaim := { program := "ytneiikjafpnapaa", sum := "e8064b778d73eea70a8ca6ad6ad93eefab6f269c95f36b607f24e9cf0048fc4e", func := "loop.example/g00668/laws.FnExactStateBytes", spec := "fnExactStateBytes", apart := false, narrowed := true }
def FnExactStateBytesUptoSaid : Prop := fnExactStateBytesUptoRow.holds Try.pinned (OpenSpec.upto fnExactStateBytesSpec)

/-- 'laws.FnExactStepRead', WHERE WHAT IT READS IS OF BULK AT MOST 1048576: true; the input reads as it did. -/
def fnExactStepReadUptoRow : OpenClaim := { program := "ytneiikjafpnapaa", sum := "e8064b778d73eea70a8ca6ad6ad93eefab6f269c95f36b607f24e9cf0048fc4e", func := "loop.example/g00668/laws.FnExactStepRead", spec := "fnExactStepRead", apart := false, narrowed := true }
def FnExactStepReadUptoSaid : Prop := fnExactStepReadUptoRow.holds Try.pinned (OpenSpec.upto fnExactStepReadSpec)

/-- 'laws.FnExactNoteRead', WHERE WHAT IT READS IS OF BULK AT MOST 1048576: true; the input reads as it did. -/
def fnExactNoteReadUptoRow : OpenClaim := { program := "ytneiikjafpnapaa", sum := "e8064b778d73eea70a8ca6ad6ad93eefab6f269c95f36b607f24e9cf0048fc4e", func := "loop.example/g00668/laws.FnExactNoteRead", spec := "fnExactNoteRead", apart := false, narrowed := true }
def FnExactNoteReadUptoSaid : Prop := fnExactNoteReadUptoRow.holds Try.pinned (OpenSpec.upto fnExactNoteReadSpec)

end Rows
end Go.Proofs.Ytneiikjafpnapaa
