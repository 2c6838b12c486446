/- A helper of this seat's claims (contracts of the functions): what it shows is shown for every input that its statements name, on no other condition. -/
import Derived.Test.YthjbhdmjfakfaaaGreatDoorC08
import Derived.Test.YthjbhdmjfakfaaaGreatDoorKD
import Derived.Test.YthjbhdmjfakfaaaGreatDoorMC0
set_option linter.unusedVariables false
set_option linter.unusedSimpArgs false
set_option maxRecDepth 100000
namespace Go.Proofs.YthjbhdmjfakfaaaGreatDoor
open Go.KH

/-! ## Packages with a code -/
def pkg0 : UPkg := ⟨0, [], []⟩
abbrev spPo (o : UPkg × Int) : List Sp := [.v (i64 o.1.blocks), .v (str o.1.digest), .s 4 (o.1.steps.map UStep.cells), .v (i64 o.2)]
theorem po_r {h : H} {o : UPkg × Int} {cs : List Value} : RepR h (spPo o) cs ↔ ∃ v, cs = [i64 o.1.blocks, str o.1.digest, v, i64 o.2] ∧ Sl h v 4 (o.1.steps.map UStep.cells) := by
  simp only [spPo, RepR_i, RepR_str, RepR_s, RepR_nil]
  constructor
  · rintro ⟨_, rfl, _, rfl, v, _, rfl, h1, _, rfl, rfl⟩; exact ⟨v, rfl, h1⟩
  · rintro ⟨v, rfl, h1⟩; exact ⟨_, rfl, _, rfl, v, _, rfl, h1, _, rfl, rfl⟩
theorem po_f {h0 h : H} {o : UPkg × Int} {cs : List Value} : RepF h0 h (spPo o) cs ↔ ∃ v, cs = [i64 o.1.blocks, str o.1.digest, v, i64 o.2] ∧ Fre h0 h v 4 (o.1.steps.map UStep.cells) := by
  simp only [spPo, RepF_i, RepF_str, RepF_s, RepF_nil]
  constructor
  · rintro ⟨_, rfl, _, rfl, v, _, rfl, h1, d, _, rfl, rfl⟩; exact ⟨v, rfl, h1⟩
  · rintro ⟨v, rfl, h1⟩; exact ⟨_, rfl, _, rfl, v, _, rfl, h1, fun d hd => by simp only [List.mem_cons, List.not_mem_nil, or_false] at hd; subst hd; exact Dj.nb rfl, _, rfl, rfl⟩
abbrev spMPo (o : UPkg × Int) (k : Int) : List Sp := [.v (i64 o.1.blocks), .v (str o.1.digest), .s 4 (mks gStep 4 k o.1.steps.length), .v (i64 o.2)]
theorem po_m {h : H} {o : UPkg × Int} {cs : List Value} {k : Int} : RepR h (spMPo o k) cs ↔ ∃ v, cs = [i64 o.1.blocks, str o.1.digest, v, i64 o.2] ∧ Sl h v 4 (mks gStep 4 k o.1.steps.length) := by
  simp only [spMPo, RepR_i, RepR_str, RepR_s, RepR_nil]
  constructor
  · rintro ⟨_, rfl, _, rfl, v, _, rfl, h1, _, rfl, rfl⟩; exact ⟨v, rfl, h1⟩
  · rintro ⟨v, rfl, h1⟩; exact ⟨_, rfl, _, rfl, v, _, rfl, h1, _, rfl, rfl⟩
theorem po_none {h0 h : H} {c : Int} : RepF h0 h (spPo (pkg0, c)) [i64 0, str [], nils, i64 c] := po_f.2 ⟨nils, rfl, .inl ⟨none, 0, rfl, rfl⟩⟩
/-- spec.l08Ill -/
def b_spec_l08Ill : C := (.seq (.ops [⟨(some 2), none, .alloc [(i64 0), (str []), nils, (i64 0)]⟩])
 (.seq (.ops [q 3 (.mv (.t 0)), q 4 (.build [(i64 0), (str []), nils, (i64 0)] [(3, 1, (.t 3))]), ⟨none, none, .st 4 (.t 2) (.t 4)⟩])
 .ret))
theorem w_spec_l08Ill {args : List Value} {h : H} {Q : Value → H → Prop} (hl : args.length ≤ 5) (hk : wpc Tryz.prog b_spec_l08Ill (retw [.cell 2 true 4] Q) (argsFr args) h) : AC Tryz.prog 51 args h Q :=
  AC.of_wpc mixedOrders Tryz.func51 (by kernel_rfl) (by kernel_rfl : prepF Tryz.prog Tryz.f51 = some ⟨5, [.cell 2 true 4], b_spec_l08Ill⟩) hl hk

theorem l08Ill_pc (h : H) (c : Int) : PC Tryz.prog 51 [i64 c] h (.agg #[i64 0, str [], nils, i64 c]) := by
  refine PC_of ?_
  refine w_spec_l08Ill (by simp) ?_
  unfold b_spec_l08Ill
  simp -implicitDefEqProofs only [go_sem]
  intro b2 hb_b2 n_b2
  simp -implicitDefEqProofs only [go_sem, hb_b2]
  first | with_reducible exact ((Ext.refl _).set' n_b2 _) | ((with_reducible refine ⟨((Ext.refl _).set' n_b2 _), ?_⟩); first | rfl | (trivial))
end Go.Proofs.YthjbhdmjfakfaaaGreatDoor

set_option linter.unusedVariables false
set_option linter.unusedSimpArgs false
set_option maxRecDepth 100000
namespace Go.Proofs.YthjbhdmjfakfaaaGreatDoor
open Go.KH

/-! ## The laws' helpers for packages read -/
end Go.Proofs.YthjbhdmjfakfaaaGreatDoor
