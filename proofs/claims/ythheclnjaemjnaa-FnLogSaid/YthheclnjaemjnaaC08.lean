/- A helper of this seat's claims (contracts of the functions): what it shows is shown for every input that its statements name, on no other condition. -/
import Derived.Test.YthheclnjaemjnaaC06c
import Derived.Test.YthheclnjaemjnaaC09b
set_option linter.unusedVariables false
set_option linter.unusedSimpArgs false
set_option maxRecDepth 100000
namespace Go.Proofs.Ythheclnjaemjnaa
open Go.KH

/-! ## Packages -/
structure UPkg where
  blocks : Int
  digest : List UInt8
  steps : List UStep
deriving DecidableEq
abbrev UPkg.cells (p : UPkg) (v : Value) : List Value := [i64 p.blocks, str p.digest, v]
abbrev spPkg (p : UPkg) : List Sp := [.v (i64 p.blocks), .v (str p.digest), .s 4 (p.steps.map UStep.cells)]
theorem pkg_r {h : H} {p : UPkg} {cs : List Value} : RepR h (spPkg p) cs ↔ ∃ v, cs = p.cells v ∧ Sl h v 4 (p.steps.map UStep.cells) := by
  simp only [spPkg, RepR_i, RepR_str, RepR_s, RepR_nil]
  constructor
  · rintro ⟨_, rfl, _, rfl, v, _, rfl, h1, rfl⟩; exact ⟨v, rfl, h1⟩
  · rintro ⟨v, rfl, h1⟩; exact ⟨_, rfl, _, rfl, v, _, rfl, h1, rfl⟩
theorem pkg_f {h0 h : H} {p : UPkg} {cs : List Value} : RepF h0 h (spPkg p) cs ↔ ∃ v, cs = p.cells v ∧ Fre h0 h v 4 (p.steps.map UStep.cells) := by
  simp only [spPkg, RepF_i, RepF_str, RepF_s, RepF_nil]
  constructor
  · rintro ⟨_, rfl, _, rfl, v, _, rfl, h1, _, rfl⟩; exact ⟨v, rfl, h1⟩
  · rintro ⟨v, rfl, h1⟩; exact ⟨_, rfl, _, rfl, v, _, rfl, h1, by simp, rfl⟩
def pkgOk (p : UPkg) : Prop := codeOf p.steps p.blocks = 0 ∧ p.digest.length = 32
noncomputable instance (p : UPkg) : Decidable (pkgOk p) := inferInstanceAs (Decidable (_ ∧ _))
def pkgI (p : UPkg) (k : Nat) : List UInt8 := putNum p.blocks ++ putText p.digest ++ putNum p.steps.length ++ (p.steps.take k).flatMap fun s => putText (stepB s)
def pkgB (p : UPkg) : List UInt8 := sealB (pkgI p p.steps.length)
noncomputable def pkgBytes (p : UPkg) : List UInt8 := if pkgOk p then pkgB p else []
def UPkg.fin (p : UPkg) : Prop := p.steps.length ≤ maxLen
def UPkg.ok (p : UPkg) : Prop := in64 p.blocks ∧ p.digest.length ≤ maxLen ∧ p.steps.length ≤ maxLen ∧ ∀ s ∈ p.steps, s.ok
theorem pkgOk_steps {p : UPkg} (h : pkgOk p) : stepsOk p.steps p.blocks := by
  have h1 := h.1
  unfold codeOf at h1
  split at h1
  · assumption
  · omega
theorem stepB_60 {s : UStep} {b : Int} (hs : s.ok) (h : stepOk s b) : (stepB s).length ≤ 60 := by
  have hd := stepOk_data h
  have l1 := putNum_le hs.1
  have l2 := putNum_le hs.2.1
  have l3 := putNum_le hs.2.2.1
  have l4 := putText_le (t := s.data) (by omega)
  unfold stepB
  simp only [List.length_append]; omega
theorem pkgI_le {p : UPkg} (h : pkgOk p) (hok : p.ok) : ∀ k, k ≤ p.steps.length → (pkgI p k).length ≤ 62 + 70 * k
  | 0, _ => by
    have l1 := putNum_le hok.1
    have l2 := putText_le (t := p.digest) (by have := h.2; omega)
    have l3 := putNum_le (n := (p.steps.length : Int)) ⟨by omega, by have := (pkgOk_steps h).1; omega⟩
    have := h.2
    unfold pkgI
    simp only [List.take_zero, List.flatMap_nil, List.length_append, List.length_nil]; omega
  | k + 1, hk => by
    have ih := pkgI_le h hok k (by omega)
    have hs := List.getElem_mem (l := p.steps) (n := k) (by omega)
    have l1 := stepB_60 (hok.2.2.2 _ hs) ((pkgOk_steps h).2.2 _ hs)
    have l2 := putText_le (t := stepB p.steps[k]) (by omega)
    unfold pkgI at ih ⊢
    rw [List.take_succ_eq_append_getElem (by omega), List.flatMap_append]
    simp only [List.length_append, List.flatMap_cons, List.flatMap_nil, List.append_nil] at ih ⊢
    omega
theorem pkgI_succ {p : UPkg} {k : Nat} (hk : k < p.steps.length) : pkgI p (k + 1) = pkgI p k ++ putText (stepB p.steps[k]) := by
  unfold pkgI
  rw [List.take_succ_eq_append_getElem hk, List.flatMap_append]
  simp
theorem putNum_pos (n : Int) : 0 < (putNum n).length := by
  unfold putNum
  by_cases h : zig n < 128
  · rw [leb_lt h]; simp
  · rw [leb_ge h]; simp
/-- impl.size[impl.Step] -/
def b_impl_size_impl_Step : C := (.seq (.ops [q 2 (.mv (.c (i64 0)))])
 (.seq (.ops [q 3 (.mv (.t 0)), q 4 (.len (.t 3)), q 2 (.mv (.t 4))])
 .ret))
theorem w_impl_size_impl_Step {args : List Value} {h : H} {Q : Value → H → Prop} (hl : args.length ≤ 5) (hk : wpc Try.prog b_impl_size_impl_Step (retw [.tmp 2] Q) (argsFr args) h) : AC Try.prog 168 args h Q :=
  AC.of_wpc mixedOrders Try.func168 (by kernel_rfl) (by kernel_rfl : prepF Try.prog Try.f168 = some ⟨5, [.tmp 2], b_impl_size_impl_Step⟩) hl hk

theorem sizeStep_pc {h : H} {v : Value} {l : List UStep} (hv : Sl h v 4 (l.map UStep.cells)) : PC Try.prog 168 [v] h (i64 l.length) := by
  obtain ⟨a, c, b, o, rfl, hcap, h2, h3⟩ := hv
  rw [List.length_map]
  refine w_impl_size_impl_Step (by simp) ?_
  unfold b_impl_size_impl_Step
  simp -implicitDefEqProofs only [go_sem]
theorem package_of {h : H} {cs : List Value} (q : fitsT h [.f (.int .i64), .f .str, .sl [.int .i64, .int .i64, .int .i64, .str]] cs) : ∃ p : UPkg, RepR h (spPkg p) cs ∧ p.ok := by
  obtain ⟨_, _, rfl, h1, q⟩ := fitsT_cons q
  obtain ⟨_, _, rfl, h2, q⟩ := fitsT_cons q
  obtain ⟨v, _, rfl, ⟨rows, s7, h7, l7⟩, q⟩ := fitsT_cons q
  obtain rfl := fitsT_nil q
  obtain ⟨a1, rfl, k1⟩ := okF_i h1
  obtain ⟨a2, rfl, k2⟩ := h2
  obtain ⟨l, rfl, kl⟩ := steps_of rows h7
  exact ⟨⟨a1, a2, l⟩, pkg_r.2 ⟨v, rfl, s7⟩, k1, k2, by simpa using l7, kl⟩
end Go.Proofs.Ythheclnjaemjnaa
