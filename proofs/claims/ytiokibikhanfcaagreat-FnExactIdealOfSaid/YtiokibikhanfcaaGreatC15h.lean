/- A helper of this seat's claims (contracts of the functions): what it shows is shown for every input that its statements name, on no other condition. -/
import Derived.Test.YtiokibikhanfcaaGreatC15
set_option linter.unusedVariables false
set_option linter.unusedSimpArgs false
set_option maxRecDepth 100000
namespace Go.Proofs.YtiokibikhanfcaaGreat
open Go.KH

/-! ## The laws' helpers for ideals -/
def UIdeal.ok (i : UIdeal) : Prop := (in64 i.phase ∧ in64 i.tries ∧ in64 i.need ∧ in64 i.stash ∧ in64 i.held ∧ in64 i.left) ∧ i.digest.length ≤ maxLen ∧ i.base.length ≤ maxLen ∧ (∀ s ∈ i.base, s.length ≤ maxLen) ∧ i.steps.length ≤ maxLen ∧ ∀ s ∈ i.steps, s.ok
theorem UIdeal.ok.fin {i : UIdeal} (k : i.ok) : i.fin := ⟨k.2.2.1, k.2.2.2.2.1⟩
theorem ideal_f {h0 h : H} {i : UIdeal} {cs : List Value} : RepF h0 h (spIdeal i) cs ↔ ∃ vb vs, cs = i.cells vb vs ∧ Fre h0 h vb 1 (strs i.base) ∧ Fre h0 h vs 4 (i.steps.map UStep.cells) ∧ Dj vb vs := by
  simp only [spIdeal, RepF_i, RepF_str, RepF_s, RepF_nil]
  constructor
  · rintro ⟨_, rfl, _, rfl, _, rfl, _, rfl, _, rfl, _, rfl, _, rfl, vb, _, rfl, h1, d1, vs, _, rfl, h2, d2, rfl⟩
    exact ⟨vb, vs, rfl, h1, h2, d1 vs (by simp)⟩
  · rintro ⟨vb, vs, rfl, h1, h2, d1⟩
    refine ⟨_, rfl, _, rfl, _, rfl, _, rfl, _, rfl, _, rfl, _, rfl, vb, _, rfl, h1, ?_, vs, _, rfl, h2, ?_, rfl⟩
    · intro d hd
      simp only [List.mem_cons, List.not_mem_nil, or_false] at hd
      subst hd; exact d1
    · intro d hd
      simp at hd
end Go.Proofs.YtiokibikhanfcaaGreat
