/- A helper of this seat's claims (contracts of the functions): what it shows is shown for every input that its statements name, on no other condition. -/
import Derived.Test.YthheclnjaemjnaaC10t
import Derived.Test.YthheclnjaemjnaaC0
import Derived.Test.YthheclnjaemjnaaKD
set_option linter.unusedVariables false
set_option linter.unusedSimpArgs false
set_option maxRecDepth 100000
namespace Go.Proofs.Ythheclnjaemjnaa
open Go.KH

/-! ## Marks of moves; plans out -/
abbrev gMove (k : Int) : List Value := [i64 k, i64 (k + 1), i64 (k + 2), i64 (k + 3)]
abbrev spPlan (o : List UMove × Int) : List Sp := [.s 4 (o.1.map UMove.cells), .v (i64 o.2)]
abbrev spMPlan (o : List UMove × Int) (k : Int) : List Sp := [.s 4 (mks gMove 4 k o.1.length), .v (i64 o.2)]
theorem plan_r {h : H} {o : List UMove × Int} {cs : List Value} : RepR h (spPlan o) cs ↔ ∃ v, cs = [v, i64 o.2] ∧ Sl h v 4 (o.1.map UMove.cells) := by
  simp only [spPlan, RepR_i, RepR_s, RepR_nil]
  constructor
  · rintro ⟨v, _, rfl, h1, _, rfl, rfl⟩; exact ⟨v, rfl, h1⟩
  · rintro ⟨v, rfl, h1⟩; exact ⟨v, _, rfl, h1, _, rfl, rfl⟩
theorem plan_m {h : H} {o : List UMove × Int} {cs : List Value} {k : Int} : RepR h (spMPlan o k) cs ↔ ∃ v, cs = [v, i64 o.2] ∧ Sl h v 4 (mks gMove 4 k o.1.length) := by
  simp only [spMPlan, RepR_i, RepR_s, RepR_nil]
  constructor
  · rintro ⟨v, _, rfl, h1, _, rfl, rfl⟩; exact ⟨v, rfl, h1⟩
  · rintro ⟨v, rfl, h1⟩; exact ⟨v, _, rfl, h1, _, rfl, rfl⟩
theorem plan_f {h0 h : H} {o : List UMove × Int} {cs : List Value} : RepF h0 h (spPlan o) cs ↔ ∃ v, cs = [v, i64 o.2] ∧ Fre h0 h v 4 (o.1.map UMove.cells) := by
  simp only [spPlan, RepF_i, RepF_s, RepF_nil]
  constructor
  · rintro ⟨v, _, rfl, h1, d, _, rfl, rfl⟩; exact ⟨v, rfl, h1⟩
  · rintro ⟨v, rfl, h1⟩; exact ⟨v, _, rfl, h1, fun d hd => by simp only [List.mem_cons, List.not_mem_nil, or_false] at hd; subst hd; exact Dj.nb rfl, _, rfl, rfl⟩
end Go.Proofs.Ythheclnjaemjnaa
