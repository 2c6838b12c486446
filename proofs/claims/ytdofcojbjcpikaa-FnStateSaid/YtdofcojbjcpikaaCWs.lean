/- A helper of this seat's claims (contracts of the functions): what it shows is shown for every input that its statements name, on no other condition. -/
import Derived.Test.YtdofcojbjcpikaaCW
set_option linter.unusedVariables false
set_option linter.unusedSimpArgs false
set_option maxRecDepth 100000
namespace Go.Proofs.Ytdofcojbjcpikaa
open Go.KH

/-! ## Flash memories written by the reference -/
/-- append onto an empty slice of one's own: where the copy lies. -/
theorem app0B {hh cur : H} {K : Value → H → Prop} {w by_ b : Nat} {rows : List (List Value)} (E : Ext hh cur) (hg : cur.get b = some ⟨[], 0⟩) (hn : hh.get b = none) (hb : cur.base ≤ b) (hw : Wid w rows) (h1 : rows.flatten.all Value.oneCell' = true) (hbd : rows.length * by_ ≤ 70368744177664)
    (hK : ∀ v' b' x, hh.get b' = none → (b' = b ∨ cur.get b' = none) → (∀ b2, ob v' = some b2 → b2 = b') → Own hh (cur.set b' x) v' w rows → Ext hh (cur.set b' x) → K v' (cur.set b' x)) : appW cur w by_ (some ⟨b, 0, none⟩, 0, 0) (rows.length, rows.flatten) K := by
  have o0 : Own hh cur (sl b 0 0 0) w [] := .inr ⟨b, 0, 0, rfl, Nat.le_refl _, hb, hn, hg, by simp, Wid.nil w⟩
  refine appW_ownB (h0 := hh) (rows := []) (new := rows) (fun c hc => E.none hc) o0 rfl hw h1 (by simpa using hbd) ?_ ?_
  · intro v' b' x nb hb' hob o
    exact hK v' b' x nb (by rcases hb' with h | h; simp only [ob, Option.some.injEq] at h; exact .inl h.symm; exact .inr h) hob (by simpa using o) (E.set' nb _)
  · intro hnew
    subst hnew
    have := hK (sl b 0 0 0) b ⟨[], 0⟩ hn (.inl rfl) (fun b2 h2 => by simpa [ob] using h2.symm)
    rw [H.set_id hg] at this
    exact this o0 E
end Go.Proofs.Ytdofcojbjcpikaa
