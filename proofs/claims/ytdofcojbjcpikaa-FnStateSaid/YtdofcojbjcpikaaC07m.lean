/- A helper of this seat's claims (contracts of the functions): what it shows is shown for every input that its statements name, on no other condition. -/
import Derived.Test.YtdofcojbjcpikaaC07
import Derived.Test.YtdofcojbjcpikaaC06c
import Derived.Test.YtdofcojbjcpikaaKD
set_option linter.unusedVariables false
set_option linter.unusedSimpArgs false
set_option maxRecDepth 100000
namespace Go.Proofs.Ytdofcojbjcpikaa
open Go.KH

/-! ## What a step makes -/
theorem bys_flat : ∀ l : List UInt8, (bys l).flatten = u8s l
  | [] => rfl
  | b :: l => by
    have := bys_flat l
    simp only [bys, u8s] at this
    simp only [bys, u8s, List.map_cons, List.flatten_cons, this]
    rfl
theorem bytesOf_u8s (l : List UInt8) : bytesOf (u8s l) = some l := by rw [← bys_flat, bytesOf_bys]
theorem own_u8s {h0 h : H} {b c : Nat} {l : List UInt8} (hb : h.base ≤ b) (hn : h0.get b = none) (hg : h.get b = some ⟨u8s l, c⟩) (hc : l.length ≤ c) : Own h0 h (sl b 0 l.length c) 1 (bys l) :=
  .inr ⟨b, c, c, by rw [List.length_map], by rw [List.length_map]; exact hc, hb, hn, by rw [hg, bys_flat], by omega, Wid.map fun _ => rfl⟩
/-- A step whose block can be made. -/
def makeOk (s : UStep) (src : List UInt8) : Prop := (1 ≤ s.kind ∧ s.kind ≤ 4) ∧ (s.kind = 4 → s.data.length = 8 ∧ src.length = 8)
end Go.Proofs.Ytdofcojbjcpikaa
