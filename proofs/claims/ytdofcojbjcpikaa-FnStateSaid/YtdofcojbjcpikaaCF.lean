/- A helper of this seat's claims (contracts of the functions): what it shows is shown for every input that its statements name, on no other condition. -/
import Derived.Test.YtdofcojbjcpikaaKC
import Derived.Test.YtdofcojbjcpikaaC06
set_option linter.unusedVariables false
set_option linter.unusedSimpArgs false
set_option maxRecDepth 100000
namespace Go.Proofs.Ytdofcojbjcpikaa
open Go.KH

/-! ## What the laws of two codes share -/
theorem cellsEq_sii (b c b' c' : Int) (d d' : List UInt8) : cellsEq [.s, .i, .i] [str d, i64 b, i64 c] [str d', i64 b', i64 c'] = some (decide (d = d' ∧ b = b' ∧ c = c')) := by
  simp only [cellsEq, le_i, le_s, Option.bind_some]
  by_cases h2 : b = b' <;> by_cases h3 : c = c' <;> by_cases h4 : d = d' <;> simp [h2, h3, h4]
theorem bytes_of_rows2 (rows : List (List Value)) (h : ∀ r ∈ rows, fitsF [.int .u8] r) : ∃ l : List UInt8, rows = bys l := by
  obtain ⟨l, e, -⟩ := rows_of (fun b : UInt8 => [.int .u8 (b.toNat : Int)]) (fun _ => True) rows fun r hr => by
    obtain ⟨_, _, rfl, h1, h⟩ := fitsF_cons (h r hr)
    obtain rfl := fitsF_nil h
    obtain ⟨n, rfl, k1, k2⟩ := h1
    have m1 : IntKind.u8.min = 0 := rfl
    have m2 : IntKind.u8.max = 255 := rfl
    refine ⟨UInt8.ofNat n.toNat, ?_, trivial⟩
    have : ((UInt8.ofNat n.toNat).toNat : Int) = n := by simp; omega
    rw [this]
  exact ⟨l, e⟩
theorem okAs_codes {h : H} {args : List Value} (ha : okAs h [.one (.sl [.int .u8]), .one (.sl [.int .u8])] args) : ∃ (v w : Value) (l1 l2 : List UInt8), args = [v, w] ∧ Sl h v 1 (bys l1) ∧ Sl h w 1 (bys l2) := by
  obtain ⟨v, _, rfl, ⟨rows, hs, hf, hn⟩, a0⟩ := okAs_cons ha
  obtain ⟨w, _, rfl, ⟨rows2, hs2, hf2, hn2⟩, a1⟩ := okAs_cons a0
  obtain rfl := okAs_nil a1
  obtain ⟨l1, rfl⟩ := bytes_of_rows2 rows hf
  obtain ⟨l2, rfl⟩ := bytes_of_rows2 rows2 hf2
  exact ⟨v, w, l1, l2, rfl, hs, hs2⟩
end Go.Proofs.Ytdofcojbjcpikaa
