/- A helper of this seat's claims (contracts of the functions): what it shows is shown for every input that its statements name, on no other condition. -/
import Derived.Test.YtdofcojbjcpikaaC13t
import Derived.Test.YtdofcojbjcpikaaCWt
set_option linter.unusedVariables false
set_option linter.unusedSimpArgs false
set_option maxRecDepth 100000
namespace Go.Proofs.Ytdofcojbjcpikaa
open Go.KH

/-! ## Acts that keep a text -/
theorem putNum_k {n : Int} (k : Nat) (h0 : 0 ≤ n) (h : n < 64 * 128 ^ k) : (putNum n).length ≤ k + 1 := by
  unfold putNum
  refine leb_le k _ ?_
  unfold zig
  rw [if_neg (by omega), Nat.pow_succ]
  have : ((64 * 128 ^ k : Nat) : Int) = 64 * 128 ^ k := by push_cast; rfl
  omega
theorem stateB_46 {s : UState} (h : stateOk s) : (stateB s).length ≤ 46 := by
  have h1 := bits24 h.2.1
  have h2 := bits24 h.2.2.1
  have hd := stateOk_digest h
  have hh : (0 ≤ s.tries ∧ s.tries ≤ 2) ∧ (0 ≤ s.need ∧ s.need ≤ 20) ∧ (0 ≤ s.stash ∧ s.stash ≤ 4) ∧ 0 ≤ s.done ∧ s.done ≤ 40 := by
    have := h.2.2.2.2
    split at this <;> omega
  have l1 := putNum_k (n := s.phase) 0 (by have := h.1; omega) (by have := h.1; omega)
  have l2 := putNum_k (n := s.tries) 0 (by omega) (by omega)
  have l3 := putNum_k (n := s.need) 0 (by omega) (by omega)
  have l4 := putNum_k (n := s.stash) 0 (by omega) (by omega)
  have l5 := putNum_k (n := s.done) 0 (by omega) (by omega)
  have l6 := putNum_k (n := (bitsN s.held : Int)) 3 (by omega) (by omega)
  have l7 := putNum_k (n := (bitsN s.mine : Int)) 3 (by omega) (by omega)
  have l8 := putNum_k (n := (s.digest.length : Int)) 0 (by omega) (by omega)
  unfold stateB putText
  simp only [List.length_append]; omega
theorem metaB_96 {n : Int} {t : List UInt8} (hn : 0 ≤ n ∧ n ≤ 1000001) (ht : t.length ≤ 80) : (metaB n t).length ≤ 96 := by
  have l1 := putNum_k (n := n) 2 (by omega) (by omega)
  have l2 := putNum_k (n := (t.length : Int)) 1 (by omega) (by omega)
  unfold metaB putText
  rw [sealB_len]
  simp only [List.length_append]; omega
/-- The acts that keep a text. -/
def metaActsOf (f : UFlash) (t : List UInt8) : List UAct :=
  if 1000000 ≤ (metaGet f).1.1.1 then [] else [⟨false, if (metaGet f).2 = 0 then 1 else 0, metaB ((metaGet f).1.1.1 + 1) t⟩, ⟨true, 0, []⟩]
theorem metaActs_ok {f : UFlash} {t : List UInt8} {n : Nat} (h2 : 2 ≤ n) (ht : t.length ≤ 80) : ∀ a ∈ metaActsOf f t, actOk n a := by
  have hl := metaGet_len f
  intro a ha
  unfold metaActsOf at ha
  split at ha
  · cases ha
  · simp only [List.mem_cons, List.not_mem_nil, or_false] at ha
    rcases ha with rfl | rfl
    · intro _
      refine ⟨?_, metaB_96 (by omega) ht⟩
      simp only
      split <;> omega
    · intro h; cases h
theorem act_wid (l : List UAct) : Wid 3 (l.map UAct.cells) := Wid.map fun _ => rfl
theorem metaActs_len (f : UFlash) (t : List UInt8) : (metaActsOf f t).length ≤ 2 := by unfold metaActsOf; split <;> simp
theorem own_acts {h0 h : H} {b : Nat} (l : List UAct) (hn : h0.get b = none) (hb : h.base ≤ b) : Own h0 (h.set b ⟨(l.map UAct.cells).flatten, l.length * 3⟩) (sl b 0 l.length l.length) 3 (l.map UAct.cells) :=
  .inr ⟨b, l.length, _, by rw [List.length_map], by rw [List.length_map]; exact Nat.le_refl _, hb, hn, H.set_get_same _ _ _, Nat.le_refl _, act_wid l⟩
end Go.Proofs.Ytdofcojbjcpikaa
