/- A helper of this seat's claims (contracts of the functions): what it shows is shown for every input that its statements name, on no other condition. -/
import Derived.Test.YtdofcojbjcpikaaC12o
import Derived.Test.YtdofcojbjcpikaaC04k
import Derived.Test.YtdofcojbjcpikaaP9
set_option linter.unusedVariables false
set_option linter.unusedSimpArgs false
set_option maxRecDepth 100000
namespace Go.Proofs.Ytdofcojbjcpikaa
open Go.KH

/-! ## States: what is written is read, plain -/
theorem sorted_ext : ∀ (a b : List Int), a.Pairwise (· < ·) → b.Pairwise (· < ·) → (∀ x, x ∈ a ↔ x ∈ b) → a = b
  | [], [], _, _, _ => rfl
  | [], y :: b, _, _, h => absurd ((h y).2 (List.mem_cons_self ..)) (by simp)
  | x :: a, [], _, _, h => absurd ((h x).1 (List.mem_cons_self ..)) (by simp)
  | x :: a, y :: b, ha, hb, h => by
    rw [List.pairwise_cons] at ha hb
    have e : x = y := by
      rcases List.mem_cons.1 ((h x).1 (List.mem_cons_self ..)) with e | e
      · exact e
      · rcases List.mem_cons.1 ((h y).2 (List.mem_cons_self ..)) with e' | e'
        · exact e'.symm
        · have := ha.1 y e'; have := hb.1 x e; omega
    subst e
    rw [sorted_ext a b ha.2 hb.2 fun z => ⟨fun hz => ?_, fun hz => ?_⟩]
    · rcases List.mem_cons.1 ((h z).1 (List.mem_cons_of_mem _ hz)) with e | e
      · subst e; have := ha.1 z hz; omega
      · exact e
    · rcases List.mem_cons.1 ((h z).2 (List.mem_cons_of_mem _ hz)) with e | e
      · subst e; have := hb.1 z hz; omega
      · exact e
theorem listOk_lt {l : List Int} (h : listOk l) : ∀ (j i : Nat) (hj : j < l.length), (hi : i < j) → l[i]'(by omega) < l[j]
  | 0, i, hj, hi => by omega
  | j + 1, i, hj, hi => by
    have h1 := (h (j + 1) hj).2 (by omega)
    simp only [Nat.add_sub_cancel] at h1
    by_cases e : i = j
    · subst e; exact h1
    · have := listOk_lt h j i (by omega) (by omega)
      omega
theorem listOk_sorted {l : List Int} (h : listOk l) : l.Pairwise (· < ·) := List.pairwise_iff_getElem.2 fun i j hi hj hij => listOk_lt h j i hj hij
theorem from_bits {l : List Int} (h : listOk l) : fromBits (bitsN l) = l := by
  refine sorted_ext _ _ (bitsTo_sorted _ _) (listOk_sorted h) fun x => ?_
  unfold fromBits
  rw [bitsTo_mem]
  constructor
  · rintro ⟨i, rfl, hi, ht⟩
    rw [bitsN_test (fun x hx => (listOk_mem h x hx).1)] at ht
    exact of_decide_eq_true ht
  · intro hx
    have := listOk_mem h x hx
    refine ⟨x.toNat, by omega, by omega, ?_⟩
    rw [bitsN_test (fun x hx => (listOk_mem h x hx).1)]
    exact decide_eq_true (by rw [Int.toNat_of_nonneg this.1]; exact hx)
theorem fromI_back {l : List Int} (h : listOk l) : fromI (bitsN l : Int) = l := by
  have := bits24 h
  unfold fromI
  rw [if_pos (by omega)]
  exact from_bits h
theorem stI_put {s : UState} (h : stateOk s) : stI (stateB s) = some s := by
  obtain ⟨i1, i2, i3, i4, i5, i6, i7⟩ := stateOk_in h
  have hd := stateOk_digest h
  have b6 := bits24 h.2.1
  have b7 := bits24 h.2.2.1
  obtain ⟨t, ht⟩ : ∃ t, stateB s = t := ⟨_, rfl⟩
  have e0 : t.drop 0 = putNum s.phase ++ (putNum s.tries ++ (putNum s.need ++ (putNum s.stash ++ (putNum s.done ++ (putNum (bitsN s.held) ++ (putNum (bitsN s.mine) ++ (putText s.digest ++ []))))))) := by
    rw [← ht]; simp [stateB]
  rw [ht]
  have g1 := getN_put e0 i1
  have e1 := drop_put e0
  have g2 := getN_put e1 i2
  have e2 := drop_put e1
  have g3 := getN_put e2 i3
  have e3 := drop_put e2
  have g4 := getN_put e3 i4
  have e4 := drop_put e3
  have g5 := getN_put e4 i5
  have e5 := drop_put e4
  have g6 := getN_put e5 i6
  have e6 := drop_put e5
  have g7 := getN_put e6 i7
  have e7 := drop_put e6
  have hl : t.length = 0 + (putNum s.phase).length + (putNum s.tries).length + (putNum s.need).length + (putNum s.stash).length + (putNum s.done).length + (putNum (bitsN s.held)).length + (putNum (bitsN s.mine)).length + (putText s.digest).length := by
    rw [← ht]; simp only [stateB, List.length_append]; omega
  have g8 := getT_put e7 (by omega) (by omega)
  have r : RdS t s.phase s.tries s.need s.stash s.done (bitsN s.held) (bitsN s.mine) s.digest _ := ⟨_, _, _, _, _, _, _, g1, g2, g3, g4, g5, g6, g7, g8⟩
  rw [r.st, fromI_back h.2.1, fromI_back h.2.2.1, if_pos ⟨by omega, ⟨by omega, by omega⟩, ⟨by omega, by omega⟩, h⟩]
theorem stI_back {t : List UInt8} {s : UState} (h : stI t = some s) : stateOk s ∧ stateB s = t := by
  by_cases hr : ∃ v1 v2 v3 v4 v5 v6 v7 v8 e, RdS t v1 v2 v3 v4 v5 v6 v7 v8 e
  · obtain ⟨v1, v2, v3, v4, v5, v6, v7, v8, e, r⟩ := hr
    rw [r.st] at h
    split at h
    · rename_i hc
      simp only [Option.some.injEq] at h
      have h2 := r.iff.2 hc
      rw [h] at h2
      rw [h] at hc
      unfold stateBytes at h2
      rw [if_pos hc.2.2.2] at h2
      exact ⟨hc.2.2.2, h2⟩
    · cases h
  · rw [stI_rd hr] at h; cases h
theorem stateB_pos (s : UState) : 0 < (stateB s).length := by
  have : 0 < (putNum s.phase).length := by
    unfold putNum
    rw [leb]
    split <;> simp
  unfold stateB
  simp only [List.length_append]; omega
end Go.Proofs.Ytdofcojbjcpikaa
