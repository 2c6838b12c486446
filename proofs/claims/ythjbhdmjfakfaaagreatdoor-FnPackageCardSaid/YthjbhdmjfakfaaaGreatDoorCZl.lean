/- A helper of this seat's claims (contracts of the functions): what it shows is shown for every input that its statements name, on no other condition. -/
import Derived.Test.YthjbhdmjfakfaaaGreatDoorCZj
set_option linter.unusedVariables false
set_option linter.unusedSimpArgs false
set_option maxRecDepth 100000
namespace Go.Proofs.YthjbhdmjfakfaaaGreatDoor
open Go.KH

/-! ## The steps from an image to another one make it, plain -/
theorem xor_xor : ∀ {a b : List UInt8}, a.length = b.length → xorB a (xorB a b) = b
  | [], [], _ => rfl
  | x :: a, y :: b, h => by
    have ih := xor_xor (a := a) (b := b) (by simpa using h)
    show (x ^^^ (x ^^^ y)) :: xorB a (xorB a b) = _
    rw [ih]
    congr 1
    apply UInt8.toBitVec_inj.1
    simp [← BitVec.xor_assoc]
theorem stepFor_make {old : List (List UInt8)} (ho : imageOk old) {d : Nat} {y : List UInt8} (hy : y.length = 8) : makeB (stepFor old d y) (at8 old (stepFor old d y).src) = y := by
  unfold stepFor
  split
  · rename_i h; simp [makeB, h]
  · split
    · rename_i h
      obtain ⟨k, hk, e, hp, _⟩ := firstAt_get h
      simp only [makeB, e]
      have : y = old[k] := by simpa [isP] using hp
      simp [at8, hk, this]
    · split
      · rename_i h
        obtain ⟨k, hk, e, eat⟩ := near_get ho h
        simp only [makeB, e, eat]
        simp
        exact xor_xor (by rw [ho.2 _ (List.getElem_mem hk), hy])
      · simp [makeB]
theorem stepFor_kind (old : List (List UInt8)) (d : Nat) (y : List UInt8) : (stepFor old d y).kind ≠ 5 ∧ (stepFor old d y).dst = d := by
  unfold stepFor
  repeat' split
  all_goals exact ⟨by simp, rfl⟩
theorem stepFor_stepOk {old : List (List UInt8)} (ho : imageOk old) {d : Nat} (hd : d < old.length) {y : List UInt8} (hy : y.length = 8) : stepOk (stepFor old d y) old.length := by
  have h1 := ho.1
  have a1 := firstAt_le (isP y) old
  have a2 := firstAt_le (nearP y) old
  unfold stepFor
  split
  · refine ⟨by simp, by simp; omega, by simp, by simp⟩
  · split
    · refine ⟨by simp, by simp; omega, by simp; omega, by simp⟩
    · split
      · rename_i q
        obtain ⟨k, hk, e, eat⟩ := near_get ho q
        have hx := ho.2 _ (List.getElem_mem hk)
        refine ⟨by simp, by simp; omega, by simp; omega, ?_⟩
        simp only [e, eat]
        simp
        rw [xorB_len (by omega), hx]
      · refine ⟨by simp, by simp; omega, by simp, by simp [hy]⟩
theorem mem_stepsTo {old fresh : List (List UInt8)} {k : Nat} {s : UStep} (h : s ∈ stepsTo old fresh k) : ∃ i, i < k ∧ ¬ old[i]? = fresh[i]? ∧ s = stepFor old i (fresh.getD i []) := by
  unfold stepsTo at h
  obtain ⟨i, hi, e⟩ := List.mem_filterMap.1 h
  split at e
  · cases e
  · rename_i hn
    cases e
    exact ⟨i, List.mem_range.1 hi, hn, rfl⟩
theorem of_stepsTo {old fresh : List (List UInt8)} {k i : Nat} (hi : i < k) (hn : ¬ old[i]? = fresh[i]?) : stepFor old i (fresh.getD i []) ∈ stepsTo old fresh k := by
  unfold stepsTo
  exact List.mem_filterMap.2 ⟨i, List.mem_range.2 hi, by rw [if_neg hn]⟩
theorem getD_8 {fresh : List (List UInt8)} (hf : imageOk fresh) {i : Nat} (h : i < fresh.length) : fresh[i]? = some (fresh.getD i []) ∧ (fresh.getD i []).length = 8 := by
  have e : fresh.getD i [] = fresh[i] := by simp [List.getD, List.getElem?_eq_getElem h]
  rw [e]
  exact ⟨List.getElem?_eq_getElem h, hf.2 _ (List.getElem_mem h)⟩
theorem pkg_rising : ∀ (l : List UStep), (∀ s ∈ l, s.kind ≠ 5) → risingFrom (-1) (l ++ [labS]) = true
  | [], _ => rfl
  | s :: l, h => by
    rw [List.cons_append, risingFrom, if_neg (h s (List.mem_cons_self ..))]
    exact pkg_rising l fun x hx => h x (List.mem_cons_of_mem _ hx)
theorem stepsTo_apart (old fresh : List (List UInt8)) : ∀ k, (stepsTo old fresh k).Pairwise fun x y => x.dst ≠ y.dst
  | 0 => by simp [stepsTo]
  | k + 1 => by
    have ih := stepsTo_apart old fresh k
    by_cases h : old[k]? = fresh[k]?
    · rw [stepsTo_same h]; exact ih
    · rw [stepsTo_new h, List.pairwise_append]
      refine ⟨ih, by simp, fun x hx y hy => ?_⟩
      obtain ⟨i, hi, _, rfl⟩ := mem_stepsTo hx
      simp only [List.mem_singleton] at hy
      subst hy
      rw [(stepFor_kind ..).2, (stepFor_kind ..).2]
      omega
theorem pkgSteps_code {old fresh : List (List UInt8)} (ho : imageOk old) (hf : imageOk fresh) (hl : old.length = fresh.length) : codeOf (pkgSteps old fresh) old.length = 0 := by
  have h1 := ho.1
  have hlen := pkgSteps_len (old := old) (fresh := fresh) ho
  have hk : ∀ s ∈ stepsTo old fresh old.length, s.kind ≠ 5 := fun s hs => by
    obtain ⟨i, hi, _, rfl⟩ := mem_stepsTo hs
    exact (stepFor_kind ..).1
  have hst : stepsOk (pkgSteps old fresh) old.length := by
    refine ⟨by omega, by omega, fun s hs => ?_⟩
    rcases List.mem_append.1 hs with h | h
    · obtain ⟨i, hi, _, rfl⟩ := mem_stepsTo h
      exact stepFor_stepOk ho hi (getD_8 hf (by omega)).2
    · simp only [List.mem_singleton] at h
      subst h
      exact ⟨by simp [labS], by simp [labS], by simp [labS], by simp [labS]⟩
  have ht : ¬ twice (pkgSteps old fresh) := by
    rintro ⟨i, k, hi, hk2, k1, k2, e⟩
    have hp := stepsTo_apart old fresh old.length
    have hin : ∀ j (hj : j < (pkgSteps old fresh).length), ((pkgSteps old fresh)[j]).kind ≠ 5 → ∃ hj2 : j < (stepsTo old fresh old.length).length, (pkgSteps old fresh)[j] = (stepsTo old fresh old.length)[j] := by
      intro j hj h5
      by_cases h : j < (stepsTo old fresh old.length).length
      · exact ⟨h, by simp only [pkgSteps]; rw [List.getElem_append_left h]⟩
      · exfalso
        apply h5
        simp only [pkgSteps]
        rw [List.getElem_append_right (by omega)]
        simp [labS]
    obtain ⟨a1, a2⟩ := hin i hi k1
    obtain ⟨b1, b2⟩ := hin k (by omega) k2
    rw [a2, b2] at e
    exact (List.pairwise_iff_getElem.1 hp k i b1 a1 hk2) e.symm
  unfold codeOf
  rw [if_pos hst, if_neg ht, if_pos (show risingFrom (-1) (pkgSteps old fresh) = true from pkg_rising _ hk)]
theorem pkgSteps_apply {old fresh : List (List UInt8)} (ho : imageOk old) (hf : imageOk fresh) (hl : old.length = fresh.length) : applyB old (pkgSteps old fresh) = fresh := by
  obtain ⟨hst, ht, _⟩ := code_zero (pkgSteps_code ho hf hl)
  apply List.ext_getElem?
  intro b
  by_cases hb : b < old.length
  · have h0 : ∀ s ∈ pkgSteps old fresh, 0 ≤ s.dst := fun s hs => by
      have := (hst.2.2 s hs).2.1
      split at this <;> omega
    obtain ⟨i1, i2⟩ := applyB_touch (im := old) ht h0 hb
    by_cases e : old[b]? = fresh[b]?
    · rw [i2 fun s hs h5 => ?_, e]
      rcases List.mem_append.1 hs with h | h
      · obtain ⟨i, hi, hn, rfl⟩ := mem_stepsTo h
        rw [(stepFor_kind ..).2]
        intro q
        exact hn (by rw [show i = b by omega]; exact e)
      · simp only [List.mem_singleton] at h
        subst h
        exact absurd rfl h5
    · have hm := of_stepsTo (old := old) (fresh := fresh) hb e
      have g := getD_8 hf (i := b) (by omega)
      rw [i1 _ (List.mem_append_left _ hm) (stepFor_kind ..).1 (stepFor_kind ..).2, stepFor_make ho g.2, g.1]
  · rw [List.getElem?_eq_none (by rw [applyB_len]; omega), List.getElem?_eq_none (by omega)]
end Go.Proofs.YthjbhdmjfakfaaaGreatDoor
