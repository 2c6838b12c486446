/- A helper of this seat's claims (contracts of the functions): what it shows is shown for every input that its statements name, on no other condition. -/
import Derived.Test.YtpponffjeilhmaaC11x
import Derived.Test.YtpponffjeilhmaaC10s
set_option linter.unusedVariables false
set_option linter.unusedSimpArgs false
namespace Go.Proofs.Ytpponffjeilhmaa
open Go.KH

/-! ## Each move of a plan may be made -/
theorem planStep_mv (w : List UStep) (s : PS) : ∃ m, (planStep w s).mv = s.mv ++ [m] := by
  unfold planStep; split <;> exact ⟨_, rfl⟩
theorem plan_at {w : List UStep} {im : List (List UInt8)} (v : Runs w im.length) : ∀ (n : Nat) (s : PS), meas w s ≤ n → PInv w s → RInv w im s →
    s.mv = (plan w s).take s.mv.length ∧ ∀ j, s.mv.length ≤ j → j < (plan w s).length → ∃ s', PInv w s' ∧ RInv w im s' ∧ s'.left ≠ [] ∧ s'.mv = (plan w s).take j ∧ (planStep w s').mv = (plan w s).take (j + 1)
  | n, s, hm, p, r => by
    by_cases hl : s.left = []
    · rw [plan_done hl]
      exact ⟨(List.take_length).symm, fun j h1 h2 => absurd h2 (by omega)⟩
    have hlt := planStep_lt (w := w) hl
    cases n with
    | zero => omega
    | succ n =>
      obtain ⟨q1, q2⟩ := plan_at v n (planStep w s) (by omega) (pinv_step p hl) (rinv_step v p r hl)
      rw [plan_next hl]
      obtain ⟨m, hm⟩ := planStep_mv w s
      have e1 : s.mv = (plan w (planStep w s)).take s.mv.length := by
        have h1 : s.mv = (planStep w s).mv.take s.mv.length := by rw [hm, List.take_left]
        rw [q1, List.take_take, Nat.min_eq_left (by rw [hm]; simp)] at h1
        exact h1
      refine ⟨e1, fun j h1 h2 => ?_⟩
      by_cases hj : j = s.mv.length
      · subst hj
        refine ⟨s, p, r, hl, e1, ?_⟩
        have : (planStep w s).mv.length = s.mv.length + 1 := by rw [hm]; simp
        rw [← this]
        exact q1
      · exact q2 j (by rw [hm]; simp; omega) h2
/-- A move that may be made. -/
def MvOk (w : List UStep) (n : Nat) (r : RS) (m : UMove) : Prop :=
  (m.kind = 1 ∧ (0 ≤ m.slot ∧ m.slot < 8) ∧ 0 ≤ m.block ∧ m.block < n) ∨
  (m.kind = 2 ∧ ∃ i : Nat, i < w.length ∧ m.step = i ∧ (0 ≤ m.block ∧ m.block < n) ∧ (0 ≤ (stAt w i).src ∧ (stAt w i).src < n) ∧ (-1 ≤ source r.pre (stAt w i).src ∧ source r.pre (stAt w i).src < 8) ∧ makeOk (stAt w i) (srcB r (stAt w i).src))
theorem runs_of {im : List (List UInt8)} {l : List UStep} (hi : imageOk im) (ht : ¬ twice l) (hs : ∀ s ∈ l, stepOk s im.length) : Runs (l.filter isW) im.length ∧ ∀ s ∈ l.filter isW, s.src < im.length ∧ makeOk s (at8 im s.src) := by
  have h0 : ∀ s ∈ l.filter isW, stepOk s im.length ∧ s.kind ≠ 5 := fun s h => by
    rw [List.mem_filter] at h
    exact ⟨hs s h.1, by simpa [isW] using h.2⟩
  have hi1 := hi.1
  refine ⟨⟨fun s h => ?_, fun s h => ?_, fun s h => ?_, writes_apart ht⟩, fun s h => ?_⟩
  · obtain ⟨⟨h1, h2, h3, h4⟩, h5⟩ := h0 s h
    rw [if_neg h5] at h2
    omega
  · obtain ⟨⟨h1, h2, h3, h4⟩, h5⟩ := h0 s h
    rw [if_neg h5] at h3
    split at h3 <;> omega
  · obtain ⟨⟨h1, h2, h3, h4⟩, h5⟩ := h0 s h
    omega
  · obtain ⟨h1, h5⟩ := h0 s h
    obtain ⟨-, ⟨s1, s2⟩, hmk⟩ := step_in hi h1 h5
    exact ⟨by omega, hmk⟩
theorem mv_ok {w : List UStep} {im : List (List UInt8)} (v : Runs w im.length) (hsrc : ∀ s ∈ w, s.src < im.length ∧ makeOk s (at8 im s.src)) {j : Nat} (hj : j < (planB w).length) :
    MvOk w im.length (runL w im ((planB w).take j)) (planB w)[j] ∧ runL w im ((planB w).take (j + 1)) = runMv w (runL w im ((planB w).take j)) (planB w)[j] := by
  have e : runL w im ((planB w).take (j + 1)) = runMv w (runL w im ((planB w).take j)) (planB w)[j] := by
    rw [List.take_succ_eq_append_getElem hj, runL_snoc]
  refine ⟨?_, e⟩
  obtain ⟨s, p, r, hl, h1, h2⟩ := (plan_at v _ (ps0 w) (Nat.le_refl _) (pinv0 w) (rinv0 w im)).2 j (Nat.zero_le _) hj
  have h1' : s.mv = (planB w).take j := h1
  have h2' : (planStep w s).mv = (planB w).take (j + 1) := h2
  have p' := pinv_step p hl
  have hst' := pinv_st p' (fun s hs => ⟨(v.dst s hs).1, (v.dst s hs).2.2⟩)
  have hst := pinv_st p (fun s hs => ⟨(v.dst s hs).1, (v.dst s hs).2.2⟩)
  rw [List.take_succ_eq_append_getElem hj, ← h1'] at h2'
  rw [← h1']
  generalize (planB w)[j] = m at h2'
  revert h2' hst'
  unfold planStep
  split
  · rename_i k hk
    obtain ⟨hk', -, -⟩ := List.findIdx?_eq_some_iff_getElem.1 hk
    rw [List.getElem?_eq_getElem hk', Option.getD_some]
    obtain ⟨i, hi⟩ : ∃ i, s.left[k] = i := ⟨_, rfl⟩
    rw [hi]
    have him : i ∈ s.left := by rw [← hi]; exact List.getElem_mem hk'
    have hiw := p.bound i him
    have hm : stAt w i ∈ w := by rw [stAt_get hiw]; exact List.getElem_mem hiw
    intro _ h2'
    have em := (List.cons.inj (List.append_cancel_left h2')).1
    subst em
    right
    have hd := v.dst _ hm
    have hs := hsrc _ hm
    refine ⟨rfl, i, hiw, rfl, ⟨hd.1, hd.2.1⟩, ⟨v.src _ hm, hs.1⟩, ?_, hs.2.1, fun h4 => ⟨(hs.2.2 h4).1, ?_⟩⟩
    · rw [runL_pre]
      have := source_lt r (stAt w i).src
      omega
    · rw [srcB_eq v p r him (.inr h4)]
      exact (hs.2.2 h4).2
  · rename_i hn
    intro hst' h2'
    have em := (List.cons.inj (List.append_cancel_left h2')).1
    subst em
    left
    simp only [List.length_append, List.length_singleton] at hst'
    have him : s.left.headD 0 ∈ s.left := by cases hs : s.left with | nil => exact absurd hs hl | cons a l => simp
    have hiw := p.bound _ him
    have hm : stAt w (s.left.headD 0) ∈ w := by rw [stAt_get hiw]; exact List.getElem_mem hiw
    have hd := v.dst _ hm
    exact ⟨rfl, by simp only; omega, hd.1, hd.2.1⟩
end Go.Proofs.Ytpponffjeilhmaa
