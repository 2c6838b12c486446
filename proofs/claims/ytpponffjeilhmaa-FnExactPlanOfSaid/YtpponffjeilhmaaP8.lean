/- A helper of this seat's claims (plain laws): what it shows is shown for every input that its statements name, on no other condition. -/
import Derived.Test.YtpponffjeilhmaaP7
set_option linter.unusedVariables false
namespace Go.KH

/-! ## The plan of a merge -/
def stAt (w : List UStep) (i : Nat) : UStep := w[i]?.getD ⟨0, 0, 0, []⟩
theorem stAt_get {w : List UStep} {i : Nat} (h : i < w.length) : stAt w i = w[i] := by simp [stAt, h]
def readsB (s : UStep) (b : Int) : Bool := decide ((s.kind = 3 ∨ s.kind = 4) ∧ s.src = b)
/-- Another step that is left reads the block of this one. -/
def readB (w : List UStep) (left : List Nat) (i : Nat) : Bool := left.any fun k => decide (k ≠ i) && readsB (stAt w k) (stAt w i).dst
/-- The step may be done. -/
def freeB (w : List UStep) (left : List Nat) (st : List Int) (i : Nat) : Bool := decide ((stAt w i).dst ∈ st) || !readB w left i
structure PS where
  left : List Nat
  st : List Int
  mv : List UMove
/-- One move of the plan. -/
def planStep (w : List UStep) (s : PS) : PS :=
  match s.left.findIdx? (freeB w s.left s.st) with
  | some k => ⟨s.left.eraseIdx k, s.st, s.mv ++ [⟨2, s.left[k]?.getD 0, (stAt w (s.left[k]?.getD 0)).dst, 0⟩]⟩
  | none => ⟨s.left, s.st ++ [(stAt w (s.left.headD 0)).dst], s.mv ++ [⟨1, s.left.headD 0, (stAt w (s.left.headD 0)).dst, s.st.length⟩]⟩
def meas (w : List UStep) (s : PS) : Nat := 2 * s.left.length - (if (stAt w (s.left.headD 0)).dst ∈ s.st then 1 else 0)
theorem free_of_st {w : List UStep} {left : List Nat} {st : List Int} {i : Nat} (h : (stAt w i).dst ∈ st) : freeB w left st i = true := by simp [freeB, h]
theorem head_not_st {w : List UStep} {s : PS} (hl : s.left ≠ []) (h : s.left.findIdx? (freeB w s.left s.st) = none) : ∀ i ∈ s.left, (stAt w i).dst ∉ s.st := by
  intro i hi hm
  have := (List.findIdx?_eq_none_iff.1 h) i hi
  rw [free_of_st hm] at this; cases this
theorem planStep_lt {w : List UStep} {s : PS} (hl : s.left ≠ []) : meas w (planStep w s) < meas w s := by
  have hpos : 0 < s.left.length := List.length_pos_iff.2 hl
  unfold planStep
  split
  · rename_i k hk
    have hk' := (List.findIdx?_eq_some_iff_getElem.1 hk).1
    unfold meas
    simp only
    rw [List.length_eraseIdx_of_lt hk']
    split <;> split <;> omega
  · rename_i hn
    have hh := head_not_st hl hn (s.left.headD 0) (by cases hs : s.left with | nil => exact absurd hs hl | cons a l => simp)
    unfold meas
    simp only [List.mem_append, List.mem_singleton, or_true, if_true]
    rw [if_neg hh]
    omega
/-- The plan from a state on. -/
def plan (w : List UStep) (s : PS) : List UMove := if h : s.left = [] then s.mv else plan w (planStep w s)
termination_by meas w s
decreasing_by exact planStep_lt h
theorem plan_done {w : List UStep} {s : PS} (h : s.left = []) : plan w s = s.mv := by rw [plan, dif_pos h]
theorem plan_next {w : List UStep} {s : PS} (h : s.left ≠ []) : plan w s = plan w (planStep w s) := by rw [plan, dif_neg h]
def ps0 (w : List UStep) : PS := ⟨List.range w.length, [], []⟩
def planB (w : List UStep) : List UMove := plan w (ps0 w)
/-- What holds of all states of a plan. -/
structure PInv (w : List UStep) (s : PS) : Prop where
  sorted : s.left.Pairwise (· < ·)
  bound : ∀ i ∈ s.left, i < w.length
  nodup : s.st.Nodup
  mv : s.mv.length + s.left.length = w.length + s.st.length
  sub : ∀ d ∈ s.st, ∃ i, i < w.length ∧ d = (stAt w i).dst
theorem pinv0 (w : List UStep) : PInv w (ps0 w) := ⟨List.pairwise_lt_range, fun i hi => List.mem_range.1 hi, by simp [ps0], by simp [ps0], by simp [ps0]⟩
theorem pinv_step {w : List UStep} {s : PS} (p : PInv w s) (hl : s.left ≠ []) : PInv w (planStep w s) := by
  unfold planStep
  split
  · rename_i k hk
    have hk' := (List.findIdx?_eq_some_iff_getElem.1 hk).1
    refine ⟨p.sorted.sublist (List.eraseIdx_sublist ..), fun i hi => p.bound i (List.mem_of_mem_eraseIdx hi), p.nodup, ?_, p.sub⟩
    have := p.mv
    simp only [List.length_append, List.length_singleton]
    rw [List.length_eraseIdx_of_lt hk']
    omega
  · rename_i hn
    have hmem : s.left.headD 0 ∈ s.left := by cases hs : s.left with | nil => exact absurd hs hl | cons a l => simp
    have hh := head_not_st hl hn _ hmem
    refine ⟨p.sorted, p.bound, ?_, ?_, ?_⟩
    · simp only
      rw [List.nodup_append]
      refine ⟨p.nodup, by simp, ?_⟩
      intro a ha b hb e
      simp only [List.mem_singleton] at hb
      subst hb; subst e
      exact hh ha
    · have := p.mv
      simp only [List.length_append, List.length_singleton]
      omega
    · intro d hd
      simp only [List.mem_append, List.mem_singleton] at hd
      rcases hd with hd | rfl
      · exact p.sub d hd
      · exact ⟨_, p.bound _ hmem, rfl⟩
theorem nodup_le : ∀ (n : Nat) (l : List Int), l.Nodup → (∀ x ∈ l, 0 ≤ x ∧ x < n) → l.length ≤ n
  | 0, l, _, hb => by
    cases l with
    | nil => simp
    | cons a l => have := hb a (List.mem_cons_self ..); omega
  | n + 1, l, hd, hb => by
    have ih := nodup_le n (l.erase (n : Int)) (hd.sublist List.erase_sublist) (fun x hx => by
      have h1 := hb x (List.mem_of_mem_erase hx)
      have h2 : x ≠ (n : Int) := fun e => by subst e; exact (List.Nodup.not_mem_erase hd) hx
      omega)
    have := List.length_erase (a := (n : Int)) (l := l)
    split at this <;> omega
theorem pinv_st {w : List UStep} {s : PS} (p : PInv w s) (hd : ∀ s ∈ w, 0 ≤ s.dst ∧ s.dst ≤ 7) : s.st.length ≤ 8 :=
  nodup_le 8 s.st p.nodup fun x hx => by
    obtain ⟨i, hi, rfl⟩ := p.sub x hx
    have := hd _ (List.getElem_mem hi)
    rw [stAt_get hi]; omega
theorem plan_end {w : List UStep} : ∀ (m : Nat) (s : PS), meas w s ≤ m → PInv w s → ∃ s', PInv w s' ∧ s'.left = [] ∧ plan w s = s'.mv
  | m, s, hm, p => by
    by_cases hl : s.left = []
    · exact ⟨s, p, hl, plan_done hl⟩
    · have hlt := planStep_lt (w := w) hl
      cases m with
      | zero => omega
      | succ m =>
        obtain ⟨s', h1, h2, h3⟩ := plan_end m (planStep w s) (by omega) (pinv_step p hl)
        exact ⟨s', h1, h2, by rw [plan_next hl]; exact h3⟩
theorem planB_len {w : List UStep} (hd : ∀ s ∈ w, 0 ≤ s.dst ∧ s.dst ≤ 7) : (planB w).length ≤ w.length + 8 := by
  obtain ⟨s, p, hl, e⟩ := plan_end _ (ps0 w) (Nat.le_refl _) (pinv0 w)
  have h1 := pinv_st p hd
  have h2 := p.mv
  unfold planB
  rw [e, hl] at *
  simp only [List.length_nil] at h2
  omega
/-- The first place below n at which something holds; -1: there is none. -/
def fstI (p : Nat → Bool) (n : Nat) : Int := match (List.range n).find? p with | some i => i | none => -1
theorem fstI_0 (p : Nat → Bool) : fstI p 0 = -1 := rfl
theorem fstI_succ (p : Nat → Bool) (k : Nat) : fstI p (k + 1) = if fstI p k < 0 then (if p k then (k : Int) else -1) else fstI p k := by
  unfold fstI
  rw [List.range_succ, List.find?_append]
  cases h : (List.range k).find? p with
  | some i =>
    simp only [Option.some_or]
    rw [if_neg (by omega)]
  | none =>
    simp only [Option.none_or]
    by_cases hk : p k <;> simp [List.find?, hk]
theorem fstI_some {p : Nat → Bool} {n i : Nat} (hi : i < n) (h : p i = true) (hn : ∀ j, j < i → p j = false) : fstI p n = i := by
  unfold fstI
  rw [List.find?_range_eq_some.2 ⟨h, List.mem_range.2 hi, fun j hj => by simp [hn j hj]⟩]
theorem fstI_none {p : Nat → Bool} {n : Nat} (hn : ∀ j, j < n → p j = false) : fstI p n = -1 := by
  unfold fstI
  rw [List.find?_eq_none.2 (fun x hx => by simp [hn x (List.mem_range.1 hx)])]
theorem sorted_at {l : List Nat} (h : l.Pairwise (· < ·)) {k j : Nat} (hk : k < l.length) (hj : j ∈ l) (hlt : j < l[k]) : ∃ m, ∃ hm : m < l.length, m < k ∧ l[m] = j := by
  obtain ⟨m, hm, rfl⟩ := List.getElem_of_mem hj
  refine ⟨m, hm, ?_, rfl⟩
  rw [List.pairwise_iff_getElem] at h
  by_cases hmk : m < k
  · exact hmk
  · exfalso
    by_cases e : m = k
    · subst e; omega
    · have := h k m hk hm (by omega); omega
theorem fst_free {w : List UStep} {s : PS} (p : PInv w s) : fstI (fun i => decide (i ∈ s.left) && freeB w s.left s.st i) w.length = match s.left.findIdx? (freeB w s.left s.st) with | some k => ((s.left[k]?.getD 0 : Nat) : Int) | none => -1 := by
  split
  · rename_i k hk
    obtain ⟨h1, h2, h3⟩ := List.findIdx?_eq_some_iff_getElem.1 hk
    rw [List.getElem?_eq_getElem h1]
    refine fstI_some (p.bound _ (List.getElem_mem h1)) (by simp [h2]) ?_
    intro j hj
    simp only [Option.getD_some] at hj
    by_cases hm : j ∈ s.left
    · obtain ⟨m, hm1, hm2, rfl⟩ := sorted_at p.sorted h1 hm hj
      have := h3 m hm2
      simpa [hm] using this
    · simp [hm]
  · rename_i hn
    refine fstI_none fun j hj => ?_
    by_cases hm : j ∈ s.left
    · have := (List.findIdx?_eq_none_iff.1 hn) j hm
      simp [this]
    · simp [hm]
theorem headD_0 (l : List Nat) (h : 0 < l.length) : l.headD 0 = l[0] := by
  cases l with
  | nil => simp at h
  | cons a l => rfl
theorem fst_left {w : List UStep} {s : PS} (p : PInv w s) (hl : s.left ≠ []) : fstI (fun i => decide (i ∈ s.left)) w.length = (s.left.headD 0 : Nat) := by
  have hlen : 0 < s.left.length := List.length_pos_iff.2 hl
  have e : s.left.headD 0 = s.left[0] := headD_0 _ hlen
  rw [e]
  refine fstI_some (p.bound _ (List.getElem_mem hlen)) (by simp) ?_
  intro j hj
  by_cases hm : j ∈ s.left
  · obtain ⟨m, _, h2, _⟩ := sorted_at p.sorted hlen hm hj; omega
  · simp [hm]
theorem fst_nil {w : List UStep} {s : PS} (hl : s.left = []) : fstI (fun i => decide (i ∈ s.left)) w.length = -1 := fstI_none fun j _ => by simp [hl]
theorem mem_erase {w : List UStep} {s : PS} (p : PInv w s) {k : Nat} (hk : k < s.left.length) (j : Nat) : j ∈ s.left.eraseIdx k ↔ j ∈ s.left ∧ j ≠ s.left[k] := by
  rw [List.mem_eraseIdx_iff_getElem]
  have hp := List.pairwise_iff_getElem.1 p.sorted
  constructor
  · rintro ⟨i, hi, hne, rfl⟩
    refine ⟨List.getElem_mem hi, fun e => ?_⟩
    by_cases h : i < k
    · have := hp i k hi hk h; omega
    · have := hp k i hk hi (by omega); omega
  · rintro ⟨hm, hne⟩
    obtain ⟨i, hi, rfl⟩ := List.getElem_of_mem hm
    exact ⟨i, hi, fun e => hne (by subst e; rfl), rfl⟩
end Go.KH
