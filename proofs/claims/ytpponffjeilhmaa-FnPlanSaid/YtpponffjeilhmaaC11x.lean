/- A helper of this seat's claims (contracts of the functions): what it shows is shown for every input that its statements name, on no other condition. -/
import Derived.Test.YtpponffjeilhmaaC11
import Derived.Test.YtpponffjeilhmaaKD
set_option linter.unusedVariables false
set_option linter.unusedSimpArgs false
namespace Go.Proofs.Ytpponffjeilhmaa
open Go.KH

/-! ## A plan that runs in the place -/
structure RS where
  pre : List UMove
  out : List (List UInt8)
  sl : List (List UInt8)
def srcB (r : RS) (b : Int) : List UInt8 := if 0 ≤ source r.pre b then at8 r.sl (source r.pre b) else at8 r.out b
def runMv (w : List UStep) (r : RS) (m : UMove) : RS :=
  if m.kind = 1 then ⟨r.pre ++ [m], r.out, r.sl.set m.slot.toNat (at8 r.out m.block)⟩
  else ⟨r.pre ++ [m], r.out.set m.block.toNat (makeB (stAt w m.step.toNat) (srcB r (stAt w m.step.toNat).src)), r.sl⟩
def runL (w : List UStep) (im : List (List UInt8)) (mv : List UMove) : RS := mv.foldl (runMv w) ⟨[], im, List.replicate 8 []⟩
theorem runL_snoc (w : List UStep) (im : List (List UInt8)) (mv : List UMove) (m : UMove) : runL w im (mv ++ [m]) = runMv w (runL w im mv) m := by
  unfold runL; rw [List.foldl_append]; rfl
theorem runMv_pre (w : List UStep) (r : RS) (m : UMove) : (runMv w r m).pre = r.pre ++ [m] := by unfold runMv; split <;> rfl
theorem fold_pre (w : List UStep) : ∀ (mv : List UMove) (r : RS), (mv.foldl (runMv w) r).pre = r.pre ++ mv
  | [], r => by simp
  | m :: mv, r => by rw [List.foldl_cons, fold_pre w mv, runMv_pre, List.append_assoc]; rfl
theorem runL_pre (w : List UStep) (im : List (List UInt8)) (mv : List UMove) : (runL w im mv).pre = mv := by
  unfold runL; rw [fold_pre]; rfl
theorem runMv_len (w : List UStep) (r : RS) (m : UMove) : (runMv w r m).out.length = r.out.length ∧ (runMv w r m).sl.length = r.sl.length := by
  unfold runMv; split <;> simp
theorem fold_lens (w : List UStep) : ∀ (mv : List UMove) (r : RS), (mv.foldl (runMv w) r).out.length = r.out.length ∧ (mv.foldl (runMv w) r).sl.length = r.sl.length
  | [], r => ⟨rfl, rfl⟩
  | m :: mv, r => by
    rw [List.foldl_cons]
    have := fold_lens w mv (runMv w r m)
    have h2 := runMv_len w r m
    exact ⟨by omega, by omega⟩
theorem runL_lens (w : List UStep) (im : List (List UInt8)) (mv : List UMove) : (runL w im mv).out.length = im.length ∧ (runL w im mv).sl.length = 8 := by
  have := fold_lens w mv ⟨[], im, List.replicate 8 []⟩
  simpa [runL] using this
theorem at8_set (l : List (List UInt8)) (k : Nat) (x : List UInt8) (b : Int) : at8 (l.set k x) b = if b.toNat = k ∧ k < l.length then x else at8 l b := by
  unfold at8
  by_cases h : b.toNat = k
  · subst h
    by_cases h2 : b.toNat < l.length
    · rw [if_pos ⟨rfl, h2⟩, List.getElem?_set_self h2]; rfl
    · rw [if_neg (fun h => h2 h.2), List.getElem?_eq_none (by simp; omega), List.getElem?_eq_none (by omega)]
  · rw [if_neg (fun e => h e.1), List.getElem?_set_ne (fun e => h e.symm)]
structure RInv (w : List UStep) (im : List (List UInt8)) (s : PS) : Prop where
  did : ∀ i, i < w.length → i ∉ s.left → at8 (runL w im s.mv).out (stAt w i).dst = makeB (stAt w i) (at8 im (stAt w i).src)
  rest : ∀ b : Int, 0 ≤ b → (∀ i, i < w.length → i ∉ s.left → (stAt w i).dst ≠ b) → at8 (runL w im s.mv).out b = at8 im b
  stash : ∀ j, (hj : j < s.st.length) → (∃ m, s.mv.find? (isStash s.st[j]) = some m ∧ m.slot = j) ∧ at8 (runL w im s.mv).sl (j : Int) = at8 im s.st[j]
  nost : ∀ b, b ∉ s.st → s.mv.find? (isStash b) = none
  wait : ∀ i, i < w.length → i ∉ s.left → ∀ k ∈ s.left, readsB (stAt w k) (stAt w i).dst = true → (stAt w i).dst ∈ s.st
theorem rinv0 (w : List UStep) (im : List (List UInt8)) : RInv w im (ps0 w) where
  did i hi h := absurd (List.mem_range.2 hi) h
  rest b _ _ := rfl
  stash j hj := by simp [ps0] at hj
  nost b _ := rfl
  wait i hi h := absurd (List.mem_range.2 hi) h
/-- Steps that may be run on an image. -/
structure Runs (w : List UStep) (n : Nat) : Prop where
  dst : ∀ s ∈ w, 0 ≤ s.dst ∧ s.dst < n ∧ s.dst ≤ 7
  src : ∀ s ∈ w, 0 ≤ s.src
  kind : ∀ s ∈ w, 1 ≤ s.kind ∧ s.kind ≤ 4
  apart : w.Pairwise (fun x y => x.dst ≠ y.dst)
theorem Runs.ne {w : List UStep} {n i j : Nat} (r : Runs w n) (hi : i < w.length) (hj : j < w.length) (h : i ≠ j) : (stAt w i).dst ≠ (stAt w j).dst := by
  have := List.pairwise_iff_getElem.1 r.apart
  rw [stAt_get hi, stAt_get hj]
  by_cases hl : i < j
  · exact this i j hi hj hl
  · exact fun e => this j i hj hi (by omega) e.symm
theorem srcB_eq {w : List UStep} {im : List (List UInt8)} {s : PS} (v : Runs w im.length) (p : PInv w s) (r : RInv w im s) {i : Nat} (hi : i ∈ s.left) (hk : (stAt w i).kind = 3 ∨ (stAt w i).kind = 4) : srcB (runL w im s.mv) (stAt w i).src = at8 im (stAt w i).src := by
  have hiw := p.bound i hi
  have hm : stAt w i ∈ w := by rw [stAt_get hiw]; exact List.getElem_mem hiw
  unfold srcB
  rw [runL_pre]
  by_cases hs : (stAt w i).src ∈ s.st
  · obtain ⟨j, hj, e⟩ := List.getElem_of_mem hs
    obtain ⟨⟨m, h1, h2⟩, h3⟩ := r.stash j hj
    have h4 : source s.mv (stAt w i).src = j := by
      unfold source; rw [← e, h1]; exact h2
    rw [h4, if_pos (by omega), h3, e]
  · have h4 : source s.mv (stAt w i).src = -1 := by
      unfold source; rw [r.nost _ hs]
    rw [h4, if_neg (by omega)]
    refine r.rest _ (v.src _ hm) fun i' hi' hn e => hs ?_
    rw [← e]
    exact r.wait i' hi' hn i hi (by simp [readsB, hk, e])
theorem srcB_right {w : List UStep} {im : List (List UInt8)} {s : PS} (v : Runs w im.length) (p : PInv w s) (r : RInv w im s) {i : Nat} (hi : i ∈ s.left) : makeB (stAt w i) (srcB (runL w im s.mv) (stAt w i).src) = makeB (stAt w i) (at8 im (stAt w i).src) := by
  have hiw := p.bound i hi
  have hm : stAt w i ∈ w := by rw [stAt_get hiw]; exact List.getElem_mem hiw
  by_cases hk : (stAt w i).kind = 3 ∨ (stAt w i).kind = 4
  · rw [srcB_eq v p r hi hk]
  · have := v.kind _ hm
    unfold makeB
    by_cases h1 : (stAt w i).kind = 1
    · rw [if_pos h1, if_pos h1]
    · have h2 : (stAt w i).kind = 2 := by omega
      rw [if_neg h1, if_neg h1, if_pos h2, if_pos h2]
theorem source_lt {w : List UStep} {im : List (List UInt8)} {s : PS} (r : RInv w im s) (b : Int) : -1 ≤ source s.mv b ∧ source s.mv b < (s.st.length : Int) ∨ source s.mv b = -1 := by
  by_cases hs : b ∈ s.st
  · obtain ⟨j, hj, e⟩ := List.getElem_of_mem hs
    obtain ⟨⟨m, h1, h2⟩, h3⟩ := r.stash j hj
    have h4 : source s.mv b = j := by
      unfold source; rw [← e, h1]; exact h2
    omega
  · right; unfold source; rw [r.nost _ hs]
theorem rinv_step {w : List UStep} {im : List (List UInt8)} {s : PS} (v : Runs w im.length) (p : PInv w s) (r : RInv w im s) (hl : s.left ≠ []) : RInv w im (planStep w s) := by
  have p' := pinv_step p hl
  have hst := pinv_st p' (fun s hs => ⟨(v.dst s hs).1, (v.dst s hs).2.2⟩)
  obtain ⟨ol, sl8⟩ := runL_lens w im s.mv
  revert p' hst
  unfold planStep
  split
  · rename_i k hk
    intro p' hst
    obtain ⟨hk', hfree, -⟩ := List.findIdx?_eq_some_iff_getElem.1 hk
    rw [List.getElem?_eq_getElem hk', Option.getD_some]
    obtain ⟨i, hi⟩ : ∃ i, s.left[k] = i := ⟨_, rfl⟩
    rw [hi] at hfree ⊢
    have him : i ∈ s.left := by rw [← hi]; exact List.getElem_mem hk'
    have hiw := p.bound i him
    have hm : stAt w i ∈ w := by rw [stAt_get hiw]; exact List.getElem_mem hiw
    obtain ⟨d1, d2, d3⟩ := v.dst _ hm
    have er := mem_erase p hk'
    rw [hi] at er
    have hmk := srcB_right v p r him
    have hrun : runL w im (s.mv ++ [⟨2, (i : Nat), (stAt w i).dst, 0⟩]) = ⟨s.mv ++ [⟨2, (i : Nat), (stAt w i).dst, 0⟩], (runL w im s.mv).out.set (stAt w i).dst.toNat (makeB (stAt w i) (at8 im (stAt w i).src)), (runL w im s.mv).sl⟩ := by
      rw [runL_snoc]
      unfold runMv
      simp only [Int.toNat_natCast, hmk, runL_pre]
      rw [if_neg (by decide)]
    have hfind : ∀ b, (s.mv ++ [⟨2, (i : Nat), (stAt w i).dst, 0⟩] : List UMove).find? (isStash b) = s.mv.find? (isStash b) := by
      intro b
      rw [List.find?_append]
      simp [isStash]
    constructor
    · intro i' hi' hn
      simp only at hn ⊢
      rw [hrun]
      simp only
      rw [at8_set]
      by_cases e : i' = i
      · subst e
        rw [if_pos ⟨rfl, by omega⟩]
      · have hne := v.ne hi' hiw e
        have hm' : stAt w i' ∈ w := by rw [stAt_get hi']; exact List.getElem_mem hi'
        have := (v.dst _ hm').1
        rw [if_neg (by omega)]
        exact r.did i' hi' (fun h => hn ((er i').2 ⟨h, e⟩))
    · intro b hb hn
      simp only at hn ⊢
      rw [hrun]
      simp only
      rw [at8_set]
      have := hn i hiw (fun h => ((er i).1 h).2 rfl)
      rw [if_neg (by omega)]
      exact r.rest b hb fun i' hi' h => hn i' hi' (fun h' => h ((er i').1 h').1)
    · intro j hj
      simp only at hj ⊢
      rw [hrun, hfind]
      exact r.stash j hj
    · intro b hb
      simp only at hb ⊢
      rw [hfind]
      exact r.nost b hb
    · intro i' hi' hn k' hk2 hrd
      simp only at hn hk2 ⊢
      obtain ⟨hk3, hk4⟩ := (er k').1 hk2
      by_cases e : i' = i
      · subst e
        unfold freeB at hfree
        simp only [Bool.or_eq_true, decide_eq_true_eq, Bool.not_eq_true'] at hfree
        rcases hfree with h | h
        · exact h
        · exfalso
          unfold readB at h
          rw [List.any_eq_false] at h
          have := h k' hk3
          simp [hk4, hrd] at this
      · exact r.wait i' hi' (fun h => hn ((er i').2 ⟨h, e⟩)) k' hk3 hrd
  · rename_i hnone
    intro p' hst
    obtain ⟨i, hi⟩ : ∃ i, s.left.headD 0 = i := ⟨_, rfl⟩
    have him : i ∈ s.left := by rw [← hi]; cases hs : s.left with | nil => exact absurd hs hl | cons a l => simp
    have hh := head_not_st hl hnone i him
    rw [hi] at hst ⊢
    have hiw := p.bound i him
    have hm : stAt w i ∈ w := by rw [stAt_get hiw]; exact List.getElem_mem hiw
    obtain ⟨d1, d2, d3⟩ := v.dst _ hm
    simp only [List.length_append, List.length_singleton] at hst
    have hcur : at8 (runL w im s.mv).out (stAt w i).dst = at8 im (stAt w i).dst := r.rest _ d1 fun i' hi' hn => v.ne hi' hiw (fun e => hn (by rw [e]; exact him))
    have hrun : runL w im (s.mv ++ [⟨1, (i : Nat), (stAt w i).dst, (s.st.length : Nat)⟩]) = ⟨s.mv ++ [⟨1, (i : Nat), (stAt w i).dst, (s.st.length : Nat)⟩], (runL w im s.mv).out, (runL w im s.mv).sl.set s.st.length (at8 im (stAt w i).dst)⟩ := by
      rw [runL_snoc]
      unfold runMv
      simp only [Int.toNat_natCast, hcur, runL_pre]
      rfl
    have hfind : ∀ b, (s.mv ++ [⟨1, (i : Nat), (stAt w i).dst, (s.st.length : Nat)⟩] : List UMove).find? (isStash b) = (s.mv.find? (isStash b)).or (if (stAt w i).dst = b then some ⟨1, (i : Nat), (stAt w i).dst, (s.st.length : Nat)⟩ else none) := by
      intro b
      rw [List.find?_append]
      congr 1
      by_cases e : (stAt w i).dst = b <;> simp [isStash, e]
    constructor
    · intro i' hi' hn
      simp only at hn ⊢
      rw [hrun]
      exact r.did i' hi' hn
    · intro b hb hn
      simp only at hn ⊢
      rw [hrun]
      exact r.rest b hb hn
    · intro j hj
      simp only [List.length_append, List.length_singleton] at hj
      simp only
      rw [hrun, hfind]
      simp only
      rw [at8_set]
      by_cases e : j = s.st.length
      · subst e
        have e1 : (s.st ++ [(stAt w i).dst])[s.st.length]'(by simp) = (stAt w i).dst := by simp
        rw [e1, r.nost _ hh, if_pos rfl, if_pos ⟨by simp, by omega⟩]
        exact ⟨⟨_, rfl, rfl⟩, rfl⟩
      · have hj' : j < s.st.length := by omega
        have e1 : (s.st ++ [(stAt w i).dst])[j]'(by simp; omega) = s.st[j] := List.getElem_append_left hj'
        obtain ⟨⟨m, h1, h2⟩, h3⟩ := r.stash j hj'
        have h4 : ¬ (((j : Nat) : Int).toNat = s.st.length ∧ s.st.length < (runL w im s.mv).sl.length) := by omega
        rw [e1, h1, if_neg h4]
        exact ⟨⟨m, rfl, h2⟩, h3⟩
    · intro b hb
      simp only [List.mem_append, List.mem_singleton, not_or] at hb
      simp only
      rw [hfind, r.nost b hb.1, if_neg (fun e => hb.2 e.symm)]; rfl
    · intro i' hi' hn k' hk2 hrd
      simp only at hn hk2 ⊢
      exact List.mem_append_left _ (r.wait i' hi' hn k' hk2 hrd)
theorem rinv_end {w : List UStep} {im : List (List UInt8)} (v : Runs w im.length) : ∀ (m : Nat) (s : PS), meas w s ≤ m → PInv w s → RInv w im s → ∃ s', RInv w im s' ∧ s'.left = [] ∧ plan w s = s'.mv
  | m, s, hm, p, r => by
    by_cases hl : s.left = []
    · exact ⟨s, r, hl, plan_done hl⟩
    · have hlt := planStep_lt (w := w) hl
      cases m with
      | zero => omega
      | succ m =>
        obtain ⟨s', h1, h2, h3⟩ := rinv_end v m (planStep w s) (by omega) (pinv_step p hl) (rinv_step v p r hl)
        exact ⟨s', h1, h2, by rw [plan_next hl]; exact h3⟩
/-- A plan that runs in the place comes to what the steps make of the image as it was. -/
theorem run_plan {w : List UStep} {im : List (List UInt8)} (v : Runs w im.length) : (runL w im (planB w)).out = w.foldl (putB im) im := by
  obtain ⟨s, r, hl, e⟩ := rinv_end v _ (ps0 w) (Nat.le_refl _) (pinv0 w) (rinv0 w im)
  have e' : planB w = s.mv := e
  rw [e']
  obtain ⟨ol, -⟩ := runL_lens w im s.mv
  apply List.ext_getElem?
  intro b
  by_cases hb : b < im.length
  rotate_left
  · rw [List.getElem?_eq_none (by omega), List.getElem?_eq_none (by rw [fold_putB_len]; omega)]
  obtain ⟨f1, f2⟩ := fold_at (im := im) (b := b) w im v.apart (fun s hs => (v.dst s hs).1) hb
  have hat : ∀ x, at8 (runL w im s.mv).out (b : Int) = x → (runL w im s.mv).out[b]? = some x := fun x h => by
    simp only [at8, Int.toNat_natCast] at h
    rw [List.getElem?_eq_getElem (by omega)] at h ⊢
    rw [← h]; rfl
  by_cases hex : ∃ i, i < w.length ∧ (stAt w i).dst = b
  · obtain ⟨i, hi, hd⟩ := hex
    have hm : stAt w i ∈ w := by rw [stAt_get hi]; exact List.getElem_mem hi
    rw [f1 _ hm hd]
    exact hat _ (by rw [← hd]; exact r.did i hi (by rw [hl]; simp))
  · have hno : ∀ s ∈ w, s.dst ≠ b := fun s hs e => hex (by
      obtain ⟨i, hi, rfl⟩ := List.getElem_of_mem hs
      exact ⟨i, hi, by rw [stAt_get hi]; exact e⟩)
    rw [f2 hno]
    rw [hat (at8 im b) (r.rest b (by omega) fun i hi _ h => hex ⟨i, hi, h⟩)]
    simp only [at8, Int.toNat_natCast]
    rw [List.getElem?_eq_getElem hb]; rfl
end Go.Proofs.Ytpponffjeilhmaa
