/- A helper of this seat's claims (contracts of the functions): what it shows is shown for every input that its statements name, on no other condition. -/
import Derived.Test.YtiokibikhanfcaaGreatC11
import Derived.Test.YtiokibikhanfcaaGreatKD
set_option linter.unusedVariables false
set_option linter.unusedSimpArgs false
namespace Go.Proofs.YtiokibikhanfcaaGreat
open Go.KH

/-! ## What a plan has -/
def didN (mv : List UMove) (i : Nat) : Nat := (mv.filter fun m : UMove => !decide (m.kind = 1) && decide (m.step = (i : Int))).length
def stashes (mv : List UMove) : List UMove := mv.filter fun m => decide (m.kind = 1)
/-- What holds of all states of a plan. -/
structure PCount (w : List UStep) (s : PS) : Prop where
  did : ∀ i, i < w.length → didN s.mv i = if i ∈ s.left then 0 else 1
  num : (stashes s.mv).map (fun m => m.slot) = (List.range s.st.length).map fun j : Nat => (j : Int)
  step : ∀ m ∈ s.mv, m.kind ≠ 1 → ∃ i : Nat, m.step = i ∧ i < w.length
  frm : s.st ≠ [] → ∃ i, i < w.length ∧ ((stAt w i).kind = 3 ∨ (stAt w i).kind = 4)
theorem didN_app (mv : List UMove) (m : UMove) (i : Nat) : didN (mv ++ [m]) i = didN mv i + if ¬ m.kind = 1 ∧ m.step = (i : Int) then 1 else 0 := by
  unfold didN
  rw [List.filter_append, List.length_append]
  congr 1
  by_cases h1 : m.kind = 1 <;> by_cases h2 : m.step = (i : Int) <;> simp [h1, h2]
theorem stashes_app (mv : List UMove) (m : UMove) : stashes (mv ++ [m]) = stashes mv ++ if m.kind = 1 then [m] else [] := by
  unfold stashes
  rw [List.filter_append]
  by_cases h1 : m.kind = 1 <;> simp [h1]
theorem pcount0 (w : List UStep) : PCount w (ps0 w) where
  did i hi := by simp [ps0, didN, hi]
  num := rfl
  step m hm := by simp [ps0] at hm
  frm h := absurd rfl h
theorem pcount_step {w : List UStep} {s : PS} (p : PInv w s) (c : PCount w s) (hl : s.left ≠ []) : PCount w (planStep w s) := by
  unfold planStep
  split
  · rename_i k hk
    obtain ⟨hk', -, -⟩ := List.findIdx?_eq_some_iff_getElem.1 hk
    have er := mem_erase p hk'
    have hk2 : s.left[k]?.getD 0 = s.left[k] := by rw [List.getElem?_eq_getElem hk']; rfl
    rw [hk2]
    obtain ⟨i, hi⟩ : ∃ i, s.left[k] = i := ⟨_, rfl⟩
    have him : i ∈ s.left := by rw [← hi]; exact List.getElem_mem hk'
    rw [hi] at er ⊢
    constructor
    · intro j hj
      simp only
      rw [didN_app, c.did j hj]
      by_cases e : j = i
      · subst e
        simp [him, show ¬ j ∈ s.left.eraseIdx k from fun h => ((er j).1 h).2 rfl]
      · have e' : ¬ (i : Int) = (j : Int) := by omega
        have em : (j ∈ s.left.eraseIdx k) = (j ∈ s.left) := propext ⟨fun h => ((er j).1 h).1, fun h => (er j).2 ⟨h, e⟩⟩
        simp [e', em]
    · simp only
      rw [stashes_app, if_neg (by simp), List.append_nil]
      exact c.num
    · intro m hm h1
      simp only [List.mem_append, List.mem_singleton] at hm
      rcases hm with hm | rfl
      · exact c.step m hm h1
      · exact ⟨i, rfl, p.bound i him⟩
    · exact c.frm
  · rename_i hn
    obtain ⟨i, hi⟩ : ∃ i, s.left.headD 0 = i := ⟨_, rfl⟩
    have him : i ∈ s.left := by rw [← hi]; cases hs : s.left with | nil => exact absurd hs hl | cons a l => simp
    rw [hi]
    constructor
    · intro j hj
      simp only
      rw [didN_app, c.did j hj]
      simp
    · simp only
      rw [stashes_app, if_pos rfl, List.map_append, c.num, List.length_append, List.length_singleton, List.range_succ, List.map_append]
      rfl
    · intro m hm h1
      simp only [List.mem_append, List.mem_singleton] at hm
      rcases hm with hm | rfl
      · exact c.step m hm h1
      · exact absurd rfl h1
    · intro _
      have hb := (List.findIdx?_eq_none_iff.1 hn) i him
      unfold freeB at hb
      simp only [Bool.or_eq_false_iff, Bool.not_eq_false'] at hb
      have hr := hb.2
      unfold readB at hr
      rw [List.any_eq_true] at hr
      obtain ⟨k, hk, hkr⟩ := hr
      simp only [Bool.and_eq_true, readsB, decide_eq_true_eq] at hkr
      exact ⟨k, p.bound k hk, hkr.2.1⟩
theorem nodup_sub : ∀ (l m : List Nat), l.Nodup → (∀ x ∈ l, x ∈ m) → l.length ≤ m.length
  | [], m, _, _ => Nat.zero_le _
  | a :: l, m, hd, hs => by
    obtain ⟨h1, h2⟩ := List.nodup_cons.1 hd
    have ha := hs a (List.mem_cons_self ..)
    have ih := nodup_sub l (m.erase a) h2 (fun x hx => (List.mem_erase_of_ne (fun e => by subst e; exact h1 hx)).2 (hs x (List.mem_cons_of_mem _ hx)))
    rw [List.length_erase_of_mem ha] at ih
    have := List.length_pos_of_mem ha
    simp only [List.length_cons]
    omega
/-- How far the stashes run ahead of what is done. -/
def PHalf (w : List UStep) (s : PS) : Prop :=
  (2 * s.st.length + s.left.length ≤ w.length) ∨
  (2 * s.st.length + s.left.length ≤ w.length + 1 ∧ ∃ m ∈ s.left, freeB w s.left s.st m = true) ∨
  (2 * s.st.length + s.left.length ≤ w.length + 2 ∧ ∃ i ∈ s.left, (∀ k ∈ s.left, k ≠ i → freeB w s.left s.st k = false) ∧ freeB w s.left s.st i = true ∧ ∃ m ∈ s.left, m ≠ i ∧ ∀ k ∈ s.left, k ≠ i → readsB (stAt w k) (stAt w m).dst = false)
theorem one_reader {w : List UStep} {left : List Nat} {i : Nat} (hi : i ∈ left) (hn : left.Nodup) (hne : ∀ a ∈ left, ∀ b ∈ left, (stAt w a).dst = (stAt w b).dst → a = b) (hb : ∀ k ∈ left, readB w left k = true) :
    ∃ m ∈ left, m ≠ i ∧ ∀ k ∈ left, k ≠ i → readsB (stAt w k) (stAt w m).dst = false := by
  apply Classical.byContradiction
  intro hno
  have hrd : ∀ m ∈ left, ∃ k ∈ left, k ≠ i ∧ readsB (stAt w k) (stAt w m).dst = true := by
    intro m hm
    by_cases e : m = i
    · have h := hb m hm
      unfold readB at h
      rw [List.any_eq_true] at h
      obtain ⟨k, hk, hkr⟩ := h
      simp only [Bool.and_eq_true, decide_eq_true_eq] at hkr
      exact ⟨k, hk, by rw [← e]; exact hkr.1, hkr.2⟩
    · apply Classical.byContradiction
      intro h
      refine hno ⟨m, hm, e, fun k hk hki => ?_⟩
      cases hr : readsB (stAt w k) (stAt w m).dst with
      | false => rfl
      | true => exact absurd ⟨k, hk, hki, hr⟩ h
  have hc : ∃ f : Nat → Nat, ∀ m ∈ left, f m ∈ left ∧ f m ≠ i ∧ readsB (stAt w (f m)) (stAt w m).dst = true := by
    refine ⟨fun m => if h : m ∈ left then Classical.choose (hrd m h) else 0, fun m hm => ?_⟩
    simp only [hm, dif_pos]
    have := Classical.choose_spec (hrd m hm)
    exact ⟨this.1, this.2.1, this.2.2⟩
  obtain ⟨f, hf⟩ := hc
  have hnd : (left.map f).Nodup := by
    rw [List.nodup_iff_pairwise_ne, List.pairwise_map]
    refine (List.nodup_iff_pairwise_ne.1 hn).imp_of_mem ?_
    intro a b ha hb' hab e
    have h1 := (hf a ha).2.2
    have h2 := (hf b hb').2.2
    rw [e] at h1
    simp only [readsB, decide_eq_true_eq] at h1 h2
    exact hab (hne a ha b hb' (by rw [← h1.2, h2.2]))
  have hsub := nodup_sub (left.map f) (left.erase i) hnd (fun x hx => by
    obtain ⟨a, ha, rfl⟩ := List.mem_map.1 hx
    exact (List.mem_erase_of_ne (hf a ha).2.1).2 (hf a ha).1)
  rw [List.length_map, List.length_erase_of_mem hi] at hsub
  have := List.length_pos_of_mem hi
  omega
theorem phalf_step {w : List UStep} {s : PS} (p : PInv w s) (c : PHalf w s) (hl : s.left ≠ []) (hap : ∀ a, a < w.length → ∀ b, b < w.length → (stAt w a).dst = (stAt w b).dst → a = b) : PHalf w (planStep w s) := by
  have hnd : s.left.Nodup := List.nodup_iff_pairwise_ne.2 (p.sorted.imp fun h => by omega)
  unfold planStep
  split
  · rename_i k hk
    obtain ⟨hk', hfree, -⟩ := List.findIdx?_eq_some_iff_getElem.1 hk
    have er := mem_erase p hk'
    have hle : (s.left.eraseIdx k).length = s.left.length - 1 := by rw [List.length_eraseIdx_of_lt hk']
    have hpos : 0 < s.left.length := by omega
    rcases c with c | ⟨c, -⟩ | ⟨c, i, hi, hoth, hif, m, hm, hmi, hmr⟩
    · left; simp only [hle]; omega
    · left; simp only [hle]; omega
    · right; left
      have hki : s.left[k] = i := by
        apply Classical.byContradiction
        intro h
        rw [hoth _ (List.getElem_mem hk') h] at hfree
        cases hfree
      refine ⟨by simp only [hle]; omega, m, (er m).2 ⟨hm, by rw [hki]; exact hmi⟩, ?_⟩
      simp only
      unfold freeB
      have : readB w (s.left.eraseIdx k) m = false := by
        unfold readB
        rw [List.any_eq_false]
        intro x hx
        obtain ⟨hx1, hx2⟩ := (er x).1 hx
        rw [hki] at hx2
        simp [hmr x hx1 hx2]
      rw [this]; simp
  · rename_i hn
    have hno := List.findIdx?_eq_none_iff.1 hn
    obtain ⟨i, hi⟩ : ∃ i, s.left.headD 0 = i := ⟨_, rfl⟩
    have him : i ∈ s.left := by rw [← hi]; cases hs : s.left with | nil => exact absurd hs hl | cons a l => simp
    rw [hi]
    have hr : ∀ k ∈ s.left, readB w s.left k = true := fun k hk => by
      have := hno k hk
      unfold freeB at this
      simp only [Bool.or_eq_false_iff, Bool.not_eq_false'] at this
      exact this.2
    have hns : ∀ k ∈ s.left, (stAt w k).dst ∉ s.st := fun k hk h => by
      have := hno k hk
      rw [free_of_st h] at this; cases this
    have c0 : 2 * s.st.length + s.left.length ≤ w.length := by
      rcases c with c | ⟨-, m, hm, hf⟩ | ⟨-, i', hi', -, hf, -⟩
      · exact c
      · rw [hno m hm] at hf; cases hf
      · rw [hno i' hi'] at hf; cases hf
    obtain ⟨m, hm, hmi, hmr⟩ := one_reader him hnd (fun a ha b hb => hap a (p.bound a ha) b (p.bound b hb)) hr
    right; right
    refine ⟨by simp only [List.length_append, List.length_singleton]; omega, i, him, fun k hk hki => ?_, by simp [freeB], m, hm, hmi, hmr⟩
    unfold freeB
    simp only [Bool.or_eq_false_iff, decide_eq_false_iff_not, Bool.not_eq_false']
    refine ⟨fun h => ?_, hr k hk⟩
    rcases List.mem_append.1 h with h | h
    · exact hns k hk h
    · simp only [List.mem_singleton] at h
      exact hki (hap k (p.bound k hk) i (p.bound i him) h)
theorem phalf_end {w : List UStep} (hap : ∀ a, a < w.length → ∀ b, b < w.length → (stAt w a).dst = (stAt w b).dst → a = b) : ∀ (m : Nat) (s : PS), meas w s ≤ m → PInv w s → PCount w s → PHalf w s → ∃ s', PInv w s' ∧ PCount w s' ∧ PHalf w s' ∧ s'.left = [] ∧ plan w s = s'.mv
  | m, s, hm, p, r, c => by
    by_cases hl : s.left = []
    · exact ⟨s, p, r, c, hl, plan_done hl⟩
    · have hlt := planStep_lt (w := w) hl
      cases m with
      | zero => omega
      | succ m =>
        obtain ⟨s', h0, h1, h2, h3, h4⟩ := phalf_end hap m (planStep w s) (by omega) (pinv_step p hl) (pcount_step p r hl) (phalf_step p c hl hap)
        exact ⟨s', h0, h1, h2, h3, by rw [plan_next hl]; exact h4⟩
/-- A plan does each write once; its slots are counted up; it has at most half as many stashes as writes, and none if no block is made from another one. -/
theorem plan_has {w : List UStep} (hap : w.Pairwise (fun x y => x.dst ≠ y.dst)) : ∃ n : Nat, (∀ i, i < w.length → didN (planB w) i = 1) ∧ (stashes (planB w)).map (fun m => m.slot) = (List.range n).map (fun j : Nat => (j : Int)) ∧ (∀ m ∈ planB w, m.kind ≠ 1 → ∃ i : Nat, m.step = i ∧ i < w.length) ∧
    (n ≠ 0 → ∃ i, i < w.length ∧ ((stAt w i).kind = 3 ∨ (stAt w i).kind = 4)) ∧ 2 * n ≤ w.length ∧ (planB w).length = w.length + n := by
  have ha : ∀ a, a < w.length → ∀ b, b < w.length → (stAt w a).dst = (stAt w b).dst → a = b := fun a ha b hb e => by
    have h := List.pairwise_iff_getElem.1 hap
    rw [stAt_get ha, stAt_get hb] at e
    by_cases h1 : a < b
    · exact absurd e (h a b ha hb h1)
    · by_cases h2 : b < a
      · exact absurd e.symm (h b a hb ha h2)
      · omega
  obtain ⟨s, p, c, q, hl, e⟩ := phalf_end ha _ (ps0 w) (Nat.le_refl _) (pinv0 w) (pcount0 w) (.inl (by simp [ps0]))
  have e' : planB w = s.mv := e
  rw [e']
  refine ⟨s.st.length, fun i hi => by rw [c.did i hi, hl, if_neg (by simp)], c.num, c.step, fun h => c.frm (fun h' => h (by rw [h']; rfl)), ?_, ?_⟩
  · rcases q with q | ⟨-, m, hm, -⟩ | ⟨-, i, hi, -⟩
    · omega
    · rw [hl] at hm; simp at hm
    · rw [hl] at hi; simp at hi
  · have := p.mv
    rw [hl] at this
    simpa using this
end Go.Proofs.YtiokibikhanfcaaGreat
