/- A helper of this seat's claims (contracts of the functions): what it shows is shown for every input that its statements name, on no other condition. -/
import Derived.Test.YthjbhdmjfakfaaaGreatDoorMC11u
import Derived.Test.YthjbhdmjfakfaaaGreatDoorMC10t
import Derived.Test.YthjbhdmjfakfaaaGreatDoorKD
import Derived.Test.YthjbhdmjfakfaaaGreatDoorC10s
import Derived.Test.YthjbhdmjfakfaaaGreatDoorMC14y
import Derived.Test.YthjbhdmjfakfaaaGreatDoorC06c
import Derived.Test.YthjbhdmjfakfaaaGreatDoorC14b
set_option linter.unusedVariables false
set_option linter.unusedSimpArgs false
set_option maxRecDepth 100000
namespace Go.Proofs.YthjbhdmjfakfaaaGreatDoor
open Go.KH

end Go.Proofs.YthjbhdmjfakfaaaGreatDoor
namespace Go.Proofs.YthjbhdmjfakfaaaGreatDoor
open Go.KH

theorem right_of {m : UMach} (h : rightOut m = true) : ∃ s, stM m = some s ∧ machFit m ∧ stateOk s ∧ imageOk (baseOf m) ∧ soundM m s := by
 unfold rightOut at h
 cases hs : stM m with
 | none => rw [hs] at h; cases h
 | some s =>
  rw [hs] at h
  simp only [decide_eq_true_eq] at h
  exact ⟨s, rfl, (stM_ok hs).1, (stM_ok hs).2, h.1, h.2⟩
end Go.Proofs.YthjbhdmjfakfaaaGreatDoor
namespace Go.Proofs.YthjbhdmjfakfaaaGreatDoor
open Go.KH

structure Runs (w : List UStep) (n : Nat) : Prop where
 dst : ∀ s ∈ w, 0 ≤ s.dst ∧ s.dst < n ∧ s.dst ≤ 7
 src : ∀ s ∈ w, 0 ≤ s.src
 kind : ∀ s ∈ w, 1 ≤ s.kind ∧ s.kind ≤ 4
 apart : w.Pairwise (fun x y => x.dst ≠ y.dst)
theorem Runs.ne {w : List UStep} {n i j : Nat} (r : Runs w n) (hi : i < w.length) (hj : j < w.length) (h : i ≠ j) : (stAt w i).dst ≠ (stAt w j).dst := by
 have := List.pairwise_iff_getElem.1 r.apart
 rw [stAt_get hi, stAt_get hj]
 by_cases hl : i < j
 ·exact this i j hi hj hl
 ·exact fun e => this j i hj hi (by omega) e.symm
end Go.Proofs.YthjbhdmjfakfaaaGreatDoor
namespace Go.Proofs.YthjbhdmjfakfaaaGreatDoor
open Go.KH

theorem runs_of {im : List (List UInt8)} {l : List UStep} (hi : imageOk im) (ht : ¬ twice l) (hs : ∀ s ∈ l, stepOk s im.length) : Runs (l.filter isW) im.length ∧ ∀ s ∈ l.filter isW, s.src < im.length ∧ makeOk s (at8 im s.src) := by
 have h0 : ∀ s ∈ l.filter isW, stepOk s im.length ∧ s.kind ≠ 5 := fun s h => by
  rw [List.mem_filter] at h
  exact ⟨hs s h.1, by simpa [isW] using h.2⟩
 have hi1 := hi.1
 refine ⟨⟨fun s h => ?_, fun s h => ?_, fun s h => ?_, writes_apart ht⟩, fun s h => ?_⟩
 ·obtain ⟨⟨h1, h2, h3, h4⟩, h5⟩ := h0 s h
  rw [if_neg h5] at h2
  omega
 ·obtain ⟨⟨h1, h2, h3, h4⟩, h5⟩ := h0 s h
  rw [if_neg h5] at h3
  split at h3 <;> omega
 ·obtain ⟨⟨h1, h2, h3, h4⟩, h5⟩ := h0 s h
  omega
 ·obtain ⟨h1, h5⟩ := h0 s h
  obtain ⟨-, ⟨s1, s2⟩, hmk⟩ := step_in hi h1 h5
  exact ⟨by omega, hmk⟩
end Go.Proofs.YthjbhdmjfakfaaaGreatDoor
namespace Go.Proofs.YthjbhdmjfakfaaaGreatDoor
open Go.KH

def didN (mv : List UMove) (i : Nat) : Nat := (mv.filter fun m : UMove => !decide (m.kind = 1) && decide (m.step = (i : Int))).length
def stashes (mv : List UMove) : List UMove := mv.filter fun m => decide (m.kind = 1)
structure PCount (w : List UStep) (s : PS) : Prop where
 did : ∀ i, i < w.length → didN s.mv i = if i ∈ s.left then 0 else 1
 num : (stashes s.mv).map (fun m => m.slot) = (List.range s.st.length).map fun j : Nat => (j : Int)
 step : ∀ m ∈ s.mv, m.kind ≠ 1 → ∃ i : Nat, m.step = i ∧ i < w.length
 frm : s.st ≠ [] → ∃ i, i < w.length ∧ ((stAt w i).kind = 3 ∨ (stAt w i).kind = 4)
theorem didN_app (mv : List UMove) (m : UMove) (i : Nat) : didN (mv ++ [m]) i = didN mv i + if ¬ m.kind = 1 ∧ m.step = (i : Int) then 1 else 0 := by
 unfold didN
 rw [List.filter_append, List.length_append]
 congr 1
 by_cases h1 : m.kind = 1 <;> by_cases h2 : m.step = (i : Int) <;> simp [h1, h2]
theorem stashes_app (mv : List UMove) (m : UMove) : stashes (mv ++ [m]) = stashes mv ++ if m.kind = 1 then [m] else [] := by
 unfold stashes
 rw [List.filter_append]
 by_cases h1 : m.kind = 1 <;> simp [h1]
theorem pcount0 (w : List UStep) : PCount w (ps0 w) where
 did i hi := by simp [ps0, didN, hi]
 num := rfl
 step m hm := by simp [ps0] at hm
 frm h := absurd rfl h
theorem pcount_step {w : List UStep} {s : PS} (p : PInv w s) (c : PCount w s) (hl : s.left ≠ []) : PCount w (planStep w s) := by
 unfold planStep
 split
 ·rename_i k hk
  obtain ⟨hk', -, -⟩ := List.findIdx?_eq_some_iff_getElem.1 hk
  have er := mem_erase p hk'
  have hk2 : s.left[k]?.getD 0 = s.left[k] := by rw [List.getElem?_eq_getElem hk']; rfl
  rw [hk2]
  obtain ⟨i, hi⟩ : ∃ i, s.left[k] = i := ⟨_, rfl⟩
  have him : i ∈ s.left := by rw [← hi]; exact List.getElem_mem hk'
  rw [hi] at er ⊢
  constructor
  ·intro j hj
   simp only
   rw [didN_app, c.did j hj]
   by_cases e : j = i
   ·subst e
    simp [him, show ¬ j ∈ s.left.eraseIdx k from fun h => ((er j).1 h).2 rfl]
   ·have e' : ¬ (i : Int) = (j : Int) := by omega
    have em : (j ∈ s.left.eraseIdx k) = (j ∈ s.left) := propext ⟨fun h => ((er j).1 h).1, fun h => (er j).2 ⟨h, e⟩⟩
    simp [e', em]
  ·simp only
   rw [stashes_app, if_neg (by simp), List.append_nil]
   exact c.num
  ·intro m hm h1
   simp only [List.mem_append, List.mem_singleton] at hm
   rcases hm with hm | rfl
   ·exact c.step m hm h1
   ·exact ⟨i, rfl, p.bound i him⟩
  ·exact c.frm
 ·rename_i hn
  obtain ⟨i, hi⟩ : ∃ i, s.left.headD 0 = i := ⟨_, rfl⟩
  have him : i ∈ s.left := by rw [← hi]; cases hs : s.left with | nil => exact absurd hs hl | cons a l => simp
  rw [hi]
  constructor
  ·intro j hj
   simp only
   rw [didN_app, c.did j hj]
   simp
  ·simp only
   rw [stashes_app, if_pos rfl, List.map_append, c.num, List.length_append, List.length_singleton, List.range_succ, List.map_append]
   rfl
  ·intro m hm h1
   simp only [List.mem_append, List.mem_singleton] at hm
   rcases hm with hm | rfl
   ·exact c.step m hm h1
   ·exact absurd rfl h1
  ·intro _
   have hb := (List.findIdx?_eq_none_iff.1 hn) i him
   unfold freeB at hb
   simp only [Bool.or_eq_false_iff, Bool.not_eq_false'] at hb
   have hr := hb.2
   unfold readB at hr
   rw [List.any_eq_true] at hr
   obtain ⟨k, hk, hkr⟩ := hr
   simp only [Bool.and_eq_true, readsB, decide_eq_true_eq] at hkr
   exact ⟨k, p.bound k hk, hkr.2.1⟩
theorem nodup_sub : ∀ (l m : List Nat), l.Nodup → (∀ x ∈ l, x ∈ m) → l.length ≤ m.length
 | [], m, _, _ => Nat.zero_le _
 | a :: l, m, hd, hs => by
  obtain ⟨h1, h2⟩ := List.nodup_cons.1 hd
  have ha := hs a (List.mem_cons_self ..)
  have ih := nodup_sub l (m.erase a) h2 (fun x hx => (List.mem_erase_of_ne (fun e => by subst e; exact h1 hx)).2 (hs x (List.mem_cons_of_mem _ hx)))
  rw [List.length_erase_of_mem ha] at ih
  have := List.length_pos_of_mem ha
  simp only [List.length_cons]
  omega
def PHalf (w : List UStep) (s : PS) : Prop :=
 (2 * s.st.length + s.left.length ≤ w.length) ∨
 (2 * s.st.length + s.left.length ≤ w.length + 1 ∧ ∃ m ∈ s.left, freeB w s.left s.st m = true) ∨
 (2 * s.st.length + s.left.length ≤ w.length + 2 ∧ ∃ i ∈ s.left, (∀ k ∈ s.left, k ≠ i → freeB w s.left s.st k = false) ∧ freeB w s.left s.st i = true ∧ ∃ m ∈ s.left, m ≠ i ∧ ∀ k ∈ s.left, k ≠ i → readsB (stAt w k) (stAt w m).dst = false)
theorem one_reader {w : List UStep} {left : List Nat} {i : Nat} (hi : i ∈ left) (hn : left.Nodup) (hne : ∀ a ∈ left, ∀ b ∈ left, (stAt w a).dst = (stAt w b).dst → a = b) (hb : ∀ k ∈ left, readB w left k = true) :
  ∃ m ∈ left, m ≠ i ∧ ∀ k ∈ left, k ≠ i → readsB (stAt w k) (stAt w m).dst = false := by
 apply Classical.byContradiction
 intro hno
 have hrd : ∀ m ∈ left, ∃ k ∈ left, k ≠ i ∧ readsB (stAt w k) (stAt w m).dst = true := by
  intro m hm
  by_cases e : m = i
  ·have h := hb m hm
   unfold readB at h
   rw [List.any_eq_true] at h
   obtain ⟨k, hk, hkr⟩ := h
   simp only [Bool.and_eq_true, decide_eq_true_eq] at hkr
   exact ⟨k, hk, by rw [← e]; exact hkr.1, hkr.2⟩
  ·apply Classical.byContradiction
   intro h
   refine hno ⟨m, hm, e, fun k hk hki => ?_⟩
   cases hr : readsB (stAt w k) (stAt w m).dst with
   | false => rfl
   | true => exact absurd ⟨k, hk, hki, hr⟩ h
 have hc : ∃ f : Nat → Nat, ∀ m ∈ left, f m ∈ left ∧ f m ≠ i ∧ readsB (stAt w (f m)) (stAt w m).dst = true := by
  refine ⟨fun m => if h : m ∈ left then Classical.choose (hrd m h) else 0, fun m hm => ?_⟩
  simp only [hm, dif_pos]
  have := Classical.choose_spec (hrd m hm)
  exact ⟨this.1, this.2.1, this.2.2⟩
 obtain ⟨f, hf⟩ := hc
 have hnd : (left.map f).Nodup := by
  rw [List.nodup_iff_pairwise_ne, List.pairwise_map]
  refine (List.nodup_iff_pairwise_ne.1 hn).imp_of_mem ?_
  intro a b ha hb' hab e
  have h1 := (hf a ha).2.2
  have h2 := (hf b hb').2.2
  rw [e] at h1
  simp only [readsB, decide_eq_true_eq] at h1 h2
  exact hab (hne a ha b hb' (by rw [← h1.2, h2.2]))
 have hsub := nodup_sub (left.map f) (left.erase i) hnd (fun x hx => by
  obtain ⟨a, ha, rfl⟩ := List.mem_map.1 hx
  exact (List.mem_erase_of_ne (hf a ha).2.1).2 (hf a ha).1)
 rw [List.length_map, List.length_erase_of_mem hi] at hsub
 have := List.length_pos_of_mem hi
 omega
theorem phalf_step {w : List UStep} {s : PS} (p : PInv w s) (c : PHalf w s) (hl : s.left ≠ []) (hap : ∀ a, a < w.length → ∀ b, b < w.length → (stAt w a).dst = (stAt w b).dst → a = b) : PHalf w (planStep w s) := by
 have hnd : s.left.Nodup := List.nodup_iff_pairwise_ne.2 (p.sorted.imp fun h => by omega)
 unfold planStep
 split
 ·rename_i k hk
  obtain ⟨hk', hfree, -⟩ := List.findIdx?_eq_some_iff_getElem.1 hk
  have er := mem_erase p hk'
  have hle : (s.left.eraseIdx k).length = s.left.length - 1 := by rw [List.length_eraseIdx_of_lt hk']
  have hpos : 0 < s.left.length := by omega
  rcases c with c | ⟨c, -⟩ | ⟨c, i, hi, hoth, hif, m, hm, hmi, hmr⟩
  ·left; simp only [hle]; omega
  ·left; simp only [hle]; omega
  ·right; left
   have hki : s.left[k] = i := by
    apply Classical.byContradiction
    intro h
    rw [hoth _ (List.getElem_mem hk') h] at hfree
    cases hfree
   refine ⟨by simp only [hle]; omega, m, (er m).2 ⟨hm, by rw [hki]; exact hmi⟩, ?_⟩
   simp only
   unfold freeB
   have : readB w (s.left.eraseIdx k) m = false := by
    unfold readB
    rw [List.any_eq_false]
    intro x hx
    obtain ⟨hx1, hx2⟩ := (er x).1 hx
    rw [hki] at hx2
    simp [hmr x hx1 hx2]
   rw [this]; simp
 ·rename_i hn
  have hno := List.findIdx?_eq_none_iff.1 hn
  obtain ⟨i, hi⟩ : ∃ i, s.left.headD 0 = i := ⟨_, rfl⟩
  have him : i ∈ s.left := by rw [← hi]; cases hs : s.left with | nil => exact absurd hs hl | cons a l => simp
  rw [hi]
  have hr : ∀ k ∈ s.left, readB w s.left k = true := fun k hk => by
   have := hno k hk
   unfold freeB at this
   simp only [Bool.or_eq_false_iff, Bool.not_eq_false'] at this
   exact this.2
  have hns : ∀ k ∈ s.left, (stAt w k).dst ∉ s.st := fun k hk h => by
   have := hno k hk
   rw [free_of_st h] at this; cases this
  have c0 : 2 * s.st.length + s.left.length ≤ w.length := by
   rcases c with c | ⟨-, m, hm, hf⟩ | ⟨-, i', hi', -, hf, -⟩
   ·exact c
   ·rw [hno m hm] at hf; cases hf
   ·rw [hno i' hi'] at hf; cases hf
  obtain ⟨m, hm, hmi, hmr⟩ := one_reader him hnd (fun a ha b hb => hap a (p.bound a ha) b (p.bound b hb)) hr
  right; right
  refine ⟨by simp only [List.length_append, List.length_singleton]; omega, i, him, fun k hk hki => ?_, by simp [freeB], m, hm, hmi, hmr⟩
  unfold freeB
  simp only [Bool.or_eq_false_iff, decide_eq_false_iff_not, Bool.not_eq_false']
  refine ⟨fun h => ?_, hr k hk⟩
  rcases List.mem_append.1 h with h | h
  ·exact hns k hk h
  ·simp only [List.mem_singleton] at h
   exact hki (hap k (p.bound k hk) i (p.bound i him) h)
theorem phalf_end {w : List UStep} (hap : ∀ a, a < w.length → ∀ b, b < w.length → (stAt w a).dst = (stAt w b).dst → a = b) : ∀ (m : Nat) (s : PS), meas w s ≤ m → PInv w s → PCount w s → PHalf w s → ∃ s', PInv w s' ∧ PCount w s' ∧ PHalf w s' ∧ s'.left = [] ∧ plan w s = s'.mv
 | m, s, hm, p, r, c => by
  by_cases hl : s.left = []
  ·exact ⟨s, p, r, c, hl, plan_done hl⟩
  ·have hlt := planStep_lt (w := w) hl
   cases m with
   | zero => omega
   | succ m =>
    obtain ⟨s', h0, h1, h2, h3, h4⟩ := phalf_end hap m (planStep w s) (by omega) (pinv_step p hl) (pcount_step p r hl) (phalf_step p c hl hap)
    exact ⟨s', h0, h1, h2, h3, by rw [plan_next hl]; exact h4⟩
theorem plan_has {w : List UStep} (hap : w.Pairwise (fun x y => x.dst ≠ y.dst)) : ∃ n : Nat, (∀ i, i < w.length → didN (planB w) i = 1) ∧ (stashes (planB w)).map (fun m => m.slot) = (List.range n).map (fun j : Nat => (j : Int)) ∧ (∀ m ∈ planB w, m.kind ≠ 1 → ∃ i : Nat, m.step = i ∧ i < w.length) ∧
  (n ≠ 0 → ∃ i, i < w.length ∧ ((stAt w i).kind = 3 ∨ (stAt w i).kind = 4)) ∧ 2 * n ≤ w.length ∧ (planB w).length = w.length + n := by
 have ha : ∀ a, a < w.length → ∀ b, b < w.length → (stAt w a).dst = (stAt w b).dst → a = b := fun a ha b hb e => by
  have h := List.pairwise_iff_getElem.1 hap
  rw [stAt_get ha, stAt_get hb] at e
  by_cases h1 : a < b
  ·exact absurd e (h a b ha hb h1)
  ·by_cases h2 : b < a
   ·exact absurd e.symm (h b a hb ha h2)
   ·omega
 obtain ⟨s, p, c, q, hl, e⟩ := phalf_end ha _ (ps0 w) (Nat.le_refl _) (pinv0 w) (pcount0 w) (.inl (by simp [ps0]))
 have e' : planB w = s.mv := e
 rw [e']
 refine ⟨s.st.length, fun i hi => by rw [c.did i hi, hl, if_neg (by simp)], c.num, c.step, fun h => c.frm (fun h' => h (by rw [h']; rfl)), ?_, ?_⟩
 ·rcases q with q | ⟨-, m, hm, -⟩ | ⟨-, i, hi, -⟩
  ·omega
  ·rw [hl] at hm; simp at hm
  ·rw [hl] at hi; simp at hi
 ·have := p.mv
  rw [hl] at this
  simpa using this
end Go.Proofs.YthjbhdmjfakfaaaGreatDoor
namespace Go.KH

def setIf {α β : Type} (P : α → Bool) (κ : α → Nat) (μ : α → β) (im : List β) (x : α) : List β := if P x then im.set (κ x) (μ x) else im
theorem setIf_len {α β : Type} (P : α → Bool) (κ : α → Nat) (μ : α → β) : ∀ (l : List α) (im : List β), (l.foldl (setIf P κ μ) im).length = im.length
 | [], _ => rfl
 | x :: l, im => by rw [List.foldl_cons, setIf_len]; unfold setIf; split <;> simp
end Go.KH
namespace Go.Proofs.YthjbhdmjfakfaaaGreatDoor
open Go.KH

noncomputable def slotM (m : UMach) (s : UState) (b : Int) : Int := source ((movesM m s).take s.done.toNat) b
noncomputable def srcM (m : UMach) (s : UState) (x : UStep) : List UInt8 := if x.kind = 3 ∨ x.kind = 4 then (if 0 ≤ slotM m s x.src then areaOf m (s.mine.getD (slotM m s x.src).toNat 0) else flashGet m.flash (3 + x.src)) else []
noncomputable def madeM (m : UMach) (s : UState) (x : UStep) : List UInt8 := if x.kind = 4 ∧ (srcM m s x).length ≠ 8 then [] else makeB x (srcM m s x)
structure Fold (m : UMach) (s : UState) : Prop where
 fit : machFit m
 ok : stateOk s
 img : imageOk (baseOf m)
 code : codeOf (logOf m s) m.blocks = 0
 room : slots (movesM m s) ≤ s.stash
 done : s.done ≤ (movesM m s).length
theorem Fold.of {m : UMach} {s : UState} (hf : machFit m) (hok : stateOk s) (hi : imageOk (baseOf m)) (hs : soundM m s) (p : 2 < s.phase) : Fold m s := by
 rcases hs with h | ⟨h1, h2, h3⟩
 ·omega
 ·exact ⟨hf, hok, hi, h1, h2, h3⟩
abbrev wrM (m : UMach) (s : UState) : List UStep := (logOf m s).filter isW
theorem Fold.runs {m : UMach} {s : UState} (f : Fold m s) : Runs (wrM m s) (baseOf m).length ∧ ∀ x ∈ wrM m s, x.src < (baseOf m).length ∧ makeOk x (at8 (baseOf m) x.src) := by
 have hl := (baseOf_len f.fit).2
 obtain ⟨h1, h2, _⟩ := code_zero f.code
 exact runs_of f.img h2 (fun x hx => by rw [hl]; exact h1.2.2 x hx)
theorem source_mem {l : List UMove} {b : Int} (h : 0 ≤ source l b) : ∃ m ∈ l, m.kind = 1 ∧ source l b = m.slot := by
 unfold source at h ⊢
 cases hf : l.find? (isStash b) with
 | none => rw [hf] at h; simp at h
 | some m =>
  have h1 := List.mem_of_find?_eq_some hf
  have h2 := List.find?_some hf
  simp only [isStash, decide_eq_true_eq] at h2
  exact ⟨m, h1, h2.1, rfl⟩
theorem Fold.slot {m : UMach} {s : UState} (f : Fold m s) {b : Int} (h : 0 ≤ slotM m s b) : (slotM m s b).toNat < s.mine.length ∧ ((slotM m s b).toNat : Int) = slotM m s b := by
 obtain ⟨x, hx, hk, he⟩ := source_mem h
 have hx := List.mem_of_mem_take hx
 obtain ⟨n, _, h2, _⟩ := plan_has (f.runs.1.apart)
 have h2 : (stashes (movesM m s)).map (fun m => m.slot) = (List.range n).map (fun j : Nat => (j : Int)) := h2
 have h3 := congrArg List.length h2
 simp only [List.length_map, List.length_range] at h3
 have h4 : slots (movesM m s) = n := by rw [← h3]; rfl
 have h5 : x.slot ∈ (stashes (movesM m s)).map (fun m => m.slot) := List.mem_map.2 ⟨x, List.mem_filter.2 ⟨hx, by simpa using hk⟩, rfl⟩
 rw [h2] at h5
 obtain ⟨j, hj, hj2⟩ := List.mem_map.1 h5
 have hj := List.mem_range.1 hj
 have h6 := f.room
 have h7 := (stateOk_log f.ok).1
 have he : slotM m s b = x.slot := he
 omega
theorem Fold.x {m : UMach} {s : UState} (f : Fold m s) {x : UStep} (hx : x ∈ wrM m s) : (1 ≤ x.kind ∧ x.kind ≤ 4) ∧ (0 ≤ x.src ∧ x.src < m.blocks) ∧ (0 ≤ x.dst ∧ x.dst < m.blocks) ∧ (x.kind = 4 → x.data.length = 8) := by
 have hl := (baseOf_len f.fit).2
 obtain ⟨r, q⟩ := f.runs
 have h1 := r.dst x hx
 have h2 := r.src x hx
 have h3 := r.kind x hx
 have h4 := q x hx
 exact ⟨h3, by omega, by omega, fun h => (h4.2.2 h).1⟩
def b_impl_Machine_made : C := (jo [⟨(some 4), none, .box (.t 0)⟩, ⟨(some 5), none, .box (.t 1)⟩, ⟨(some 7), none, .box (.t 3)⟩, q 8 (.mv (.c (str [])))]
 (jo [q 9 (.mv (.c (str [])))]
 (.seq (jo [jf 11 0 7, jl 12 11, jk 13 .eql 12 3, jm 14 13, qg 15 14 false (.fld 0 (.t 7)), qg 16 14 false (.ld false 1 (.t 15)), qg 17 14 false (.bin .eql (.t 16) (.c (i64 4))), q 18 (.pick (.t 14) (.c (.bool true)) (.t 17))]
 (.cond (.t 18) (jo [jf 19 1 4, jd 20 2 19, jf 21 2 7, jl 22 21, q 23 (.bin .add (.c (i64 3)) (.t 22)), jc 24 166 [(.t 20), (.t 23)], jm 9 24]
 (jo [jm 25 2, jf 26 4 5, jl 27 26, jf 28 2 7, jl 29 28, jc 30 217 [(.t 25), (.t 27), (.t 29)], jm 10 30]
 (jo [jm 31 10, jk 32 .geq 31 0]
 (.cond (.t 32) (.dops true (.tk (jd 33 3 4) (.tk (jf 34 7 5) (.tk (jl 35 34) (.tk (jm 36 10) (.tk (q 37 (.idx 1 (.t 35) (.t 36))) (.tk (jl 38 37) (.sq (jc 39 163 [(.t 33), (.t 38)]) (.tk (jm 9 39) .nil))))))))) .skip)))) .skip))
 (.seq (jo [jf 40 0 7, jl 41 40, jk 42 .eql 41 4, jm 43 42, qg 44 43 true (.mv (.t 9)), qg 45 43 true (.slen (.t 44)), qg 46 43 true (.bin .neq (.t 45) (.c (i64 8))), q 47 (.pick (.t 43) (.t 46) (.c (.bool false)))]
 (.cond (.t 47) (jo [q 8 (.mv (.c (str [])))]
 .ret) .skip))
 (jo [jd 48 4 7, jm 49 9, jc 50 126 [(.t 48), (.t 49)], jm 8 50]
 .ret)))))
theorem w_impl_Machine_made : Wk Tryz.prog 160 51 [.tmp 8] b_impl_Machine_made := Wk.of mixedOrders Tryz.func160 (by kernel_rfl) (by kernel_rfl)

set_option maxHeartbeats 1600000 in
theorem made_pc {h : H} {cs c2 : List Value} {vm : Value} {m : UMach} {s : UState} {x : UStep} (hv : RepR h (spMach m) cs) (hst : StR h c2 s) (f : Fold m s) (hm : Sl h vm 4 ((movesM m s).map UMove.cells)) (hx : x ∈ wrM m s) : PC Tryz.prog 160 [.agg cs.toArray, .agg c2.toArray, vm, .agg x.cells.toArray] h (str (madeM m s x)) := by
 obtain ⟨hk, hsr, hds, h8⟩ := f.x hx
 have hv0 := hv
 have hf := f.fit
 have hdn := ok_done f.ok
 have hd := flashOk_small hf.2.1
 have h27 := hf.2.2
 have hb := hf.1
 have hdl := f.done
 have h28 := moves_28 f.code
 have hls := fun (q : 0 ≤ slotM m s x.src) => f.slot q
 have hmm := (stateOk_log f.ok).2.2.2
 obtain ⟨vs, vd, rfl, fr⟩ := mach_r.1 hv
 have o4 := fr.1.one
 have o5 := fr.2.one
 have c4 : vcl vs = [vs] := fr.1.vcl
 have c5 : vcl vd = [vd] := fr.2.vcl
 obtain ⟨uh, um, rfl, sh, sm⟩ := hst
 have o6 := sh.vcl
 have o7 := sm.vcl
 have o8 := sh.one
 have o9 := sm.one
 have l2 : (ints s.mine).length = s.mine.length := by simp
 have hsh := sm.shape
 rw [l2] at hsh
 obtain ⟨am, cm, rfl⟩ := hsh
 refine PC_of ?_
 unfold madeM
 skip
 obtain ⟨kind, dst, src, data⟩ := x
 simp only at hk hsr hds h8 hls
 refine w_impl_Machine_made (by simp) ?_
 unfold b_impl_Machine_made
 refine wpc_cut2 (fun f1 h1 => ∃ b4 b5 b7, f1 4 = ptr b4 0 ∧ f1 5 = ptr b5 0 ∧ f1 7 = ptr b7 0 ∧ f1 2 = vm ∧ f1 9 = str [] ∧ h1.get b4 = some ⟨[i64 m.blocks, vs, vd], 3⟩ ∧ h1.get b5 = some ⟨s.cells uh (.slice am s.mine.length cm), 8⟩ ∧ h1.get b7 = some ⟨[i64 kind, i64 dst, i64 src, str data], 4⟩ ∧ Ext h h1) ?_ ?_
 ·simp -implicitDefEqProofs only [go_sem, o4, o5, c4, c5, o6, o7, o8, o9]
  intro b4 hb_b4 n_b4
  simp -implicitDefEqProofs only [go_sem, o4, o5, c4, c5, o6, o7, o8, o9, hb_b4]
  intro b5 hb_b5 m0_b5
  obtain ⟨z_b5_b4, y_b5_b4, n_b5⟩ := fne m0_b5
  simp only [H.set_base] at hb_b5
  simp -implicitDefEqProofs only [go_sem, o4, o5, c4, c5, o6, o7, o8, o9, hb_b4, hb_b5, z_b5_b4, y_b5_b4]
  intro b7 hb_b7 m0_b7
  obtain ⟨z_b7_b5, y_b7_b5, m1_b7⟩ := fne m0_b7
  obtain ⟨z_b7_b4, y_b7_b4, n_b7⟩ := fne m1_b7
  simp only [H.set_base] at hb_b7
  simp -implicitDefEqProofs only [go_sem, o4, o5, c4, c5, o6, o7, o8, o9, hb_b4, hb_b5, z_b5_b4, y_b5_b4, hb_b7, z_b7_b5, y_b7_b5, z_b7_b4, y_b7_b4]
  exact ⟨b4, b5, b7, rfl, rfl, rfl, by simp -implicitDefEqProofs only [go_sem, o4, o5, c4, c5, o6, o7, o8, o9, hb_b4, hb_b5, z_b5_b4, y_b5_b4, hb_b7, z_b7_b5, y_b7_b5, z_b7_b4, y_b7_b4], by simp -implicitDefEqProofs only [go_sem, o4, o5, c4, c5, o6, o7, o8, o9, hb_b4, hb_b5, z_b5_b4, y_b5_b4, hb_b7, z_b7_b5, y_b7_b5, z_b7_b4, y_b7_b4], by simp -implicitDefEqProofs only [go_sem, o4, o5, c4, c5, o6, o7, o8, o9, hb_b4, hb_b5, z_b5_b4, y_b5_b4, hb_b7, z_b7_b5, y_b7_b5, z_b7_b4, y_b7_b4], ((((Ext.refl _).set' n_b4 _).set' n_b5 _).set' n_b7 _)⟩
 skip
 rintro f1 h1 ⟨b4, b5, b7, q4, q5, q7, q2, q9, g4, g5, g7, E1⟩
 have sp : PC Tryz.prog 217 [vm, i64 s.done, i64 src] h1 (i64 (slotM m s src)) := by
  have := sourceOf_pc (hm.ext E1) (d := s.done.toNat) (block := src) (by omega) (by omega)
  rwa [show ((s.done.toNat : Nat) : Int) = s.done by omega] at this
 refine wpc_cut (fun f2 h2 => h2 = h1 ∧ f2 7 = ptr b7 0 ∧ f2 9 = str (srcM m s ⟨kind, dst, src, data⟩)) ?_ ?_
 ·unfold srcM
  simp only
  by_cases h34 : kind = 3 ∨ kind = 4
  rotate_left
  ·rw [if_neg h34]
   simp -implicitDefEqProofs only [go_sem, q4, q5, q7, q9, ldc_get g7, eq_false (fun h => h34 (.inl h) : ¬ kind = 3), eq_false (fun h => h34 (.inr h) : ¬ kind = 4), o4, o5, c4, c5, o6, o7, o8, o9]
  rw [if_pos h34]
  have body : ∀ hc : kind = 3 ∨ kind = 4, True := fun _ => trivial
  rcases h34 with h3 | h4
  ·simp -implicitDefEqProofs only [go_sem, q4, q5, q7, q9, ldc_get g7, eq_true h3, ldc_get g4, wrap_i64 (show -(9223372036854775808 : Int) ≤ (3 + src) by omega) (show (3 + src) < 9223372036854775808 by omega), o4, o5, c4, c5, o6, o7, o8, o9]
   refine (read_pc (fr.ext E1) (by omega) (by omega)).use ?_
   simp -implicitDefEqProofs only [go_sem, q2, q4, q5, q7, q9, ldc_get g7, ldc_get g5, o4, o5, c4, c5, o6, o7, o8, o9]
   refine sp.use ?_
   by_cases hsl : 0 ≤ slotM m s src
   rotate_left
   ·rw [if_neg hsl]
    simp -implicitDefEqProofs only [go_sem, hsl, q7, o4, o5, c4, c5, o6, o7, o8, o9]
   rw [if_pos hsl]
   obtain ⟨w1, w2⟩ := hls hsl
   obtain ⟨_, _, b, o, e, hcap, r2, r3⟩ := (sm.ext E1)
   simp only [Value.slice.injEq, List.length_map] at e r2
   have d1 := r3 (slotM m s src).toNat [i64 (s.mine.getD (slotM m s src).toNat 0)] (by simp [List.getD_eq_getElem?_getD, w1])
   have hx := hmm _ (List.getElem_mem w1)
   simp -implicitDefEqProofs only [go_sem, hsl, q4, q5, q7, ldc_get g4, ldc_get g5, r2, d1, w1, Int.ofNat_lt, show slotM m s src < (s.mine.length : Int) by omega, o4, o5, c4, c5, o6, o7, o8, o9]
   refine (area_pc (hv0.ext E1) hf (by rw [List.getD_eq_getElem?_getD, List.getElem?_eq_getElem w1]; exact hx)).use ?_
   simp -implicitDefEqProofs only [go_sem, Sub.refl, q7, o4, o5, c4, c5, o6, o7, o8, o9]
  ·simp -implicitDefEqProofs only [go_sem, q4, q5, q7, q9, ldc_get g7, eq_false (show ¬ kind = 3 by omega), eq_true h4, ldc_get g4, wrap_i64 (show -(9223372036854775808 : Int) ≤ (3 + src) by omega) (show (3 + src) < 9223372036854775808 by omega), o4, o5, c4, c5, o6, o7, o8, o9]
   refine (read_pc (fr.ext E1) (by omega) (by omega)).use ?_
   simp -implicitDefEqProofs only [go_sem, q2, q4, q5, q7, q9, ldc_get g7, ldc_get g5, o4, o5, c4, c5, o6, o7, o8, o9]
   refine sp.use ?_
   by_cases hsl : 0 ≤ slotM m s src
   rotate_left
   ·rw [if_neg hsl]
    simp -implicitDefEqProofs only [go_sem, hsl, q7, o4, o5, c4, c5, o6, o7, o8, o9]
   rw [if_pos hsl]
   obtain ⟨w1, w2⟩ := hls hsl
   obtain ⟨_, _, b, o, e, hcap, r2, r3⟩ := (sm.ext E1)
   simp only [Value.slice.injEq, List.length_map] at e r2
   have d1 := r3 (slotM m s src).toNat [i64 (s.mine.getD (slotM m s src).toNat 0)] (by simp [List.getD_eq_getElem?_getD, w1])
   have hx := hmm _ (List.getElem_mem w1)
   simp -implicitDefEqProofs only [go_sem, hsl, q4, q5, q7, ldc_get g4, ldc_get g5, r2, d1, w1, Int.ofNat_lt, show slotM m s src < (s.mine.length : Int) by omega, o4, o5, c4, c5, o6, o7, o8, o9]
   refine (area_pc (hv0.ext E1) hf (by rw [List.getD_eq_getElem?_getD, List.getElem?_eq_getElem w1]; exact hx)).use ?_
   simp -implicitDefEqProofs only [go_sem, Sub.refl, q7, o4, o5, c4, c5, o6, o7, o8, o9]
 rintro f2 h2 ⟨rfl, r7, r9⟩
 have hmk : ¬ (kind = 4 ∧ (srcM m s ⟨kind, dst, src, data⟩).length ≠ 8) → makeOk ⟨kind, dst, src, data⟩ (srcM m s ⟨kind, dst, src, data⟩) := fun hn => ⟨hk, fun h => ⟨h8 h, Classical.byContradiction fun h' => hn ⟨h, h'⟩⟩⟩
 by_cases hc : kind = 4 ∧ (srcM m s ⟨kind, dst, src, data⟩).length ≠ 8
 ·rw [if_pos hc]
  simp -implicitDefEqProofs only [go_sem, r7, r9, ldc_get g7, eq_true hc.1, show ¬ (((srcM m s ⟨kind, dst, src, data⟩).length : Int) = 8) by omega, o4, o5, c4, c5, o6, o7, o8, o9]
  exact E1
 rw [if_neg hc]
 by_cases h4 : kind = 4
 ·have hl : (srcM m s ⟨kind, dst, src, data⟩).length = 8 := Classical.byContradiction fun h' => hc ⟨h4, h'⟩
  simp -implicitDefEqProofs only [go_sem, r7, r9, ldc_get g7, eq_true h4, eq_true (show ((srcM m s ⟨kind, dst, src, data⟩).length : Int) = 8 by omega), o4, o5, c4, c5, o6, o7, o8, o9]
  refine (madeBy_pc _ ⟨kind, dst, src, data⟩ (hmk hc)).use ?_
  simp -implicitDefEqProofs only [go_sem, o4, o5, c4, c5, o6, o7, o8, o9]
  exact E1
 ·simp -implicitDefEqProofs only [go_sem, r7, r9, ldc_get g7, eq_false h4, o4, o5, c4, c5, o6, o7, o8, o9]
  refine (madeBy_pc _ ⟨kind, dst, src, data⟩ (hmk hc)).use ?_
  simp -implicitDefEqProofs only [go_sem, o4, o5, c4, c5, o6, o7, o8, o9]
  exact E1
end Go.Proofs.YthjbhdmjfakfaaaGreatDoor