/- A helper of this seat's claims (contracts of the functions): what it shows is shown for every input that its statements name, on no other condition. -/
import Derived.Test.YthheclnjaemjnaaC09t
import Derived.Test.YthheclnjaemjnaaC06p
import Derived.Test.YthheclnjaemjnaaKD
import Derived.Test.YthheclnjaemjnaaP9
set_option linter.unusedVariables false
set_option linter.unusedSimpArgs false
set_option maxRecDepth 100000
namespace Go.Proofs.Ythheclnjaemjnaa
open Go.KH

/-! ## Records and scans: plain -/
theorem putText_inj {a b r r' : List UInt8} (h : putText a ++ r = putText b ++ r') : a = b ∧ r = r' := by
  unfold putText at h
  rw [List.append_assoc, List.append_assoc] at h
  obtain ⟨h1, h2⟩ := putNum_inj h
  exact List.append_inj h2 (by omega)
theorem stepB_inj {s s' : UStep} {r r' : List UInt8} (h : stepB s ++ r = stepB s' ++ r') : s = s' ∧ r = r' := by
  unfold stepB at h
  simp only [List.append_assoc] at h
  obtain ⟨h1, h⟩ := putNum_inj h
  obtain ⟨h2, h⟩ := putNum_inj h
  obtain ⟨h3, h⟩ := putNum_inj h
  obtain ⟨h4, h5⟩ := putText_inj h
  obtain ⟨k, d, c, x⟩ := s
  obtain ⟨k', d', c', x'⟩ := s'
  simp only at h1 h2 h3 h4
  subst h1 h2 h3 h4
  exact ⟨rfl, h5⟩
theorem unsealB_put (x : List UInt8) : unsealB (sealB x) = (x, 0) := by
  have hl := sealB_len x
  have ht : (sealB x).take ((sealB x).length - 4) = x := by
    rw [hl]; unfold sealB
    rw [List.take_append_of_le_length (by omega), List.take_of_length_le (by omega)]
  unfold unsealB
  rw [if_neg (by omega), ht, if_pos rfl]
theorem recR_of {t : List UInt8} {n : Int} (h : (recR t n).2 = 0) : (0 ≤ n ∧ n ≤ 1000000) ∧ stepOk (recR t n).1 8 ∧ (recR t n).1.ok ∧ recordB n (recR t n).1 = t := by
  have h0 := h
  unfold recR at h
  split at h
  · rename_i hc; simp only at h; exact absurd h (by omega)
  rename_i hc
  obtain ⟨i, c, hu⟩ : ∃ i c, unsealB t = (i, c) := ⟨_, _, rfl⟩
  rw [hu] at hc h
  have hc0 : c = 0 := by simpa using hc
  subst hc0
  have he : recR t n = recI i n := by unfold recR; rw [hu, if_neg (by simp)]
  simp only at h
  by_cases hg : (getN i 0).2.2 = 0
  · have g1 := getN_eta hg
    cases hr : stepR (i.drop (getN i 0).2.1) with
    | none => rw [recI_none g1 hr] at h; simp at h
    | some s =>
      obtain ⟨r1, r2, r3⟩ := rec_read hu g1 hr
      by_cases hk : 0 ≤ (getN i 0).1 ∧ (getN i 0).1 ≤ 1000000
      · by_cases hn : (getN i 0).1 = n
        · rw [hn] at g1 hk r2
          have e1 : recR t n = (s, 0) := by rw [he, recI_this g1 hr hk]
          have e := r2 hk
          rw [e1]
          unfold recordBytes at e
          split at e
          · rename_i hs
            exact ⟨hk, hs.2, r1, e⟩
          · have h4 := (unsealB_ok hu).2
            rw [← e] at h4; simp at h4
        · rw [recI_other g1 hr hk hn] at h; simp at h
      · rw [recI_out g1 hr hk] at h; simp at h
  · unfold recI at h
    rw [if_neg hg] at h
    simp at h
theorem recR_put {n m : Int} {s : UStep} (hn : 0 ≤ n ∧ n ≤ 1000000) (hs : s.ok) (hk : stepOk s 8) : recR (recordB n s) m = if n = m then (s, 0) else (step0, 6) := by
  have hd := stepOk_data hk
  have hu : unsealB (recordB n s) = (putNum n ++ stepB s, 0) := unsealB_put _
  have hg : getN (putNum n ++ stepB s) 0 = (n, (putNum n).length, 0) := by
    have := getN_put (t := putNum n ++ stepB s) (a := 0) (r := stepB s) (n := n) rfl (by omega)
    rwa [Nat.zero_add] at this
  have hr : stepR ((putNum n ++ stepB s).drop (putNum n).length) = some s := by rw [List.drop_left]; exact stepR_put hs (by omega) hk
  have he : recR (recordB n s) m = recI (putNum n ++ stepB s) m := by unfold recR; rw [hu, if_neg (by simp)]
  rw [he]
  by_cases h : n = m
  · subst h; rw [if_pos rfl]; exact recI_this hg hr hn
  · rw [if_neg h]; exact recI_other hg hr hn h
theorem recR_cut {n : Int} {s : UStep} {k : Nat} (hk : k < (recordB n s).length) : (recR ((recordB n s).take k) n).2 ≠ 0 := by
  intro h
  obtain ⟨_, _, _, e⟩ := recR_of h
  generalize (recR ((recordB n s).take k) n).1 = s' at e
  have h1 : recordB n s' ++ (recordB n s).drop k = recordB n s := by rw [e, List.take_append_drop]
  have h2 : recordB n s' ++ (recordB n s).drop k = recordB n s := h1
  unfold recordB sealB at h1
  simp only [List.append_assoc] at h1
  have h1 := List.append_cancel_left h1
  obtain ⟨rfl, h3⟩ := stepB_inj h1
  have h4 := congrArg List.length h2
  rw [List.length_append, List.length_drop] at h4
  omega
theorem scanN_get : ∀ (ts : List (List UInt8)) (n k : Nat), k < (scanN n ts).length → ∃ (hk : k < ts.length), (recR ts[k] ((n + k : Nat) : Int)).2 = 0
  | [], n, k, h => by simp [scanN] at h
  | t :: ts, n, k, h => by
    unfold scanN at h
    split at h
    · rename_i h0
      cases k with
      | zero => exact ⟨by simp, by simpa using h0⟩
      | succ k =>
        obtain ⟨hk, h1⟩ := scanN_get ts (n + 1) k (by simpa using h)
        exact ⟨by simpa using hk, by rw [show n + (k + 1) = n + 1 + k by omega]; simpa using h1⟩
    · simp at h
theorem scanN_torn : ∀ (ts : List (List UInt8)) (n c : Nat) (x : List UInt8), c < (scanN n ts).length → (recR x ((n + c : Nat) : Int)).2 ≠ 0 → scanN n (ts.set c x) = (scanN n ts).take c
  | [], n, c, x, h, _ => by simp [scanN] at h
  | t :: ts, n, c, x, h, hx => by
    unfold scanN at h ⊢
    split at h
    · rename_i h0
      cases c with
      | zero =>
        rw [List.set_cons_zero, List.take_zero]
        simp only
        rw [if_neg (by simpa using hx)]
      | succ c =>
        rw [List.set_cons_succ]
        simp only
        rw [if_pos h0, if_pos h0, List.take_succ_cons]
        rw [scanN_torn ts (n + 1) c x (by simpa using h) (by rw [show n + 1 + c = n + (c + 1) by omega]; exact hx)]
    · simp at h
theorem kept_at (l : List UStep) : kept l = 0 ∨ ∃ k : Nat, ∃ h : k < l.length, kept l = k + 1 ∧ l[k].kind = 5 := by
  have key : ∀ j, j ≤ l.length → kept (l.take j) = 0 ∨ ∃ k : Nat, ∃ h : k < l.length, kept (l.take j) = k + 1 ∧ l[k].kind = 5 := by
    intro j
    induction j with
    | zero => intro _; left; simp [kept, foldi]
    | succ j ih =>
      intro hj
      have ht : kept (l.take (j + 1)) = if l[j].kind = 5 then (j : Int) + 1 else kept (l.take j) := foldi_take _ _ l j (by omega)
      rw [ht]
      split
      · rename_i h5; exact .inr ⟨j, by omega, rfl, h5⟩
      · exact ih (by omega)
  have := key l.length (Nat.le_refl _)
  rwa [List.take_length] at this
end Go.Proofs.Ythheclnjaemjnaa
