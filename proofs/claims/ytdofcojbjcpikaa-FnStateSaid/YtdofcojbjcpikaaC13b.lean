/- A helper of this seat's claims (contracts of the functions): what it shows is shown for every input that its statements name, on no other condition. -/
import Derived.Test.YtdofcojbjcpikaaC06r
set_option linter.unusedVariables false
set_option linter.unusedSimpArgs false
set_option maxRecDepth 100000
namespace Go.Proofs.Ytdofcojbjcpikaa
open Go.KH

/-! ## Seals opened, notes read -/
def unsealB (t : List UInt8) : List UInt8 × Nat := if t.length < 4 then ([], 4) else if sealB (t.take (t.length - 4)) = t then (t.take (t.length - 4), 0) else ([], 5)
theorem four_len (x : BitVec 32) : (four x).length = 4 := rfl
theorem sealB_len (t : List UInt8) : (sealB t).length = t.length + 4 := by unfold sealB; rw [List.length_append, four_len]
theorem sealB_inj {a b : List UInt8} (h : sealB a = sealB b) : a = b := by
  have hl := congrArg List.length h
  rw [sealB_len, sealB_len] at hl
  unfold sealB at h
  exact (List.append_inj h (by omega)).1
theorem unsealB_ok {t i : List UInt8} (h : unsealB t = (i, 0)) : sealB i = t ∧ i.length + 4 = t.length := by
  unfold unsealB at h
  split at h
  · simp at h
  · split at h
    · rename_i h4 hs; simp only [Prod.mk.injEq, and_true] at h; rw [← h]; exact ⟨hs, by rw [List.length_take]; omega⟩
    · simp at h
theorem unsealB_len (t : List UInt8) : (unsealB t).1.length ≤ t.length := by
  unfold unsealB
  split
  · simp
  · split
    · simp only [List.length_take]; omega
    · simp
theorem unsealB_bad {t : List UInt8} (h : (unsealB t).2 ≠ 0) : (unsealB t).1 = [] := by
  unfold unsealB at h ⊢
  split
  · rfl
  · split
    · rename_i h4 hs; simp [h4, hs] at h
    · rfl
theorem four_iff (t : List UInt8) (h : ¬ t.length < 4) : four (crc (t.take (t.length - 4))) = t.drop (t.length - 4) ↔ sealB (t.take (t.length - 4)) = t := by
  unfold sealB
  constructor
  · intro h1; rw [h1, List.take_append_drop]
  · intro h1
    have h2 : t.take (t.length - 4) ++ four (crc (t.take (t.length - 4))) = t.take (t.length - 4) ++ t.drop (t.length - 4) := by rw [h1, List.take_append_drop]
    exact List.append_cancel_left h2
theorem subn (h h' : H) : KH.Sub h.none h' = True := propext ⟨fun _ => trivial, fun _ => ⟨fun b ob hb => (by cases hb), fun b l hb => (by cases hb)⟩⟩
def ReadsN (t : List UInt8) (k m : Int) (x : List UInt8) (e : Nat) : Prop := ∃ a1 a2, getN t 0 = (k, a1, 0) ∧ getN t a1 = (m, a2, 0) ∧ getT t a2 = (x, e, 0)
theorem ReadsN.eq {t x : List UInt8} {k m : Int} {e : Nat} (r : ReadsN t k m x e) : t = putNum k ++ putNum m ++ putText x ++ t.drop e ∧ 0 < e ∧ e ≤ t.length ∧ in64 k ∧ in64 m ∧ x.length ≤ 8000 := by
  obtain ⟨a1, a2, g1, g2, g3⟩ := r
  obtain ⟨k1, k2, k3, k4⟩ := getN_ok g1
  obtain ⟨d1, d2, d3, d4⟩ := getN_ok g2
  obtain ⟨x1, x2, x3, x4⟩ := getT_ok g3
  refine ⟨?_, by omega, x3, k4, d4, x4⟩
  rw [List.drop_zero] at k1
  rw [d1, x1] at k1
  simpa only [List.append_assoc] using k1
/-- What a note says. -/
def noteR (t : List UInt8) (n : Int) : Option (Int × List UInt8) :=
  if (unsealB t).2 = 0 then
    let i := (unsealB t).1; let k := numI i 0 false; let m := numI i k.2.1 k.2.2; let x := textI i m.2.1 m.2.2
    if x.2.2 = false ∧ x.2.1 = i.length ∧ k.1 = n ∧ (0 ≤ n ∧ n ≤ 1000000) ∧ (0 ≤ m.1 ∧ m.1 ≤ 39) ∧ x.1.length = 8 then some (m.1, x.1) else none
  else none
abbrev actC (o : Option (Int × List UInt8)) : List Value := match o with | some p => [.bool false, i64 p.1, str p.2] | none => [.bool true, i64 0, str []]
def noteOut (t : List UInt8) (n : Int) : Option (Int × List UInt8) := if 8000 < t.length then none else noteR t n
theorem rnI_of {i x : List UInt8} {k m : Int} {a1 a2 e : Nat} {c1 c2 : Bool} (e1 : numI i 0 false = (k, a1, c1)) (e2 : numI i a1 c1 = (m, a2, c2)) (e3 : textI i a2 c2 = (x, e, false)) : ReadsN i k m x e := by
  obtain ⟨rfl, g3⟩ := textI_inv e3
  obtain ⟨rfl, g2⟩ := numI_inv e2
  obtain ⟨_, g1⟩ := numI_inv e1
  exact ⟨a1, a2, g1, g2, g3⟩
theorem rnS_of {i x : List UInt8} {k m : Int} {a1 a2 e : Nat} {c1 c2 : Bool} (e1 : numS i 0 false = (k, a1, c1)) (e2 : numS i a1 c1 = (m, a2, c2)) (e3 : textS i a2 c2 = (x, e, false)) : ReadsN i k m x e := by
  obtain ⟨rfl, g3⟩ := textS_inv e3
  obtain ⟨rfl, g2⟩ := numS_inv e2
  obtain ⟨_, g1⟩ := numS_inv e1
  exact ⟨a1, a2, g1, g2, g3⟩
theorem noteR_ok {t i x : List UInt8} {k m n : Int} {e : Nat} (hu : unsealB t = (i, 0)) (r : ReadsN i k m x e) : noteR t n = if e = i.length ∧ k = n ∧ (0 ≤ n ∧ n ≤ 1000000) ∧ (0 ≤ m ∧ m ≤ 39) ∧ x.length = 8 then some (m, x) else none := by
  obtain ⟨a1, a2, g1, g2, g3⟩ := r
  unfold noteR
  simp only [hu, if_true, numI_ok _ g1, numI_ok _ g2, textI_ok _ g3, true_and]
theorem noteR_no {t i : List UInt8} {c : Nat} {n : Int} (hu : unsealB t = (i, c)) (hr : ¬ ∃ k m x e, ReadsN i k m x e) : noteR t n = none := by
  obtain ⟨k, a1, c1, e1⟩ : ∃ k a1 c1, numI i 0 false = (k, a1, c1) := ⟨_, _, _, rfl⟩
  obtain ⟨m, a2, c2, e2⟩ : ∃ k a2 c2, numI i a1 c1 = (k, a2, c2) := ⟨_, _, _, rfl⟩
  obtain ⟨x, a3, c3, e3⟩ : ∃ k a3 c3, textI i a2 c2 = (k, a3, c3) := ⟨_, _, _, rfl⟩
  cases c3 with
  | false => exact absurd ⟨_, _, _, _, rnI_of e1 e2 e3⟩ hr
  | true =>
    unfold noteR
    simp only [hu, e1, e2, e3]
    split
    · rw [if_neg (by simp)]
    · rfl
theorem noteBytes_iff {t i x : List UInt8} {k m : Int} {e : Nat} (hu : unsealB t = (i, 0)) (r : ReadsN i k m x e) : noteBytes k m x = t ↔ e = i.length ∧ (0 ≤ k ∧ k ≤ 1000000) ∧ (0 ≤ m ∧ m ≤ 39) ∧ x.length = 8 := by
  obtain ⟨h1, h2, h3, _, _, _⟩ := r.eq
  obtain ⟨u1, u2⟩ := unsealB_ok hu
  unfold noteBytes noteB
  constructor
  · intro h
    split at h
    · rename_i hc
      refine ⟨?_, hc⟩
      rw [← u1] at h
      have h5 := sealB_inj h
      rw [h5] at h1
      have := congrArg List.length h1
      simp only [List.length_append, List.length_drop] at this
      omega
    · rw [← h] at u2; simp at u2
  · rintro ⟨rfl, hc⟩
    rw [if_pos hc, ← u1]
    rw [List.drop_length, List.append_nil] at h1
    rw [← h1]
end Go.Proofs.Ytdofcojbjcpikaa
