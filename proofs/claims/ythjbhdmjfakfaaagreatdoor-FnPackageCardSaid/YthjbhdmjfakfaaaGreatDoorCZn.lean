/- A helper of this seat's claims (contracts of the functions): what it shows is shown for every input that its statements name, on no other condition. -/
import Derived.Test.YthjbhdmjfakfaaaGreatDoorCZm
import Derived.Test.YthjbhdmjfakfaaaGreatDoorMP14
set_option linter.unusedVariables false
set_option linter.unusedSimpArgs false
set_option maxRecDepth 100000
namespace Go.Proofs.YthjbhdmjfakfaaaGreatDoor
open Go.KH

/-! ## The law of packages, plain -/
/-- A text with one byte turned is refused for its sum. -/
theorem pkgR_turn {p : UPkg} (hp : pkgOk p) (hok : p.ok) {k : Nat} {z : UInt8} (hk : k < (pkgBytes p).length) (hz : (pkgBytes p)[k]? ≠ some z) : pkgR ((pkgBytes p).set k z) = (pkg0, 5) := by
  have hlen := pkgBytes_le hok
  have hb : pkgBytes p = sealB (pkgI p p.steps.length) := by unfold pkgBytes pkgB; rw [if_pos hp]
  rw [hb] at hk hz hlen ⊢
  have ht := seal_turn hk hz
  have h4 : ¬ ((sealB (pkgI p p.steps.length)).set k z).length < 4 := by rw [List.length_set, sealB_len]; omega
  have hu : unsealB ((sealB (pkgI p p.steps.length)).set k z) = ([], 5) := by
    unfold unsealB
    rw [if_neg h4, if_neg ht]
  unfold pkgR
  rw [if_neg (by rw [List.length_set]; omega), hu]
  simp
theorem unseal_seal (x : List UInt8) : unsealB (sealB x) = (x, 0) := by
  have e : (sealB x).take ((sealB x).length - 4) = x := by
    rw [sealB_len, Nat.add_sub_cancel]
    unfold sealB
    exact List.take_left' rfl
  unfold unsealB
  rw [if_neg (by rw [sealB_len]; omega), e, if_pos rfl]
theorem rdS_put : ∀ (l : List UStep) (i r : List UInt8) (a : Nat), a ≤ i.length → i.drop a = (l.flatMap fun s => putText (stepB s)) ++ r → (∀ s ∈ l, s.ok ∧ stepOk s 8) → ∃ e, rdS i l.length a = (l, e, false) ∧ i.drop e = r ∧ e ≤ i.length
  | [], i, r, a, ha, h, _ => ⟨a, rfl, by simpa using h, ha⟩
  | s :: l, i, r, a, ha, h, hs => by
    obtain ⟨k1, k2⟩ := hs s (List.mem_cons_self ..)
    have hd := stepOk_data k2
    have h60 := stepB_60 k1 k2
    rw [List.flatMap_cons, List.append_assoc] at h
    have g := getT_put h (by omega) ha
    have hdr := drop_put h
    have hle : a + (putText (stepB s)).length ≤ i.length := by
      have := congrArg List.length h
      simp only [List.length_drop, List.length_append] at this
      omega
    obtain ⟨e, q1, q2, q3⟩ := rdS_put l i r _ hle hdr (fun x hx => hs x (List.mem_cons_of_mem _ hx))
    refine ⟨e, ?_, q2, q3⟩
    rw [List.length_cons, rdS_go (textI_ok false g) (stepR_put k1 (by omega) k2), q1]
/-- A package that is right comes back. -/
theorem pkgR_back {p : UPkg} (hp : pkgOk p) (hok : p.ok) : pkgR (pkgBytes p) = (p, 0) := by
  have hlen := pkgBytes_le hok
  have hb : pkgBytes p = sealB (pkgI p p.steps.length) := by unfold pkgBytes pkgB; rw [if_pos hp]
  have hI : pkgI p p.steps.length = putNum p.blocks ++ (putText p.digest ++ (putNum p.steps.length ++ ((p.steps.flatMap fun s => putText (stepB s)) ++ []))) := by
    unfold pkgI; simp only [List.take_length, List.append_assoc, List.append_nil]
  have hst := pkgOk_steps hp
  have h20 := hst.1
  generalize hi : pkgI p p.steps.length = i at *
  have g1 := getN_put (t := i) (a := 0) (by rw [List.drop_zero]; exact hI) hok.1
  have d1 := drop_put (t := i) (a := 0) (by rw [List.drop_zero]; exact hI)
  have l1 := congrArg List.length hI
  simp only [List.length_append, List.length_nil] at l1
  rw [Nat.zero_add] at g1 d1
  have hd := hp.2
  have g2 := getT_put d1 (by omega) (by omega)
  have d2 := drop_put d1
  have g3 := getN_put d2 (by omega)
  have d3 := drop_put d2
  obtain ⟨e, q1, q2, q3⟩ := rdS_put p.steps i [] _ (by omega) d3 (fun s hs => ⟨hok.2.2.2 s hs, by
    have h := hst.2.2 s hs
    have h8 := hst.2.1
    obtain ⟨a1, a2, a3, a4⟩ := h
    refine ⟨a1, ?_, ?_, a4⟩
    · split at a2
      · rename_i c; rw [if_pos c]; exact a2
      · rename_i c; rw [if_neg c]; omega
    · split at a3
      · rename_i c; rw [if_pos c]; exact a3
      · rename_i c
        rw [if_neg c]
        split at a3
        · rename_i c2; rw [if_pos c2]; omega
        · rename_i c2; rw [if_neg c2]; exact a3⟩)
  have he : e = i.length := by
    have := congrArg List.length q2
    simp only [List.length_drop, List.length_nil] at this
    omega
  have hin := pkgIn_of g1 g2 g3 (show rdS i ((p.steps.length : Int)).toNat _ = (p.steps, e, false) from q1)
  unfold pkgR
  rw [if_neg (by omega), hb, unseal_seal]
  simp only [if_pos]
  rw [hin, if_pos ⟨by omega, ⟨he, rfl⟩, hp⟩]
/-- What is read has the bytes that were read. -/
theorem pkgR_bytes {t : List UInt8} (h : (pkgR t).2 = 0) : pkgBytes (pkgR t).1 = t := by
  unfold pkgR at h ⊢
  by_cases h1 : 8000 < t.length
  · rw [if_pos h1] at h; simp at h
  rw [if_neg h1] at h ⊢
  by_cases h2 : (unsealB t).2 = 0
  rotate_left
  · rw [if_neg h2] at h; simp at h; omega
  rw [if_pos h2] at h ⊢
  have hu : unsealB t = ((unsealB t).1, 0) := by rw [← h2]
  cases hp : pkgIn (unsealB t).1 with
  | none => rw [hp] at h; simp at h
  | some p =>
    simp only
    generalize hi : (unsealB t).1 = i at *
    obtain ⟨k, a1, c1, e1⟩ : ∃ k a c, getN i 0 = (k, a, c) := ⟨_, _, _, rfl⟩
    obtain ⟨d, a2, c2, e2⟩ : ∃ k a c, getT i a1 = (k, a, c) := ⟨_, _, _, rfl⟩
    obtain ⟨m, a3, c3, e3⟩ : ∃ k a c, getN i a2 = (k, a, c) := ⟨_, _, _, rfl⟩
    obtain ⟨l, e, bad, e4⟩ : ∃ l e b, rdS i m.toNat a3 = (l, e, b) := ⟨_, _, _, rfl⟩
    by_cases hc : c1 = 0 ∧ c2 = 0 ∧ c3 = 0
    rotate_left
    · rw [pkgIn_no (by simp only [e1, e2, e3]; exact hc)] at hp
      cases hp
    obtain ⟨rfl, rfl, rfl⟩ := hc
    rw [pkgIn_of e1 e2 e3 e4] at hp
    split at hp
    · rename_i q
      obtain ⟨q4, ⟨q5, q7⟩, q6⟩ := q
      cases hp
      subst q7
      exact (pkg_iff hu e1 e2 e3 e4 (by omega)).2 ⟨q4, q5, q6⟩
    · cases hp
/-- The package from one image to another one fits the first one, and makes the other. -/
theorem fits_own {A B : List (List UInt8)} (h : (packageOut A B).2 = 0) : fitsOf (packageOut A B).1 A = 0 ∧ imgOut A (packageOut A B).1.steps = (B, 0) := by
  unfold packageOut at h ⊢
  by_cases h1 : 400 < A.length ∨ 400 < B.length
  · rw [if_pos h1] at h; simp at h
  rw [if_neg h1] at h ⊢
  by_cases h2 : imageOk A ∧ imageOk B ∧ A.length = B.length
  rotate_left
  · rw [if_pos h2] at h; simp at h
  obtain ⟨iA, iB, hl⟩ := h2
  rw [if_neg (fun q => q ⟨iA, iB, hl⟩)]
  simp only
  have hc := pkgSteps_code iA iB hl
  have ha := pkgSteps_apply iA iB hl
  have hk : pkgOk ⟨(A.length : Int), shaL B.flatten, pkgSteps A B⟩ := ⟨hc, shaL_length _⟩
  have h9 := pkgSteps_len (old := A) (fresh := B) iA
  constructor
  · unfold fitsOf
    rw [if_neg (fun q => q ⟨hk, iA⟩), if_neg (fun q => q rfl)]
    simp only
    rw [ha, if_neg (fun q => q rfl)]
  · unfold imgOut
    rw [if_neg (by omega), if_pos iA, if_pos hc, ha]
end Go.Proofs.YthjbhdmjfakfaaaGreatDoor
