/- A helper of this seat's claims (contracts of the functions): what it shows is shown for every input that its statements name, on no other condition. -/
import Derived.Test.YthjbhdmjfakfaaaGreatDoorMC08o
import Derived.Test.YthjbhdmjfakfaaaGreatDoorC13b
import Derived.Test.YthjbhdmjfakfaaaGreatDoorC06r
import Derived.Test.YthjbhdmjfakfaaaGreatDoorKD
set_option linter.unusedVariables false
set_option linter.unusedSimpArgs false
set_option maxRecDepth 100000
namespace Go.Proofs.YthjbhdmjfakfaaaGreatDoor
open Go.KH

/-! ## Packages read, in plain words -/
def rdOne (o : Option UStep) (e : Nat) (bad : Bool) (r : List UStep × Nat × Bool) : List UStep × Nat × Bool := match o with
  | some s => if bad = true then ([s], e, true) else (s :: r.1, r.2)
  | none => ([step0], e, true)
/-- So many steps out of a text at a place: the steps, the end, whether it went wrong. -/
def rdS (i : List UInt8) : Nat → Nat → List UStep × Nat × Bool
  | 0, a => ([], a, false)
  | n + 1, a => rdOne (stepR (textI i a false).1) (textI i a false).2.1 (textI i a false).2.2 (rdS i n (textI i a false).2.1)
theorem rdS_0 (i : List UInt8) (a : Nat) : rdS i 0 a = ([], a, false) := rfl
theorem rdS_s (i : List UInt8) (n a : Nat) : rdS i (n + 1) a = rdOne (stepR (textI i a false).1) (textI i a false).2.1 (textI i a false).2.2 (rdS i n (textI i a false).2.1) := rfl
theorem rdS_bad {i : List UInt8} {n a : Nat} {w : List UInt8} {e : Nat} {bad : Bool} (hw : textI i a false = (w, e, bad)) (hs : stepR w = none) : rdS i (n + 1) a = ([step0], e, true) := by
  rw [rdS_s, hw]
  simp only
  rw [hs]; rfl
theorem textI_nobad {i w : List UInt8} {a e : Nat} {bad : Bool} {s : UStep} (hw : textI i a false = (w, e, bad)) (hs : stepR w = some s) : bad = false := by
  cases bad with
  | false => rfl
  | true =>
    unfold textI at hw
    split at hw
    · simp at hw
    · simp only [Prod.mk.injEq] at hw
      rw [← hw.1, stepR_nil] at hs; cases hs
theorem rdS_go {i : List UInt8} {n a : Nat} {w : List UInt8} {e : Nat} {bad : Bool} {s : UStep} (hw : textI i a false = (w, e, bad)) (hs : stepR w = some s) : rdS i (n + 1) a = (s :: (rdS i n e).1, (rdS i n e).2) := by
  have := textI_nobad hw hs
  subst this
  rw [rdS_s, hw]
  simp only
  rw [hs]; rfl
theorem rdS_len : ∀ (i : List UInt8) (n a : Nat), (rdS i n a).1.length ≤ n
  | i, 0, a => by rw [rdS_0]; exact Nat.le_refl _
  | i, n + 1, a => by
    obtain ⟨w, e, bad, hw⟩ : ∃ w e bad, textI i a false = (w, e, bad) := ⟨_, _, _, rfl⟩
    cases hs : stepR w with
    | none => rw [rdS_bad hw hs]; simp
    | some s => rw [rdS_go hw hs]; have := rdS_len i n e; simp; omega
theorem rdS_ok (i : List UInt8) (n : Nat) : ∀ (a e : Nat) (l : List UStep), a ≤ i.length → rdS i n a = (l, e, false) → l.length = n ∧ i.drop a = (l.flatMap fun s => putText (stepB s)) ++ i.drop e ∧ e ≤ i.length ∧ (∀ s ∈ l, s.ok ∧ stepOk s 8) := by
  induction n with
  | zero =>
    intro a e l ha h
    rw [rdS_0] at h
    simp only [Prod.mk.injEq] at h
    obtain ⟨rfl, rfl, _⟩ := h
    simp [ha]
  | succ n ih =>
    intro a e l ha h
    obtain ⟨w, e1, bad, hw⟩ : ∃ w e bad, textI i a false = (w, e, bad) := ⟨_, _, _, rfl⟩
    cases hs : stepR w with
    | none => rw [rdS_bad hw hs] at h; simp at h
    | some s =>
      have hb := textI_nobad hw hs
      subst hb
      rw [rdS_go hw hs] at h
      obtain ⟨l', e', b', hr⟩ : ∃ l' e' b', rdS i n e1 = (l', e', b') := ⟨_, _, _, rfl⟩
      rw [hr] at h
      simp only [Prod.mk.injEq] at h
      obtain ⟨rfl, rfl, rfl⟩ := h
      obtain ⟨g1, g2, g3, g4⟩ := getT_ok (textI_inv hw).2
      obtain ⟨h1, h2, h3, h4⟩ := ih e1 e' l' g3 hr
      obtain ⟨k1, k2, k3⟩ := stepR_some hs
      refine ⟨by simp [h1], ?_, h3, ?_⟩
      · rw [g1, h2, ← k1]; simp
      · intro x hx
        rcases List.mem_cons.1 hx with rfl | hx
        · exact ⟨k3, k2⟩
        · exact h4 x hx
noncomputable def pkgIn (i : List UInt8) : Option UPkg :=
  if (getN i 0).2.2 = 0 ∧ (getT i (getN i 0).2.1).2.2 = 0 ∧ (getN i (getT i (getN i 0).2.1).2.1).2.2 = 0 ∧ (0 ≤ (getN i (getT i (getN i 0).2.1).2.1).1 ∧ (getN i (getT i (getN i 0).2.1).2.1).1 ≤ 20) ∧
    (rdS i (getN i (getT i (getN i 0).2.1).2.1).1.toNat (getN i (getT i (getN i 0).2.1).2.1).2.1).2 = (i.length, false) ∧
    pkgOk ⟨(getN i 0).1, (getT i (getN i 0).2.1).1, (rdS i (getN i (getT i (getN i 0).2.1).2.1).1.toNat (getN i (getT i (getN i 0).2.1).2.1).2.1).1⟩
  then some ⟨(getN i 0).1, (getT i (getN i 0).2.1).1, (rdS i (getN i (getT i (getN i 0).2.1).2.1).1.toNat (getN i (getT i (getN i 0).2.1).2.1).2.1).1⟩ else none
theorem pkgIn_of {i d : List UInt8} {k m : Int} {a1 a2 a3 e : Nat} {l : List UStep} {bad : Bool} (h1 : getN i 0 = (k, a1, 0)) (h2 : getT i a1 = (d, a2, 0)) (h3 : getN i a2 = (m, a3, 0)) (h4 : rdS i m.toNat a3 = (l, e, bad)) :
    pkgIn i = if (0 ≤ m ∧ m ≤ 20) ∧ (e = i.length ∧ bad = false) ∧ pkgOk ⟨k, d, l⟩ then some ⟨k, d, l⟩ else none := by
  unfold pkgIn
  simp only [h1, h2, h3, h4, true_and, Prod.mk.injEq]
theorem pkgIn_no {i : List UInt8} (h : ¬ ((getN i 0).2.2 = 0 ∧ (getT i (getN i 0).2.1).2.2 = 0 ∧ (getN i (getT i (getN i 0).2.1).2.1).2.2 = 0)) : pkgIn i = none := by
  unfold pkgIn
  rw [if_neg (fun q => h ⟨q.1, q.2.1, q.2.2.1⟩)]
noncomputable def pkgR (t : List UInt8) : UPkg × Int := if 8000 < t.length then (pkg0, 2) else if (unsealB t).2 = 0 then (match pkgIn (unsealB t).1 with | some p => (p, 0) | none => (pkg0, 3)) else (pkg0, (unsealB t).2)
/-- The reference compares with what would be written. -/
theorem pkg_iff {t i d : List UInt8} {k m : Int} {a1 a2 a3 e n : Nat} {l : List UStep} (hu : unsealB t = (i, 0)) (h1 : getN i 0 = (k, a1, 0)) (h2 : getT i a1 = (d, a2, 0)) (h3 : getN i a2 = (m, a3, 0)) (h4 : rdS i n a3 = (l, e, false)) (hn : n = (min m 20).toNat) :
    pkgBytes ⟨k, d, l⟩ = t ↔ (0 ≤ m ∧ m ≤ 20) ∧ e = i.length ∧ pkgOk ⟨k, d, l⟩ := by
  obtain ⟨u1, u2⟩ := unsealB_ok hu
  obtain ⟨g1, g2, g3, g4⟩ := getN_ok h1
  obtain ⟨d1, d2, d3, d4⟩ := getT_ok h2
  obtain ⟨m1, m2, m3, m4⟩ := getN_ok h3
  obtain ⟨l1, l2, l3, l4⟩ := rdS_ok i n a3 e l m3 h4
  have hi : i = putNum k ++ putText d ++ putNum m ++ i.drop a3 := by
    rw [List.drop_zero] at g1
    conv => lhs; rw [g1, d1, m1]
    simp only [List.append_assoc]
  have hp : pkgI ⟨k, d, l⟩ l.length = putNum k ++ putText d ++ putNum l.length ++ l.flatMap fun s => putText (stepB s) := by
    unfold pkgI; simp only [List.take_length]
  constructor
  · intro h
    unfold pkgBytes at h
    split at h
    · rename_i hok
      unfold pkgB at h
      rw [← u1] at h
      have h := sealB_inj h
      simp only at h
      rw [hp, hi, List.append_assoc, List.append_assoc, List.append_assoc, List.append_assoc] at h
      have q := putNum_inj (List.append_cancel_left (List.append_cancel_left h))
      have hm : (l.length : Int) = m := q.1
      have h20 : (l.length : Int) ≤ 20 := by omega
      refine ⟨by omega, ?_, hok⟩
      have hd := q.2
      rw [l2] at hd
      have := congrArg List.length hd
      simp only [List.length_append, List.length_drop] at this
      omega
    · exfalso; rw [← h] at u2; simp at u2
  · rintro ⟨hm, he, hok⟩
    unfold pkgBytes pkgB
    rw [if_pos hok]
    have : pkgI ⟨k, d, l⟩ l.length = i := by
      have hmn : (l.length : Int) = m := by omega
      rw [hp, hmn]
      conv => rhs; rw [hi, l2, he]
      rw [List.drop_length, List.append_nil]
    simp only
    rw [this]; exact u1
theorem textS_I (i : List UInt8) (a : Nat) : textS i a false = textI i a false := by unfold textS textI; split <;> simp_all
theorem numS_I (i : List UInt8) (a : Nat) : numS i a false = numI i a false := by unfold numS numI; split <;> simp_all
end Go.Proofs.YthjbhdmjfakfaaaGreatDoor
