/- A helper of this seat's claims (contracts of the functions): what it shows is shown for every input that its statements name, on no other condition. -/
import Derived.Test.YtdofcojbjcpikaaC13b
import Derived.Test.YtdofcojbjcpikaaC01
import Derived.Test.YtdofcojbjcpikaaCHs
set_option linter.unusedVariables false
set_option linter.unusedSimpArgs false
set_option maxRecDepth 100000
namespace Go.Proofs.Ytdofcojbjcpikaa
open Go.KH

/-! ## Metadata -/
abbrev metaC (o : (Int × List UInt8) × Int) : List Value := [i64 o.1.1, str o.1.2, i64 o.2]
def metaI (i : List UInt8) : (Int × List UInt8) × Int :=
  let k := numI i 0 false; let x := textI i k.2.1 k.2.2
  if x.2.2 = false ∧ x.2.1 = i.length ∧ (1 ≤ k.1 ∧ k.1 ≤ 1000000) ∧ x.1.length ≤ 80 then ((k.1, x.1), 0) else ((0, []), 3)
def metaR (t : List UInt8) : (Int × List UInt8) × Int := if (unsealB t).2 = 0 then metaI (unsealB t).1 else ((0, []), ((unsealB t).2 : Int))
def metaB (n : Int) (x : List UInt8) : List UInt8 := sealB (putNum n ++ putText x)
def metaBytes (n : Int) (x : List UInt8) : List UInt8 := if (1 ≤ n ∧ n ≤ 1000000) ∧ x.length ≤ 80 then metaB n x else []
/-- A number and a text that read well. -/
def Reads1 (t : List UInt8) (n : Int) (x : List UInt8) (e : Nat) : Prop := ∃ a1, getN t 0 = (n, a1, 0) ∧ getT t a1 = (x, e, 0)
theorem Reads1.eq {t x : List UInt8} {k : Int} {e : Nat} (r : Reads1 t k x e) : t = putNum k ++ putText x ++ t.drop e ∧ 0 < e ∧ e ≤ t.length ∧ in64 k ∧ x.length ≤ 8000 := by
  obtain ⟨a1, g1, g3⟩ := r
  obtain ⟨k1, k2, k3, k4⟩ := getN_ok g1
  obtain ⟨x1, x2, x3, x4⟩ := getT_ok g3
  refine ⟨?_, by omega, x3, k4, x4⟩
  rw [List.drop_zero] at k1
  rw [x1] at k1
  simpa only [List.append_assoc] using k1
theorem metaI_ok {i x : List UInt8} {k : Int} {e : Nat} (r : Reads1 i k x e) : metaI i = if e = i.length ∧ (1 ≤ k ∧ k ≤ 1000000) ∧ x.length ≤ 80 then ((k, x), 0) else ((0, []), 3) := by
  obtain ⟨a1, g1, g3⟩ := r
  unfold metaI
  simp only [numI_ok _ g1, textI_ok _ g3, true_and]
theorem metaI_no {i : List UInt8} (hr : ¬ ∃ k x e, Reads1 i k x e) : metaI i = ((0, []), 3) := by
  obtain ⟨k, a1, c1, e1⟩ : ∃ k a1 c1, numI i 0 false = (k, a1, c1) := ⟨_, _, _, rfl⟩
  obtain ⟨x, a2, c2, e2⟩ : ∃ k a2 c2, textI i a1 c1 = (k, a2, c2) := ⟨_, _, _, rfl⟩
  unfold metaI
  simp only [e1, e2]
  cases c2 with
  | true => rw [if_neg (by simp)]
  | false =>
    obtain ⟨rfl, g3⟩ := textI_inv e2
    obtain ⟨_, g1⟩ := numI_inv e1
    exact absurd ⟨_, _, _, a1, g1, g3⟩ hr
theorem metaBytes_iff {t i x : List UInt8} {k : Int} {e : Nat} (hu : unsealB t = (i, 0)) (r : Reads1 i k x e) : metaBytes k x = t ↔ e = i.length ∧ (1 ≤ k ∧ k ≤ 1000000) ∧ x.length ≤ 80 := by
  obtain ⟨h1, h2, h3, _, _⟩ := r.eq
  obtain ⟨u1, u2⟩ := unsealB_ok hu
  unfold metaBytes metaB
  constructor
  · intro h
    split at h
    · rename_i hc
      refine ⟨?_, hc⟩
      rw [← u1] at h
      have h5 := sealB_inj h
      rw [h5] at h1
      have := congrArg List.length h1
      simp only [List.length_append, List.length_drop] at this
      omega
    · rw [← h] at u2; simp at u2
  · rintro ⟨rfl, hc⟩
    rw [if_pos hc, ← u1]
    rw [List.drop_length, List.append_nil] at h1
    rw [← h1]
/-- The metadata of a flash memory, and its sector. -/
def metaGet (f : UFlash) : ((Int × List UInt8) × Int) × Int :=
  let a := metaR (flashGet f 0); let b := metaR (flashGet f 1)
  if a.2 = 0 ∧ (b.2 ≠ 0 ∨ b.1.1 ≤ a.1.1) then (a, 0) else if b.2 = 0 then (b, 1) else (((0, []), 6), -1)
end Go.Proofs.Ytdofcojbjcpikaa
