/- A helper of this seat's claims (contracts of the functions): what it shows is shown for every input that its statements name, on no other condition. -/
import Derived.Test.YtdofcojbjcpikaaC02r
import Derived.Test.YtdofcojbjcpikaaC09b
set_option linter.unusedVariables false
set_option linter.unusedSimpArgs false
set_option maxRecDepth 100000
namespace Go.Proofs.Ytdofcojbjcpikaa
open Go.KH

/-! ## Steps read -/
theorem ext_beside2 {h : H} {b c : Nat} {x y z : Ob} (hn : h.get c = none) (hb : h.get b = some z) : Ext (h.set b x) ((h.set c y).set b x) := by
  have hne : b ≠ c := fun e => by subst e; rw [hb] at hn; cases hn
  rw [H.set_comm _ _ _ hne]
  exact (Ext.refl _).set (by rw [H.set_get_ne _ _ _ _ hne.symm]; exact hn) _
def stepI (t : List UInt8) (a : Nat) (bad : Bool) : UStep × Nat × Bool :=
  let k := numI t a bad; let d := numI t k.2.1 k.2.2; let s := numI t d.2.1 d.2.2; let x := textI t s.2.1 s.2.2
  (⟨k.1, d.1, s.1, x.1⟩, x.2.1, x.2.2)
def stepS (t : List UInt8) (a : Nat) (bad : Bool) : UStep × Nat × Bool :=
  let k := numS t a bad; let d := numS t k.2.1 k.2.2; let s := numS t d.2.1 d.2.2; let x := textS t s.2.1 s.2.2
  (⟨k.1, d.1, s.1, x.1⟩, x.2.1, x.2.2)
theorem numI_inv {t : List UInt8} {a e : Nat} {b : Bool} {n : Int} (h : numI t a b = (n, e, false)) : b = false ∧ getN t a = (n, e, 0) := by
  unfold numI at h
  split at h
  · rename_i hc; simp only [Prod.mk.injEq] at h; exact ⟨h.2.2, by rw [← h.1, ← h.2.1, ← hc]⟩
  · simp at h
theorem textI_inv {t x : List UInt8} {a e : Nat} {b : Bool} (h : textI t a b = (x, e, false)) : b = false ∧ getT t a = (x, e, 0) := by
  unfold textI at h
  split at h
  · rename_i hc; simp only [Prod.mk.injEq] at h; exact ⟨h.2.2, by rw [← h.1, ← h.2.1, ← hc]⟩
  · simp at h
theorem numS_inv {t : List UInt8} {a e : Nat} {b : Bool} {n : Int} (h : numS t a b = (n, e, false)) : b = false ∧ getN t a = (n, e, 0) := by
  unfold numS at h
  split at h
  · rename_i hc; simp only [Prod.mk.injEq] at h; exact ⟨hc.1, by rw [← h.1, ← h.2.1, ← hc.2]⟩
  · simp at h
theorem textS_inv {t x : List UInt8} {a e : Nat} {b : Bool} (h : textS t a b = (x, e, false)) : b = false ∧ getT t a = (x, e, 0) := by
  unfold textS at h
  split at h
  · rename_i hc; simp only [Prod.mk.injEq] at h; exact ⟨hc.1, by rw [← h.1, ← h.2.1, ← hc.2]⟩
  · simp at h
theorem numI_ok {t : List UInt8} {a e : Nat} {n : Int} (b : Bool) (h : getN t a = (n, e, 0)) : numI t a b = (n, e, b) := by unfold numI; rw [h, if_pos rfl]
theorem textI_ok {t x : List UInt8} {a e : Nat} (b : Bool) (h : getT t a = (x, e, 0)) : textI t a b = (x, e, b) := by unfold textI; rw [h, if_pos rfl]
theorem numS_ok {t : List UInt8} {a e : Nat} {n : Int} (h : getN t a = (n, e, 0)) : numS t a false = (n, e, false) := by unfold numS; rw [h, if_pos ⟨rfl, rfl⟩]
theorem textS_ok {t x : List UInt8} {a e : Nat} (h : getT t a = (x, e, 0)) : textS t a false = (x, e, false) := by unfold textS; rw [h, if_pos ⟨rfl, rfl⟩]
theorem eta3 {α : Type} {p : α × Nat × Bool} {b : Bool} (h : p.2.2 = b) : p = (p.1, p.2.1, b) := by rw [← h]
/-- A step that reads well. -/
def Reads (t : List UInt8) (a : Nat) (s : UStep) (e : Nat) : Prop := ∃ a1 a2 a3, getN t a = (s.kind, a1, 0) ∧ getN t a1 = (s.dst, a2, 0) ∧ getN t a2 = (s.src, a3, 0) ∧ getT t a3 = (s.data, e, 0)
theorem stepI_iff {t : List UInt8} {a e : Nat} {b : Bool} {s : UStep} : stepI t a b = (s, e, false) ↔ b = false ∧ Reads t a s e := by
  obtain ⟨k, d, r, x⟩ := s
  obtain ⟨k', a1, b1, e1⟩ : ∃ k a1 b1, numI t a b = (k, a1, b1) := ⟨_, _, _, rfl⟩
  obtain ⟨d', a2, b2, e2⟩ : ∃ k a2 b2, numI t a1 b1 = (k, a2, b2) := ⟨_, _, _, rfl⟩
  obtain ⟨r', a3, b3, e3⟩ : ∃ k a3 b3, numI t a2 b2 = (k, a3, b3) := ⟨_, _, _, rfl⟩
  obtain ⟨x', a4, b4, e4⟩ : ∃ k a4 b4, textI t a3 b3 = (k, a4, b4) := ⟨_, _, _, rfl⟩
  have hs : stepI t a b = (⟨k', d', r', x'⟩, a4, b4) := by unfold stepI; simp only [e1, e2, e3, e4]
  constructor
  · intro h
    rw [hs] at h
    simp only [Prod.mk.injEq, UStep.mk.injEq] at h
    obtain ⟨⟨rfl, rfl, rfl, rfl⟩, rfl, rfl⟩ := h
    obtain ⟨rfl, g4⟩ := textI_inv e4
    obtain ⟨rfl, g3⟩ := numI_inv e3
    obtain ⟨rfl, g2⟩ := numI_inv e2
    obtain ⟨rfl, g1⟩ := numI_inv e1
    exact ⟨rfl, a1, a2, a3, g1, g2, g3, g4⟩
  · rintro ⟨rfl, c1, c2, c3, g1, g2, g3, g4⟩
    simp only at g1 g2 g3 g4
    unfold stepI
    simp only [numI_ok _ g1, numI_ok _ g2, numI_ok _ g3, textI_ok _ g4]
theorem stepS_iff {t : List UInt8} {a e : Nat} {b : Bool} {s : UStep} : stepS t a b = (s, e, false) ↔ b = false ∧ Reads t a s e := by
  obtain ⟨k, d, r, x⟩ := s
  obtain ⟨k', a1, b1, e1⟩ : ∃ k a1 b1, numS t a b = (k, a1, b1) := ⟨_, _, _, rfl⟩
  obtain ⟨d', a2, b2, e2⟩ : ∃ k a2 b2, numS t a1 b1 = (k, a2, b2) := ⟨_, _, _, rfl⟩
  obtain ⟨r', a3, b3, e3⟩ : ∃ k a3 b3, numS t a2 b2 = (k, a3, b3) := ⟨_, _, _, rfl⟩
  obtain ⟨x', a4, b4, e4⟩ : ∃ k a4 b4, textS t a3 b3 = (k, a4, b4) := ⟨_, _, _, rfl⟩
  have hs : stepS t a b = (⟨k', d', r', x'⟩, a4, b4) := by unfold stepS; simp only [e1, e2, e3, e4]
  constructor
  · intro h
    rw [hs] at h
    simp only [Prod.mk.injEq, UStep.mk.injEq] at h
    obtain ⟨⟨rfl, rfl, rfl, rfl⟩, rfl, rfl⟩ := h
    obtain ⟨rfl, g4⟩ := textS_inv e4
    obtain ⟨rfl, g3⟩ := numS_inv e3
    obtain ⟨rfl, g2⟩ := numS_inv e2
    obtain ⟨rfl, g1⟩ := numS_inv e1
    exact ⟨rfl, a1, a2, a3, g1, g2, g3, g4⟩
  · rintro ⟨rfl, c1, c2, c3, g1, g2, g3, g4⟩
    simp only at g1 g2 g3 g4
    unfold stepS
    simp only [numS_ok g1, numS_ok g2, numS_ok g3, textS_ok g4]
theorem Reads.eq {t : List UInt8} {a e : Nat} {s : UStep} (r : Reads t a s e) : t.drop a = stepB s ++ t.drop e ∧ a < e ∧ e ≤ t.length ∧ s.ok ∧ s.data.length ≤ 8000 := by
  obtain ⟨a1, a2, a3, g1, g2, g3, g4⟩ := r
  obtain ⟨k1, k2, k3, k4⟩ := getN_ok g1
  obtain ⟨d1, d2, d3, d4⟩ := getN_ok g2
  obtain ⟨s1, s2, s3, s4⟩ := getN_ok g3
  obtain ⟨x1, x2, x3, x4⟩ := getT_ok g4
  refine ⟨?_, by omega, x3, ⟨k4, d4, s4, by have := show maxLen = 9223372036854775807 from rfl; omega⟩, x4⟩
  unfold stepB
  rw [k1, d1, s1, x1]
  simp only [List.append_assoc]
theorem Reads.one {t : List UInt8} {a e e' : Nat} {s s' : UStep} (r : Reads t a s e) (q : Reads t a s' e') : s = s' ∧ e = e' := by
  have h1 := stepI_iff.2 ⟨rfl, r⟩
  have h2 := stepI_iff.2 ⟨rfl, q⟩
  rw [h1] at h2
  simp only [Prod.mk.injEq] at h2
  exact ⟨h2.1, h2.2.1⟩
/-- Either both readers come to the same step, or both are bad. -/
theorem step_cases (t : List UInt8) (a : Nat) : ((stepI t a false).2.2 = true ∧ (stepS t a false).2.2 = true) ∨ ∃ s e, Reads t a s e ∧ stepI t a false = (s, e, false) ∧ stepS t a false = (s, e, false) := by
  by_cases h : ∃ s e, Reads t a s e
  · obtain ⟨s, e, r⟩ := h
    exact .inr ⟨s, e, r, stepI_iff.2 ⟨rfl, r⟩, stepS_iff.2 ⟨rfl, r⟩⟩
  · left
    constructor
    · cases hb : (stepI t a false).2.2 with
      | true => rfl
      | false => exact absurd ⟨_, _, (stepI_iff (s := (stepI t a false).1) (e := (stepI t a false).2.1)).1 (eta3 hb) |>.2⟩ h
    · cases hb : (stepS t a false).2.2 with
      | true => rfl
      | false => exact absurd ⟨_, _, (stepS_iff (s := (stepS t a false).1) (e := (stepS t a false).2.1)).1 (eta3 hb) |>.2⟩ h
/-- What is read. -/
def stepR (t : List UInt8) : Option UStep := if (stepI t 0 false).2.2 = false ∧ (stepI t 0 false).2.1 = t.length ∧ stepOk (stepI t 0 false).1 8 then some (stepI t 0 false).1 else none
def step0 : UStep := ⟨0, 0, 0, []⟩
def stepOut (t : List UInt8) : UStep × Int := if 8000 < t.length then (step0, 2) else match stepR t with | some s => (s, 0) | none => (step0, 3)
abbrev outC (o : UStep × Int) : List Value := [i64 o.1.kind, i64 o.1.dst, i64 o.1.src, str o.1.data, i64 o.2]
end Go.Proofs.Ytdofcojbjcpikaa
