/- A helper of this seat's claims (contracts of the functions): what it shows is shown for every input that its statements name, on no other condition. -/
import Derived.Test.YthjbhdmjfakfaaaGreatDoorC02r
import Derived.Test.YthjbhdmjfakfaaaGreatDoorMC13a
set_option linter.unusedVariables false
set_option linter.unusedSimpArgs false
set_option maxRecDepth 100000
namespace Go.Proofs.YthjbhdmjfakfaaaGreatDoor
open Go.KH

/-! ## Steps read -/
theorem ext_beside2 {h : H} {b c : Nat} {x y z : Ob} (hn : h.get c = none) (hb : h.get b = some z) : Ext (h.set b x) ((h.set c y).set b x) := by
  have hne : b ≠ c := fun e => by subst e; rw [hb] at hn; cases hn
  rw [H.set_comm _ _ _ hne]
  exact (Ext.refl _).set (by rw [H.set_get_ne _ _ _ _ hne.symm]; exact hn) _
def stepI (t : List UInt8) (a : Nat) (bad : Bool) : UStep × Nat × Bool :=
  let k := numI t a bad; let d := numI t k.2.1 k.2.2; let s := numI t d.2.1 d.2.2; let x := textI t s.2.1 s.2.2
  (⟨k.1, d.1, s.1, x.1⟩, x.2.1, x.2.2)
def stepS (t : List UInt8) (a : Nat) (bad : Bool) : UStep × Nat × Bool :=
  let k := numS t a bad; let d := numS t k.2.1 k.2.2; let s := numS t d.2.1 d.2.2; let x := textS t s.2.1 s.2.2
  (⟨k.1, d.1, s.1, x.1⟩, x.2.1, x.2.2)
theorem numI_inv {t : List UInt8} {a e : Nat} {b : Bool} {n : Int} (h : numI t a b = (n, e, false)) : b = false ∧ getN t a = (n, e, 0) := by
  unfold numI at h
  split at h
  · rename_i hc; simp only [Prod.mk.injEq] at h; exact ⟨h.2.2, by rw [← h.1, ← h.2.1, ← hc]⟩
  · simp at h
theorem textI_inv {t x : List UInt8} {a e : Nat} {b : Bool} (h : textI t a b = (x, e, false)) : b = false ∧ getT t a = (x, e, 0) := by
  unfold textI at h
  split at h
  · rename_i hc; simp only [Prod.mk.injEq] at h; exact ⟨h.2.2, by rw [← h.1, ← h.2.1, ← hc]⟩
  · simp at h
theorem numS_inv {t : List UInt8} {a e : Nat} {b : Bool} {n : Int} (h : numS t a b = (n, e, false)) : b = false ∧ getN t a = (n, e, 0) := by
  unfold numS at h
  split at h
  · rename_i hc; simp only [Prod.mk.injEq] at h; exact ⟨hc.1, by rw [← h.1, ← h.2.1, ← hc.2]⟩
  · simp at h
theorem textS_inv {t x : List UInt8} {a e : Nat} {b : Bool} (h : textS t a b = (x, e, false)) : b = false ∧ getT t a = (x, e, 0) := by
  unfold textS at h
  split at h
  · rename_i hc; simp only [Prod.mk.injEq] at h; exact ⟨hc.1, by rw [← h.1, ← h.2.1, ← hc.2]⟩
  · simp at h
theorem numI_ok {t : List UInt8} {a e : Nat} {n : Int} (b : Bool) (h : getN t a = (n, e, 0)) : numI t a b = (n, e, b) := by unfold numI; rw [h, if_pos rfl]
theorem textI_ok {t x : List UInt8} {a e : Nat} (b : Bool) (h : getT t a = (x, e, 0)) : textI t a b = (x, e, b) := by unfold textI; rw [h, if_pos rfl]
theorem numS_ok {t : List UInt8} {a e : Nat} {n : Int} (h : getN t a = (n, e, 0)) : numS t a false = (n, e, false) := by unfold numS; rw [h, if_pos ⟨rfl, rfl⟩]
theorem textS_ok {t x : List UInt8} {a e : Nat} (h : getT t a = (x, e, 0)) : textS t a false = (x, e, false) := by unfold textS; rw [h, if_pos ⟨rfl, rfl⟩]
theorem eta3 {α : Type} {p : α × Nat × Bool} {b : Bool} (h : p.2.2 = b) : p = (p.1, p.2.1, b) := by rw [← h]
/-- A step that reads well. -/
def Reads (t : List UInt8) (a : Nat) (s : UStep) (e : Nat) : Prop := ∃ a1 a2 a3, getN t a = (s.kind, a1, 0) ∧ getN t a1 = (s.dst, a2, 0) ∧ getN t a2 = (s.src, a3, 0) ∧ getT t a3 = (s.data, e, 0)
theorem stepI_iff {t : List UInt8} {a e : Nat} {b : Bool} {s : UStep} : stepI t a b = (s, e, false) ↔ b = false ∧ Reads t a s e := by
  obtain ⟨k, d, r, x⟩ := s
  obtain ⟨k', a1, b1, e1⟩ : ∃ k a1 b1, numI t a b = (k, a1, b1) := ⟨_, _, _, rfl⟩
  obtain ⟨d', a2, b2, e2⟩ : ∃ k a2 b2, numI t a1 b1 = (k, a2, b2) := ⟨_, _, _, rfl⟩
  obtain ⟨r', a3, b3, e3⟩ : ∃ k a3 b3, numI t a2 b2 = (k, a3, b3) := ⟨_, _, _, rfl⟩
  obtain ⟨x', a4, b4, e4⟩ : ∃ k a4 b4, textI t a3 b3 = (k, a4, b4) := ⟨_, _, _, rfl⟩
  have hs : stepI t a b = (⟨k', d', r', x'⟩, a4, b4) := by unfold stepI; simp only [e1, e2, e3, e4]
  constructor
  · intro h
    rw [hs] at h
    simp only [Prod.mk.injEq, UStep.mk.injEq] at h
    obtain ⟨⟨rfl, rfl, rfl, rfl⟩, rfl, rfl⟩ := h
    obtain ⟨rfl, g4⟩ := textI_inv e4
    obtain ⟨rfl, g3⟩ := numI_inv e3
    obtain ⟨rfl, g2⟩ := numI_inv e2
    obtain ⟨rfl, g1⟩ := numI_inv e1
    exact ⟨rfl, a1, a2, a3, g1, g2, g3, g4⟩
  · rintro ⟨rfl, c1, c2, c3, g1, g2, g3, g4⟩
    simp only at g1 g2 g3 g4
    unfold stepI
    simp only [numI_ok _ g1, numI_ok _ g2, numI_ok _ g3, textI_ok _ g4]
theorem stepS_iff {t : List UInt8} {a e : Nat} {b : Bool} {s : UStep} : stepS t a b = (s, e, false) ↔ b = false ∧ Reads t a s e := by
  obtain ⟨k, d, r, x⟩ := s
  obtain ⟨k', a1, b1, e1⟩ : ∃ k a1 b1, numS t a b = (k, a1, b1) := ⟨_, _, _, rfl⟩
  obtain ⟨d', a2, b2, e2⟩ : ∃ k a2 b2, numS t a1 b1 = (k, a2, b2) := ⟨_, _, _, rfl⟩
  obtain ⟨r', a3, b3, e3⟩ : ∃ k a3 b3, numS t a2 b2 = (k, a3, b3) := ⟨_, _, _, rfl⟩
  obtain ⟨x', a4, b4, e4⟩ : ∃ k a4 b4, textS t a3 b3 = (k, a4, b4) := ⟨_, _, _, rfl⟩
  have hs : stepS t a b = (⟨k', d', r', x'⟩, a4, b4) := by unfold stepS; simp only [e1, e2, e3, e4]
  constructor
  · intro h
    rw [hs] at h
    simp only [Prod.mk.injEq, UStep.mk.injEq] at h
    obtain ⟨⟨rfl, rfl, rfl, rfl⟩, rfl, rfl⟩ := h
    obtain ⟨rfl, g4⟩ := textS_inv e4
    obtain ⟨rfl, g3⟩ := numS_inv e3
    obtain ⟨rfl, g2⟩ := numS_inv e2
    obtain ⟨rfl, g1⟩ := numS_inv e1
    exact ⟨rfl, a1, a2, a3, g1, g2, g3, g4⟩
  · rintro ⟨rfl, c1, c2, c3, g1, g2, g3, g4⟩
    simp only at g1 g2 g3 g4
    unfold stepS
    simp only [numS_ok g1, numS_ok g2, numS_ok g3, textS_ok g4]
theorem Reads.eq {t : List UInt8} {a e : Nat} {s : UStep} (r : Reads t a s e) : t.drop a = stepB s ++ t.drop e ∧ a < e ∧ e ≤ t.length ∧ s.ok ∧ s.data.length ≤ 8000 := by
  obtain ⟨a1, a2, a3, g1, g2, g3, g4⟩ := r
  obtain ⟨k1, k2, k3, k4⟩ := getN_ok g1
  obtain ⟨d1, d2, d3, d4⟩ := getN_ok g2
  obtain ⟨s1, s2, s3, s4⟩ := getN_ok g3
  obtain ⟨x1, x2, x3, x4⟩ := getT_ok g4
  refine ⟨?_, by omega, x3, ⟨k4, d4, s4, by have := show maxLen = 9223372036854775807 from rfl; omega⟩, x4⟩
  unfold stepB
  rw [k1, d1, s1, x1]
  simp only [List.append_assoc]
theorem Reads.one {t : List UInt8} {a e e' : Nat} {s s' : UStep} (r : Reads t a s e) (q : Reads t a s' e') : s = s' ∧ e = e' := by
  have h1 := stepI_iff.2 ⟨rfl, r⟩
  have h2 := stepI_iff.2 ⟨rfl, q⟩
  rw [h1] at h2
  simp only [Prod.mk.injEq] at h2
  exact ⟨h2.1, h2.2.1⟩
/-- Either both readers come to the same step, or both are bad. -/
theorem step_cases (t : List UInt8) (a : Nat) : ((stepI t a false).2.2 = true ∧ (stepS t a false).2.2 = true) ∨ ∃ s e, Reads t a s e ∧ stepI t a false = (s, e, false) ∧ stepS t a false = (s, e, false) := by
  by_cases h : ∃ s e, Reads t a s e
  · obtain ⟨s, e, r⟩ := h
    exact .inr ⟨s, e, r, stepI_iff.2 ⟨rfl, r⟩, stepS_iff.2 ⟨rfl, r⟩⟩
  · left
    constructor
    · cases hb : (stepI t a false).2.2 with
      | true => rfl
      | false => exact absurd ⟨_, _, (stepI_iff (s := (stepI t a false).1) (e := (stepI t a false).2.1)).1 (eta3 hb) |>.2⟩ h
    · cases hb : (stepS t a false).2.2 with
      | true => rfl
      | false => exact absurd ⟨_, _, (stepS_iff (s := (stepS t a false).1) (e := (stepS t a false).2.1)).1 (eta3 hb) |>.2⟩ h
/-- What is read. -/
def stepR (t : List UInt8) : Option UStep := if (stepI t 0 false).2.2 = false ∧ (stepI t 0 false).2.1 = t.length ∧ stepOk (stepI t 0 false).1 8 then some (stepI t 0 false).1 else none
def step0 : UStep := ⟨0, 0, 0, []⟩
/-- (*impl.reader).step -/
def b_impl_reader_step : C := (.seq (.ops [⟨(some 2), none, .alloc [(i64 0), (i64 0), (i64 0), (str [])]⟩])
 (.seq (.ops [q 3 (.mv (.t 0)), ⟨(some 4), none, .call (.c (.func (.func 107) #[] #[])) [(.t 3)]⟩, q 5 (.mv (.t 0)), ⟨(some 6), none, .call (.c (.func (.func 107) #[] #[])) [(.t 5)]⟩, q 7 (.mv (.t 0)), ⟨(some 8), none, .call (.c (.func (.func 107) #[] #[])) [(.t 7)]⟩, q 9 (.mv (.t 0)), ⟨(some 10), none, .call (.c (.func (.func 108) #[] #[])) [(.t 9)]⟩, q 11 (.build [(i64 0), (i64 0), (i64 0), (str [])] [(0, 1, (.t 4)), (1, 1, (.t 6)), (2, 1, (.t 8)), (3, 1, (.t 10))]), ⟨none, none, .st 4 (.t 2) (.t 11)⟩])
 .ret))
theorem w_impl_reader_step {args : List Value} {h : H} {Q : Value → H → Prop} (hl : args.length ≤ 12) (hk : wpc Tryz.prog b_impl_reader_step (retw [.cell 2 true 4] Q) (argsFr args) h) : AC Tryz.prog 187 args h Q :=
  AC.of_wpc mixedOrders Tryz.func187 (by kernel_rfl) (by kernel_rfl : prepF Tryz.prog Tryz.f187 = some ⟨12, [.cell 2 true 4], b_impl_reader_step⟩) hl hk

theorem rstep_ac {h : H} {b z a : Nat} {t : List UInt8} {bad : Bool} (hb : h.base ≤ b) (hg : h.get b = some ⟨rdc t a bad, z⟩) (ht : t.length ≤ 1048576) (ha : a ≤ 1048576) : AC Tryz.prog 187 [ptr b 0] h fun r h' =>
    r = .agg (stepI t a bad).1.cells.toArray ∧ h' = h.set b ⟨rdc t (stepI t a bad).2.1 (stepI t a bad).2.2, z⟩ := by
  refine AC_keep ?_
  unfold stepI
  refine w_impl_reader_step (by simp) ?_
  unfold b_impl_reader_step
  simp -implicitDefEqProofs only [go_sem]
  intro b2 hb2 n2
  have z2 : (b = b2) = False := eq_false fun e => by subst e; rw [hg] at n2; cases n2
  have y2 : (b2 = b) = False := eq_false fun e => by subst e; rw [hg] at n2; cases n2
  have g0 : (h.set b2 ⟨[i64 0, i64 0, i64 0, str []], 4⟩).get b = some ⟨rdc t a bad, z⟩ := by rw [H.set_get_ne _ _ _ _ (of_eq_false z2)]; exact hg
  simp -implicitDefEqProofs only [go_sem]
  refine AC_of (rnum_ac (by rw [H.set_base]; exact hb) g0 ht ha) ?_
  rintro _ _ - ⟨rfl, rfl⟩
  simp -implicitDefEqProofs only [go_sem]
  have l1 := numI_le (t := t) (bad := bad) ha ht
  refine AC_of (rnum_ac (by simp only [H.set_base]; exact hb) (H.set_get_same _ _ _) ht l1) ?_
  rintro _ _ - ⟨rfl, rfl⟩
  simp -implicitDefEqProofs only [go_sem]
  have l2 := numI_le (t := t) (bad := (numI t a bad).2.2) l1 ht
  refine AC_of (rnum_ac (by simp only [H.set_base]; exact hb) (by first | exact H.set_get_same _ _ _ | (rw [H.set_set]; exact H.set_get_same _ _ _)) ht l2) ?_
  rintro _ _ - ⟨rfl, rfl⟩
  simp -implicitDefEqProofs only [go_sem]
  have l3 := numI_le (t := t) (bad := (numI t (numI t a bad).2.1 (numI t a bad).2.2).2.2) l2 ht
  refine AC_of (rword_ac (by simp only [H.set_base]; exact hb) (by first | exact H.set_get_same _ _ _ | (rw [H.set_set]; exact H.set_get_same _ _ _)) ht l3) ?_
  rintro _ _ - ⟨rfl, rfl⟩
  simp -implicitDefEqProofs only [go_sem, z2, y2, hb2]
  exact ⟨_, ext_beside2 n2 hg, rfl, rfl⟩
/-- impl.stepRead -/
def b_impl_stepRead : C := (.seq (.ops [⟨(some 2), none, .alloc [(i64 0), (i64 0), (i64 0), (str [])]⟩, q 3 (.mv (.c (.bool false)))])
 (.seq (.ops [q 6 (.mv (.t 0)), q 7 (.build [(str []), (i64 0), (.bool false)] [(0, 1, (.t 6))]), ⟨(some 8), none, .box (.t 7)⟩, q 4 (.mv (.t 8))])
 (.seq (.ops [q 9 (.mv (.t 4)), ⟨(some 10), none, .call (.c (.func (.func 187) #[] #[])) [(.t 9)]⟩, ⟨(some 5), none, .alloc [(i64 0), (i64 0), (i64 0), (str [])]⟩, ⟨none, none, .st 4 (.t 5) (.t 10)⟩])
 (.seq (.seq (.ops [q 11 (.mv (.t 4)), q 12 (.nck (.t 11)), q 13 (.fld 2 (.t 12)), q 14 (.ld false 1 (.t 13)), q 15 (.mv (.t 14)), qg 16 15 false (.mv (.t 4)), qg 17 15 false (.nck (.t 16)), qg 18 15 false (.fld 1 (.t 17)), qg 19 15 false (.ld false 1 (.t 18)), qg 20 15 false (.mv (.t 0)), qg 21 15 false (.slen (.t 20)), qg 22 15 false (.bin .neq (.t 19) (.t 21)), q 23 (.pick (.t 15) (.c (.bool true)) (.t 22)), q 24 (.mv (.t 23)), qg 25 24 false (.ld true 4 (.t 5)), ⟨(some 26), (some (24, false)), .call (.c (.func (.func 122) #[] #[])) [(.t 25), (.c (i64 8))]⟩, qg 27 24 false (.un .not (.t 26)), q 28 (.pick (.t 24) (.c (.bool true)) (.t 27))])
 (.cond (.t 28) (.seq (.ops [q 29 (.build [(i64 0), (i64 0), (i64 0), (str [])] []), ⟨none, none, .st 4 (.t 2) (.t 29)⟩, q 3 (.mv (.c (.bool false)))])
 .ret) .skip))
 (.seq (.ops [q 30 (.ld true 4 (.t 5)), ⟨none, none, .st 4 (.t 2) (.t 30)⟩, q 3 (.mv (.c (.bool true)))])
 .ret)))))
theorem w_impl_stepRead {args : List Value} {h : H} {Q : Value → H → Prop} (hl : args.length ≤ 31) (hk : wpc Tryz.prog b_impl_stepRead (retw [.cell 2 true 4, .tmp 3] Q) (argsFr args) h) : AC Tryz.prog 110 args h Q :=
  AC.of_wpc mixedOrders Tryz.func110 (by kernel_rfl) (by kernel_rfl : prepF Tryz.prog Tryz.f110 = some ⟨31, [.cell 2 true 4, .tmp 3], b_impl_stepRead⟩) hl hk

theorem implStepR_pc (h : H) (t : List UInt8) (ht : t.length ≤ 8000) : PC Tryz.prog 110 [str t] h (.tuple #[.agg ((stepR t).getD step0).cells.toArray, .bool (stepR t).isSome]) := by
  obtain ⟨s, e, bad, hs⟩ : ∃ s e bad, stepI t 0 false = (s, e, bad) := ⟨_, _, _, rfl⟩
  unfold stepR
  rw [hs]
  simp only
  refine PC_of ?_
  refine w_impl_stepRead (by simp) ?_
  unfold b_impl_stepRead
  simp -implicitDefEqProofs only [go_sem]
  intro b2 hb_b2 n_b2
  simp -implicitDefEqProofs only [go_sem, hb_b2]
  intro b4 hb_b4 m0_b4
  obtain ⟨z_b4_b2, y_b4_b2, n_b4⟩ := fne m0_b4
  simp only [H.set_base] at hb_b4
  simp -implicitDefEqProofs only [go_sem, hb_b2, hb_b4, z_b4_b2, y_b4_b2]
  refine AC_of (rstep_ac (a := 0) (bad := false) (by simp only [H.set_base]; assumption) (H.set_get_same _ _ _) (by omega) (by omega)) ?_
  rintro _ _ - ⟨rfl, rfl⟩
  rw [hs, H.set_set]
  simp -implicitDefEqProofs only [go_sem, hb_b2, hb_b4, z_b4_b2, y_b4_b2]
  intro b5 hb_b5 m0_b5
  obtain ⟨z_b5_b4, y_b5_b4, m1_b5⟩ := fne m0_b5
  obtain ⟨z_b5_b2, y_b5_b2, n_b5⟩ := fne m1_b5
  simp only [H.set_base] at hb_b5
  simp -implicitDefEqProofs only [go_sem, hb_b2, hb_b4, z_b4_b2, y_b4_b2, hb_b5, z_b5_b4, y_b5_b4, z_b5_b2, y_b5_b2]
  by_cases hq : bad = false ∧ e = t.length
  · obtain ⟨rfl, rfl⟩ := hq
    simp -implicitDefEqProofs only [go_sem, hb_b2, hb_b4, z_b4_b2, y_b4_b2, hb_b5, z_b5_b4, y_b5_b4, z_b5_b2, y_b5_b2]
    refine (isStep_pc _ s (by unfold in64; omega) (by omega)).use ?_
    simp -implicitDefEqProofs only [go_sem, hb_b2, hb_b4, z_b4_b2, y_b4_b2, hb_b5, z_b5_b4, y_b5_b4, z_b5_b2, y_b5_b2]
    refine Br.of (fun h1 => ?_) (fun h1 => ?_)
    · simp -implicitDefEqProofs only [go_sem, h1, hb_b2, hb_b4, z_b4_b2, y_b4_b2, hb_b5, z_b5_b4, y_b5_b4, z_b5_b2, y_b5_b2]
      exact ⟨((((Ext.refl _).set' n_b2 _).set' n_b4 _).set' n_b5 _), rfl⟩
    · simp -implicitDefEqProofs only [go_sem, h1, hb_b2, hb_b4, z_b4_b2, y_b4_b2, hb_b5, z_b5_b4, y_b5_b4, z_b5_b2, y_b5_b2]
      exact ⟨((((Ext.refl _).set' n_b2 _).set' n_b4 _).set' n_b5 _), rfl⟩
  · cases bad
    · have h1 : ¬ e = t.length := fun h => hq ⟨rfl, h⟩
      simp -implicitDefEqProofs only [go_sem, h1, show ¬ ((e : Int) = (t.length : Int)) by omega, hb_b2, hb_b4, z_b4_b2, y_b4_b2, hb_b5, z_b5_b4, y_b5_b4, z_b5_b2, y_b5_b2]
      exact ⟨((((Ext.refl _).set' n_b2 _).set' n_b4 _).set' n_b5 _), rfl⟩
    · simp -implicitDefEqProofs only [go_sem, hb_b2, hb_b4, z_b4_b2, y_b4_b2, hb_b5, z_b5_b4, y_b5_b4, z_b5_b2, y_b5_b2]
      exact ⟨((((Ext.refl _).set' n_b2 _).set' n_b4 _).set' n_b5 _), rfl⟩
def stepOut (t : List UInt8) : UStep × Int := if 8000 < t.length then (step0, 2) else match stepR t with | some s => (s, 0) | none => (step0, 3)
abbrev outC (o : UStep × Int) : List Value := [i64 o.1.kind, i64 o.1.dst, i64 o.1.src, str o.1.data, i64 o.2]
/-- spec.StepBytes -/
def b_spec_StepBytes : C := (.seq (.ops [⟨(some 1), none, .box (.t 0)⟩, q 2 (.mv (.c (str [])))])
 (.seq (.seq (.ops [q 3 (.ld true 4 (.t 1)), ⟨(some 4), none, .call (.c (.func (.func 119) #[] #[])) [(.t 3), (.c (i64 8))]⟩, q 5 (.un .not (.t 4))])
 (.cond (.t 5) (.seq (.ops [q 2 (.mv (.c (str [])))])
 .ret) .skip))
 (.seq (.ops [q 6 (.ld true 4 (.t 1)), ⟨(some 7), none, .call (.c (.func (.func 57) #[] #[])) [(.t 6)]⟩, q 2 (.mv (.t 7))])
 .ret)))
theorem w_spec_StepBytes {args : List Value} {h : H} {Q : Value → H → Prop} (hl : args.length ≤ 8) (hk : wpc Tryz.prog b_spec_StepBytes (retw [.tmp 2] Q) (argsFr args) h) : AC Tryz.prog 116 args h Q :=
  AC.of_wpc mixedOrders Tryz.func116 (by kernel_rfl) (by kernel_rfl : prepF Tryz.prog Tryz.f116 = some ⟨8, [.tmp 2], b_spec_StepBytes⟩) hl hk

theorem specStepBytes_pc (h : H) (s : UStep) (hs : s.ok) (hd : s.data.length ≤ 8000) : PC Tryz.prog 116 [.agg s.cells.toArray] h (str (if stepOk s 8 then stepB s else [])) := by
  refine PC_of ?_
  refine w_spec_StepBytes (by simp) ?_
  unfold b_spec_StepBytes
  simp -implicitDefEqProofs only [go_sem]
  intro b1 hb_b1 n_b1
  simp -implicitDefEqProofs only [go_sem, hb_b1]
  refine (specStepRight_pc _ s).use ?_
  simp -implicitDefEqProofs only [go_sem, hb_b1]
  refine Br.of (fun h1 => ?_) (fun h1 => ?_)
  · simp -implicitDefEqProofs only [go_sem, h1, hb_b1]
    refine (l06Bytes_pc _ s hs hd).use ?_
    simp -implicitDefEqProofs only [go_sem, h1, hb_b1]
    exact ((Ext.refl _).set' n_b1 _)
  · simp -implicitDefEqProofs only [go_sem, h1, hb_b1]
    exact ((Ext.refl _).set' n_b1 _)
theorem stepR_of {t : List UInt8} {s : UStep} {e : Nat} (r : Reads t 0 s e) : stepR t = if e = t.length ∧ stepOk s 8 then some s else none := by
  unfold stepR; rw [stepI_iff.2 ⟨rfl, r⟩]; simp only [true_and]
theorem bytes_of {t : List UInt8} {s : UStep} {e : Nat} (r : Reads t 0 s e) : (if stepOk s 8 then stepB s else []) = t ↔ e = t.length ∧ stepOk s 8 := by
  obtain ⟨h1, h2, h3, _, _⟩ := r.eq
  rw [List.drop_zero] at h1
  constructor
  · intro h
    split at h
    · rename_i hk
      refine ⟨?_, hk⟩
      rw [h] at h1
      have := congrArg List.length h1
      simp only [List.length_append, List.length_drop] at this
      omega
    · rw [← h] at h3; simp at h3; omega
  · rintro ⟨rfl, hk⟩
    rw [if_pos hk]
    rw [List.drop_length, List.append_nil] at h1
    exact h1.symm
theorem stepR_bad {t : List UInt8} (h : (stepI t 0 false).2.2 = true) : stepR t = none := by unfold stepR; rw [h]; simp
/-- spec.StepRead -/
def b_spec_StepRead : C := (.seq (.ops [⟨(some 2), none, .alloc [(i64 0), (i64 0), (i64 0), (str []), (i64 0)]⟩])
 (.seq (.seq (.ops [q 5 (.mv (.t 0)), q 6 (.slen (.t 5)), q 7 (.bin .gtr (.t 6) (.c (i64 8000)))])
 (.cond (.t 7) (.seq (.ops [q 8 (.build [(i64 0), (i64 0), (i64 0), (str []), (i64 0)] [(4, 1, (.c (i64 2)))]), ⟨none, none, .st 5 (.t 2) (.t 8)⟩])
 .ret) .skip))
 (.seq (.ops [q 9 (.mv (.t 0)), q 10 (.build [(str []), (i64 0), (.bool false)] [(0, 1, (.t 9))]), ⟨(some 11), none, .box (.t 10)⟩, q 3 (.mv (.t 11))])
 (.seq (.ops [q 12 (.mv (.t 3)), ⟨(some 13), none, .call (.c (.func (.func 58) #[] #[])) [(.t 12)]⟩, q 14 (.build [(i64 0), (i64 0), (i64 0), (str [])] [(0, 1, (.t 13))]), ⟨(some 4), none, .alloc [(i64 0), (i64 0), (i64 0), (str [])]⟩, ⟨none, none, .st 4 (.t 4) (.t 14)⟩])
 (.seq (.ops [q 15 (.mv (.t 3)), ⟨(some 16), none, .call (.c (.func (.func 58) #[] #[])) [(.t 15)]⟩, q 17 (.fld 1 (.t 4)), ⟨none, none, .st 1 (.t 17) (.t 16)⟩])
 (.seq (.ops [q 18 (.mv (.t 3)), ⟨(some 19), none, .call (.c (.func (.func 58) #[] #[])) [(.t 18)]⟩, q 20 (.fld 2 (.t 4)), ⟨none, none, .st 1 (.t 20) (.t 19)⟩])
 (.seq (.ops [q 21 (.mv (.t 3)), ⟨(some 22), none, .call (.c (.func (.func 59) #[] #[])) [(.t 21)]⟩, q 23 (.fld 3 (.t 4)), ⟨none, none, .st 1 (.t 23) (.t 22)⟩])
 (.seq (.seq (.ops [q 24 (.mv (.t 3)), q 25 (.nck (.t 24)), q 26 (.fld 2 (.t 25)), q 27 (.ld false 1 (.t 26)), q 28 (.mv (.t 27)), qg 29 28 false (.ld true 4 (.t 4)), ⟨(some 30), (some (28, false)), .call (.c (.func (.func 116) #[] #[])) [(.t 29)]⟩, qg 31 28 false (.mv (.t 0)), qg 32 28 false (.bin .neq (.t 30) (.t 31)), q 33 (.pick (.t 28) (.c (.bool true)) (.t 32))])
 (.cond (.t 33) (.seq (.ops [q 34 (.build [(i64 0), (i64 0), (i64 0), (str []), (i64 0)] [(4, 1, (.c (i64 3)))]), ⟨none, none, .st 5 (.t 2) (.t 34)⟩])
 .ret) .skip))
 (.seq (.ops [q 35 (.ld true 4 (.t 4)), q 36 (.build [(i64 0), (i64 0), (i64 0), (str []), (i64 0)] [(0, 4, (.t 35))]), ⟨none, none, .st 5 (.t 2) (.t 36)⟩])
 .ret)))))))))
theorem w_spec_StepRead {args : List Value} {h : H} {Q : Value → H → Prop} (hl : args.length ≤ 37) (hk : wpc Tryz.prog b_spec_StepRead (retw [.cell 2 true 5] Q) (argsFr args) h) : AC Tryz.prog 60 args h Q :=
  AC.of_wpc mixedOrders Tryz.func60 (by kernel_rfl) (by kernel_rfl : prepF Tryz.prog Tryz.f60 = some ⟨37, [.cell 2 true 5], b_spec_StepRead⟩) hl hk

theorem specStepRead_pc (h : H) (t : List UInt8) (ht : t.length ≤ maxLen) : PC Tryz.prog 60 [str t] h (.agg (outC (stepOut t)).toArray) := by
  refine PC_of ?_
  unfold stepOut
  refine w_spec_StepRead (by simp) ?_
  unfold b_spec_StepRead
  simp -implicitDefEqProofs only [go_sem]
  intro b2 hb_b2 n_b2
  by_cases hl : 8000 < t.length
  · simp -implicitDefEqProofs only [go_sem, show (8000 : Int) < (t.length : Int) by omega, hl, hb_b2]
    exact ⟨((Ext.refl _).set' n_b2 _), rfl⟩
  have ht8 : t.length ≤ 8000 := by omega
  simp -implicitDefEqProofs only [go_sem, show ¬ ((8000 : Int) < (t.length : Int)) by omega, hl, hb_b2]
  intro b3 hb_b3 m0_b3
  obtain ⟨z_b3_b2, y_b3_b2, n_b3⟩ := fne m0_b3
  simp only [H.set_base] at hb_b3
  simp -implicitDefEqProofs only [go_sem, hb_b2, hb_b3, z_b3_b2, y_b3_b2]
  obtain ⟨k, a1, c1, e1⟩ : ∃ k a1 c1, numS t 0 false = (k, a1, c1) := ⟨_, _, _, rfl⟩
  obtain ⟨d, a2, c2, e2⟩ : ∃ k a2 c2, numS t a1 c1 = (k, a2, c2) := ⟨_, _, _, rfl⟩
  obtain ⟨r, a3, c3, e3⟩ : ∃ k a3 c3, numS t a2 c2 = (k, a3, c3) := ⟨_, _, _, rfl⟩
  obtain ⟨x, a4, c4, e4⟩ : ∃ k a4 c4, textS t a3 c3 = (k, a4, c4) := ⟨_, _, _, rfl⟩
  have l1 := numS_eq e1 (by omega) ht8
  have l2 := numS_eq e2 l1 ht8
  have l3 := numS_eq e3 l2 ht8
  have hs : stepS t 0 false = (⟨k, d, r, x⟩, a4, c4) := by unfold stepS; simp only [e1, e2, e3, e4]
  refine AC_of (srnum e1 (by simp only [H.set_base]; assumption) (H.set_get_same _ _ _) ht8 (by omega)) ?_
  rintro _ _ - ⟨rfl, rfl⟩
  rw [H.set_set]
  simp -implicitDefEqProofs only [go_sem, hb_b2, hb_b3, z_b3_b2, y_b3_b2]
  intro b4 hb_b4 m0_b4
  obtain ⟨z_b4_b3, y_b4_b3, m1_b4⟩ := fne m0_b4
  obtain ⟨z_b4_b2, y_b4_b2, n_b4⟩ := fne m1_b4
  simp only [H.set_base] at hb_b4
  have y43 := of_eq_false y_b4_b3
  have z43 := of_eq_false z_b4_b3
  simp -implicitDefEqProofs only [go_sem, hb_b2, hb_b3, z_b3_b2, y_b3_b2, hb_b4, z_b4_b3, y_b4_b3, z_b4_b2, y_b4_b2]
  refine AC_of (srnum e2 (by simp only [H.set_base]; assumption) (by rw [H.set_get_ne _ _ _ _ y43]; exact H.set_get_same _ _ _) ht8 l1) ?_
  rintro _ _ - ⟨rfl, rfl⟩
  rw [set_over z43]
  simp -implicitDefEqProofs only [go_sem, hb_b2, hb_b3, z_b3_b2, y_b3_b2, hb_b4, z_b4_b3, y_b4_b3, z_b4_b2, y_b4_b2]
  refine AC_of (srnum e3 (by simp only [H.set_base]; assumption) (by rw [H.set_get_ne _ _ _ _ y43]; exact H.set_get_same _ _ _) ht8 l2) ?_
  rintro _ _ - ⟨rfl, rfl⟩
  rw [set_over z43]
  simp -implicitDefEqProofs only [go_sem, hb_b2, hb_b3, z_b3_b2, y_b3_b2, hb_b4, z_b4_b3, y_b4_b3, z_b4_b2, y_b4_b2]
  refine AC_of (srtext e4 (by simp only [H.set_base]; assumption) (by rw [H.set_get_ne _ _ _ _ y43]; exact H.set_get_same _ _ _) ht8 l3) ?_
  rintro _ _ - ⟨rfl, rfl⟩
  rw [set_over z43]
  rcases step_cases t 0 with ⟨q1, q2⟩ | ⟨s, e, hr, q1, q2⟩
  · rw [hs] at q2
    simp only at q2
    subst q2
    rw [stepR_bad q1]
    simp -implicitDefEqProofs only [go_sem, hb_b2, hb_b3, z_b3_b2, y_b3_b2, hb_b4, z_b4_b3, y_b4_b3, z_b4_b2, y_b4_b2]
    exact ⟨((((Ext.refl _).set' n_b2 _).set' n_b3 _).set' n_b4 _), by rw [if_neg hl]; rfl⟩
  · rw [hs] at q2
    simp only [Prod.mk.injEq] at q2
    obtain ⟨rfl, rfl, rfl⟩ := q2
    have hq := hr.eq
    rw [stepR_of hr]
    simp -implicitDefEqProofs only [go_sem, hb_b2, hb_b3, z_b3_b2, y_b3_b2, hb_b4, z_b4_b3, y_b4_b3, z_b4_b2, y_b4_b2]
    refine (specStepBytes_pc _ ⟨k, d, r, x⟩ hq.2.2.2.1 hq.2.2.2.2).use ?_
    have hb := bytes_of hr
    by_cases hc : a4 = t.length ∧ stepOk ⟨k, d, r, x⟩ 8
    · simp -implicitDefEqProofs only [go_sem, hb.2 hc, hb_b2, hb_b3, z_b3_b2, y_b3_b2, hb_b4, z_b4_b3, y_b4_b3, z_b4_b2, y_b4_b2]
      exact ⟨((((Ext.refl _).set' n_b2 _).set' n_b3 _).set' n_b4 _), by rw [if_neg hl, if_pos hc]⟩
    · have hn : ¬ (if stepOk ⟨k, d, r, x⟩ 8 then stepB ⟨k, d, r, x⟩ else []) = t := fun h => hc (hb.1 h)
      simp -implicitDefEqProofs only [go_sem, hn, hb_b2, hb_b3, z_b3_b2, y_b3_b2, hb_b4, z_b4_b3, y_b4_b3, z_b4_b2, y_b4_b2]
      exact ⟨((((Ext.refl _).set' n_b2 _).set' n_b3 _).set' n_b4 _), by rw [if_neg hl, if_neg hc]; rfl⟩
theorem stepR_nil : stepR [] = none := by
  have : ¬ ((stepI [] 0 false).2.2 = false) := fun h => by
    have := (stepI_iff (s := (stepI [] 0 false).1) (e := (stepI [] 0 false).2.1)).1 (eta3 h)
    have := this.2.eq
    simp at this
    omega
  unfold stepR
  rw [if_neg (fun h => this h.1)]
theorem stepR_some {w : List UInt8} {s : UStep} (h : stepR w = some s) : stepB s = w ∧ stepOk s 8 ∧ s.ok := by
  unfold stepR at h
  split at h
  · rename_i hc
    simp only [Option.some.injEq] at h
    have r := ((stepI_iff (s := (stepI w 0 false).1) (e := (stepI w 0 false).2.1)).1 (eta3 hc.1)).2
    rw [h] at r
    have q := r.eq
    have e := (bytes_of r).2 ⟨hc.2.1, by rw [← h]; exact hc.2.2⟩
    rw [if_pos (by rw [← h]; exact hc.2.2)] at e
    exact ⟨e, by rw [← h]; exact hc.2.2, q.2.2.2.1⟩
  · cases h
end Go.Proofs.YthjbhdmjfakfaaaGreatDoor
