/- A helper of this seat's claims (contracts of the functions): what it shows is shown for every input that its statements name, on no other condition. -/
import Derived.Test.YthheclnjaemjnaaC13b
set_option linter.unusedVariables false
set_option linter.unusedSimpArgs false
set_option maxRecDepth 100000
namespace Go.Proofs.Ythheclnjaemjnaa
open Go.KH

/-! ## Records read -/
theorem getN_drop (t : List UInt8) (a b : Nat) : getN t (a + b) = ((getN (t.drop a) b).1, (if (getN (t.drop a) b).2.2 = 0 then a + (getN (t.drop a) b).2.1 else 0), (getN (t.drop a) b).2.2) := by
  obtain ⟨c, u, k, hd⟩ : ∃ c u k, decN 0 0 (t.drop (a + b)) = (c, u, k) := ⟨_, _, _, rfl⟩
  have hd' : decN 0 0 ((t.drop a).drop b) = (c, u, k) := by rw [List.drop_drop]; exact hd
  rw [getN_of hd, getN_of hd']
  by_cases hc : c = 0
  · subst hc; simp only [if_true]; rw [Nat.add_assoc]
  · simp only [if_neg hc]
theorem getN_sub {t : List UInt8} {a b e : Nat} {n : Int} (h : getN (t.drop a) b = (n, e, 0)) : getN t (a + b) = (n, a + e, 0) := by rw [getN_drop, h]; rfl
theorem getN_sup {t : List UInt8} {a b e : Nat} {n : Int} (h : getN t (a + b) = (n, e, 0)) : ∃ e', e = a + e' ∧ getN (t.drop a) b = (n, e', 0) := by
  rw [getN_drop] at h
  simp only [Prod.mk.injEq] at h
  obtain ⟨h1, h2, h3⟩ := h
  rw [if_pos h3] at h2
  exact ⟨_, h2.symm, by rw [← h1, ← h3]⟩
theorem getT_sub {t x : List UInt8} {a b e : Nat} (h : getT (t.drop a) b = (x, e, 0)) (ha : a ≤ t.length) : getT t (a + b) = (x, a + e, 0) := by
  obtain ⟨n, s, c, hg⟩ : ∃ n s c, getN (t.drop a) b = (n, s, c) := ⟨_, _, _, rfl⟩
  unfold getT at h ⊢
  rw [hg] at h
  simp only at h
  split at h
  · rename_i hc; simp only [Prod.mk.injEq] at h; exact absurd h.2.2 hc
  · rename_i hc
    have hc : c = 0 := by simpa using hc
    subst hc
    rw [getN_sub hg]
    simp only
    split at h
    · simp at h
    · rename_i hn
      split at h
      · simp at h
      · rename_i hl
        rw [List.length_drop] at hl
        simp only [Prod.mk.injEq, and_true] at h
        obtain ⟨h1, h2⟩ := h
        rw [if_neg (by simp), if_neg hn, if_neg (by omega)]
        simp only [Prod.mk.injEq, and_true]
        refine ⟨?_, by omega⟩
        rw [← h1, List.take_drop, List.drop_drop, Nat.add_assoc]
theorem getT_sup {t x : List UInt8} {a b e : Nat} (h : getT t (a + b) = (x, e, 0)) (ha : a ≤ t.length) : ∃ e', e = a + e' ∧ getT (t.drop a) b = (x, e', 0) := by
  obtain ⟨n, s, c, hg⟩ : ∃ n s c, getN t (a + b) = (n, s, c) := ⟨_, _, _, rfl⟩
  have h0 := h
  unfold getT at h
  rw [hg] at h
  simp only at h
  split at h
  · rename_i hc; simp only [Prod.mk.injEq] at h; exact absurd h.2.2 hc
  · rename_i hc
    have hc : c = 0 := by simpa using hc
    subst hc
    obtain ⟨s', rfl, hg'⟩ := getN_sup hg
    split at h
    · simp at h
    · rename_i hn
      split at h
      · simp at h
      · rename_i hl
        simp only [Prod.mk.injEq, and_true] at h
        obtain ⟨h1, h2⟩ := h
        have h3 : getT (t.drop a) b = (((t.drop a).take (s' + n.toNat)).drop s', s' + n.toNat, 0) := by
          unfold getT
          rw [hg']
          simp only
          rw [if_neg (by simp), if_neg hn, if_neg (by rw [List.length_drop]; omega)]
        refine ⟨s' + n.toNat, by omega, ?_⟩
        rw [h3, ← h1, List.take_drop, List.drop_drop, Nat.add_assoc]
theorem reads_drop {t : List UInt8} {a e : Nat} {s : UStep} (ha : a ≤ t.length) : Reads (t.drop a) 0 s e ↔ Reads t a s (a + e) := by
  constructor
  · rintro ⟨a1, a2, a3, g1, g2, g3, g4⟩
    exact ⟨a + a1, a + a2, a + a3, getN_sub g1, getN_sub g2, getN_sub g3, getT_sub g4 ha⟩
  · rintro ⟨a1, a2, a3, g1, g2, g3, g4⟩
    obtain ⟨b1, rfl, k1⟩ := getN_sup (b := 0) g1
    obtain ⟨b2, rfl, k2⟩ := getN_sup g2
    obtain ⟨b3, rfl, k3⟩ := getN_sup g3
    obtain ⟨b4, e4, k4⟩ := getT_sup g4 ha
    obtain rfl : e = b4 := by omega
    exact ⟨b1, b2, b3, k1, k2, k3, k4⟩
theorem stepI_flag {t : List UInt8} {a : Nat} {b : Bool} : (stepI t a b).2.2 = false ↔ b = false ∧ ∃ s e, Reads t a s e := by
  constructor
  · intro h
    have := (stepI_iff (s := (stepI t a b).1) (e := (stepI t a b).2.1)).1 (eta3 h)
    exact ⟨this.1, _, _, this.2⟩
  · rintro ⟨rfl, s, e, r⟩
    rw [stepI_iff.2 ⟨rfl, r⟩]
theorem stepR_drop {t : List UInt8} {a : Nat} (ha : a ≤ t.length) : stepR (t.drop a) = if (stepI t a false).2.2 = false ∧ (stepI t a false).2.1 = t.length ∧ stepOk (stepI t a false).1 8 then some (stepI t a false).1 else none := by
  by_cases h : ∃ s e, Reads t a s e
  · obtain ⟨s, e, r⟩ := h
    have hle := r.eq.2.1
    have hle2 := r.eq.2.2.1
    rw [stepI_iff.2 ⟨rfl, r⟩]
    obtain ⟨e', rfl⟩ : ∃ e', e = a + e' := ⟨e - a, by omega⟩
    rw [stepR_of ((reads_drop ha).2 r)]
    simp only [true_and, List.length_drop]
    by_cases hk : stepOk s 8
    · by_cases he : e' = t.length - a
      · rw [if_pos ⟨he, hk⟩, if_pos ⟨by omega, hk⟩]
      · rw [if_neg (fun h => he h.1), if_neg (fun h => he (by omega))]
    · rw [if_neg (fun h => hk h.2), if_neg (fun h => hk h.2)]
  · rw [if_neg (fun hh => h (stepI_flag.1 hh.1).2)]
    unfold stepR
    rw [if_neg]
    intro hh
    obtain ⟨_, s, e, r⟩ := stepI_flag.1 hh.1
    exact h ⟨s, a + e, (reads_drop ha).1 r⟩
/-- What a record says. -/
def recI (i : List UInt8) (n : Int) : UStep × Int :=
  if (getN i 0).2.2 = 0 then match stepR (i.drop (getN i 0).2.1) with
    | some s => if 0 ≤ (getN i 0).1 ∧ (getN i 0).1 ≤ 1000000 then (if (getN i 0).1 = n then (s, 0) else (step0, 6)) else (step0, 3)
    | none => (step0, 3)
  else (step0, 3)
def recR (t : List UInt8) (n : Int) : UStep × Int := if (unsealB t).2 ≠ 0 then (step0, (unsealB t).2) else recI (unsealB t).1 n
def recOut (t : List UInt8) (n : Int) : UStep × Int := if 8000 < t.length then (step0, 2) else recR t n
/-- impl.recordRead -/
def b_impl_recordRead : C := (.seq (.ops [⟨(some 4), none, .alloc [(i64 0), (i64 0), (i64 0), (str [])]⟩, q 5 (.mv (.c (i64 0)))])
 (.seq (.ops [q 12 (.mv (.t 0)), ⟨(some 13), none, .call (.c (.func (.func 138) #[] #[])) [(.t 12)]⟩, q 11 (.mv (.t 13)), q 14 (.ext 0 (.t 11)), q 15 (.ext 1 (.t 11)), q 6 (.mv (.t 14)), q 7 (.mv (.t 15))])
 (.seq (.seq (.ops [q 16 (.mv (.t 7)), q 17 (.bin .neq (.t 16) (.c (i64 0)))])
 (.cond (.t 17) (.seq (.ops [q 18 (.build [(i64 0), (i64 0), (i64 0), (str [])] []), q 19 (.mv (.t 7)), ⟨none, none, .st 4 (.t 4) (.t 18)⟩, q 5 (.mv (.t 19))])
 .ret) .skip))
 (.seq (.ops [q 20 (.mv (.t 6)), q 21 (.build [(str []), (i64 0), (.bool false)] [(0, 1, (.t 20))]), ⟨(some 22), none, .box (.t 21)⟩, q 8 (.mv (.t 22))])
 (.seq (.ops [q 23 (.mv (.t 8)), ⟨(some 24), none, .call (.c (.func (.func 139) #[] #[])) [(.t 23)]⟩, q 9 (.mv (.t 24))])
 (.seq (.ops [q 25 (.mv (.t 8)), ⟨(some 26), none, .call (.c (.func (.func 140) #[] #[])) [(.t 25)]⟩, ⟨(some 10), none, .alloc [(i64 0), (i64 0), (i64 0), (str [])]⟩, ⟨none, none, .st 4 (.t 10) (.t 26)⟩])
 (.seq (.block 0 (.seq (.ops [q 28 (.mv (.t 8)), q 29 (.nck (.t 28)), q 30 (.fld 2 (.t 29)), q 31 (.ld false 1 (.t 30)), q 32 (.mv (.t 31)), qg 33 32 false (.mv (.t 8)), qg 34 32 false (.nck (.t 33)), qg 35 32 false (.fld 1 (.t 34)), qg 36 32 false (.ld false 1 (.t 35)), qg 37 32 false (.mv (.t 6)), qg 38 32 false (.slen (.t 37)), qg 39 32 false (.bin .neq (.t 36) (.t 38)), q 40 (.pick (.t 32) (.c (.bool true)) (.t 39)), q 41 (.mv (.t 40)), qg 42 41 false (.mv (.t 9)), ⟨(some 43), (some (41, false)), .call (.c (.func (.func 69) #[] #[])) [(.t 42)]⟩, qg 44 41 false (.un .not (.t 43)), q 45 (.pick (.t 41) (.c (.bool true)) (.t 44)), q 46 (.mv (.t 45)), qg 47 46 false (.ld true 4 (.t 10)), ⟨(some 48), (some (46, false)), .call (.c (.func (.func 70) #[] #[])) [(.t 47), (.c (i64 8))]⟩, qg 49 46 false (.un .not (.t 48)), q 50 (.pick (.t 46) (.c (.bool true)) (.t 49)), q 27 (.mv (.t 50))])
 (.cond (.t 27) (.seq (.ops [q 51 (.build [(i64 0), (i64 0), (i64 0), (str [])] []), ⟨none, none, .st 4 (.t 4) (.t 51)⟩, q 5 (.mv (.c (i64 3)))])
 .ret) (.seq (.ops [q 53 (.mv (.t 9)), q 54 (.mv (.t 1)), q 55 (.bin .neq (.t 53) (.t 54)), q 52 (.mv (.t 55))])
 (.cond (.t 52) (.seq (.ops [q 56 (.build [(i64 0), (i64 0), (i64 0), (str [])] []), ⟨none, none, .st 4 (.t 4) (.t 56)⟩, q 5 (.mv (.c (i64 6)))])
 .ret) .skip)))))
 (.seq (.ops [q 57 (.ld true 4 (.t 10)), ⟨none, none, .st 4 (.t 4) (.t 57)⟩, q 5 (.mv (.c (i64 0)))])
 .ret))))))))
theorem w_impl_recordRead {args : List Value} {h : H} {Q : Value → H → Prop} (hl : args.length ≤ 58) (hk : wpc Try.prog b_impl_recordRead (retw [.cell 4 true 4, .tmp 5] Q) (argsFr args) h) : AC Try.prog 75 args h Q :=
  AC.of_wpc mixedOrders Try.func75 (by kernel_rfl) (by kernel_rfl : prepF Try.prog Try.f75 = some ⟨58, [.cell 4 true 4, .tmp 5], b_impl_recordRead⟩) hl hk

theorem getN_eta {t : List UInt8} {a : Nat} (hc : (getN t a).2.2 = 0) : getN t a = ((getN t a).1, (getN t a).2.1, 0) := by rw [← hc]
theorem recI_bad {i : List UInt8} {n k : Int} {a1 e : Nat} {c1 : Bool} {s : UStep} (e1 : numI i 0 false = (k, a1, c1)) (hs : stepI i a1 c1 = (s, e, true)) : recI i n = (step0, 3) := by
  unfold recI
  by_cases h0 : (getN i 0).2.2 = 0
  · rw [if_pos h0]
    have h9 := numI_ok false (getN_eta h0)
    rw [e1] at h9
    simp only [Prod.mk.injEq] at h9
    obtain ⟨_, h2, rfl⟩ := h9
    have hle := (getN_ok (getN_eta h0)).2.2.1
    rw [← h2] at hle ⊢
    rw [stepR_drop hle, hs, if_neg (by simp)]
  · rw [if_neg h0]
theorem recI_fine {i : List UInt8} {n k : Int} {a1 e : Nat} {c1 : Bool} {s : UStep} (e1 : numI i 0 false = (k, a1, c1)) (hs : stepI i a1 c1 = (s, e, false)) : recI i n = if e = i.length ∧ stepOk s 8 ∧ 0 ≤ k ∧ k ≤ 1000000 then (if k = n then (s, 0) else (step0, 6)) else (step0, 3) := by
  obtain ⟨rfl, r⟩ := stepI_iff.1 hs
  obtain ⟨_, g1⟩ := numI_inv e1
  unfold recI
  rw [g1]
  simp only [if_true]
  rw [stepR_drop (getN_ok g1).2.2.1, hs]
  simp only [true_and]
  by_cases h1 : e = i.length ∧ stepOk s 8
  · rw [if_pos h1]
    simp only
    by_cases h2 : 0 ≤ k ∧ k ≤ 1000000
    · rw [if_pos h2, if_pos (c := e = i.length ∧ stepOk s 8 ∧ 0 ≤ k ∧ k ≤ 1000000) ⟨h1.1, h1.2, h2⟩]
    · rw [if_neg h2, if_neg (fun h => h2 h.2.2)]
  · rw [if_neg h1]
    simp only
    rw [if_neg (fun h => h1 ⟨h.1, h.2.1⟩)]
theorem recordRead_pc (h : H) (t : List UInt8) (n : Int) (ht : t.length ≤ 1048576) : PC Try.prog 75 [str t, i64 n] h (.tuple #[.agg (recR t n).1.cells.toArray, i64 (recR t n).2]) := by
  obtain ⟨i, c, hu⟩ : ∃ i c, unsealB t = (i, c) := ⟨_, _, rfl⟩
  have hi : i.length ≤ 1048576 := by have := unsealB_len t; rw [hu] at this; simp only at this; omega
  obtain ⟨k, a1, c1, e1⟩ : ∃ k a1 c1, numI i 0 false = (k, a1, c1) := ⟨_, _, _, rfl⟩
  obtain ⟨s, e, c2, hs⟩ : ∃ s e c2, stepI i a1 c1 = (s, e, c2) := ⟨_, _, _, rfl⟩
  have l1 := numI_eq (B := 1048576) e1 (by omega) hi
  unfold recR
  rw [hu]
  simp only
  refine PC_of ?_
  refine w_impl_recordRead (by simp) ?_
  unfold b_impl_recordRead
  simp -implicitDefEqProofs only [go_sem]
  intro b4 hb_b4 n_b4
  simp -implicitDefEqProofs only [go_sem, hb_b4]
  refine (unseal_pc _ t (by omega)).use ?_
  rw [hu]
  simp -implicitDefEqProofs only [go_sem, hb_b4]
  by_cases hc : c = 0
  rotate_left
  · rw [if_pos hc]
    simp -implicitDefEqProofs only [go_sem, show ¬ ((c : Int) = 0) by omega, hb_b4]
    first | with_reducible exact ((Ext.refl _).set' n_b4 _) | ((with_reducible refine ⟨((Ext.refl _).set' n_b4 _), ?_⟩); first | rfl | (trivial))
  subst hc
  rw [if_neg (by simp)]
  simp -implicitDefEqProofs only [go_sem, show ((0 : Nat) : Int) = 0 from rfl, hb_b4]
  intro b8 hb_b8 m0_b8
  obtain ⟨z_b8_b4, y_b8_b4, n_b8⟩ := fne m0_b8
  simp only [H.set_base] at hb_b8
  simp -implicitDefEqProofs only [go_sem, hb_b4, hb_b8, z_b8_b4, y_b8_b4]
  refine AC_of (rnum e1 (by simp only [H.set_base]; assumption) (H.set_get_same _ _ _) hi (by omega)) ?_
  rintro _ _ - ⟨rfl, rfl⟩
  rw [H.set_set]
  simp -implicitDefEqProofs only [go_sem, hb_b4, hb_b8, z_b8_b4, y_b8_b4]
  have hst := rstep_ac (h := (h.set b4 ⟨[i64 0, i64 0, i64 0, str []], 4⟩).set b8 ⟨rdc i a1 c1, 3⟩) (by simp only [H.set_base]; assumption) (H.set_get_same _ _ _) hi l1
  rw [hs] at hst
  refine AC_of hst ?_
  rintro _ _ - ⟨rfl, rfl⟩
  rw [H.set_set]
  simp -implicitDefEqProofs only [go_sem, hb_b4, hb_b8, z_b8_b4, y_b8_b4]
  intro b10 hb_b10 m0_b10
  obtain ⟨z_b10_b8, y_b10_b8, m1_b10⟩ := fne m0_b10
  obtain ⟨z_b10_b4, y_b10_b4, n_b10⟩ := fne m1_b10
  simp only [H.set_base] at hb_b10
  simp -implicitDefEqProofs only [go_sem, hb_b4, hb_b8, z_b8_b4, y_b8_b4, hb_b10, z_b10_b8, y_b10_b8, z_b10_b4, y_b10_b4]
  cases c2 with
  | true =>
    rw [recI_bad e1 hs]
    simp -implicitDefEqProofs only [go_sem, hb_b4, hb_b8, z_b8_b4, y_b8_b4, hb_b10, z_b10_b8, y_b10_b8, z_b10_b4, y_b10_b4]
    first | with_reducible exact ((((Ext.refl _).set' n_b4 _).set' n_b8 _).set' n_b10 _) | ((with_reducible refine ⟨((((Ext.refl _).set' n_b4 _).set' n_b8 _).set' n_b10 _), ?_⟩); first | rfl | (trivial))
  | false =>
    rw [recI_fine e1 hs]
    by_cases h1 : e = i.length
    rotate_left
    · rw [if_neg (fun h => h1 h.1)]
      simp -implicitDefEqProofs only [go_sem, show ¬ ((e : Int) = (i.length : Int)) by omega, hb_b4, hb_b8, z_b8_b4, y_b8_b4, hb_b10, z_b10_b8, y_b10_b8, z_b10_b4, y_b10_b4]
      first | with_reducible exact ((((Ext.refl _).set' n_b4 _).set' n_b8 _).set' n_b10 _) | ((with_reducible refine ⟨((((Ext.refl _).set' n_b4 _).set' n_b8 _).set' n_b10 _), ?_⟩); first | rfl | (trivial))
    subst h1
    simp -implicitDefEqProofs only [go_sem, hb_b4, hb_b8, z_b8_b4, y_b8_b4, hb_b10, z_b10_b8, y_b10_b8, z_b10_b4, y_b10_b4]
    refine (isTime_pc _ _).use ?_
    simp -implicitDefEqProofs only [go_sem, hb_b4, hb_b8, z_b8_b4, y_b8_b4, hb_b10, z_b10_b8, y_b10_b8, z_b10_b4, y_b10_b4]
    refine Br.of (fun h2 => ?_) (fun h2 => ?_)
    rotate_left
    · simp -implicitDefEqProofs only [go_sem, h2, hb_b4, hb_b8, z_b8_b4, y_b8_b4, hb_b10, z_b10_b8, y_b10_b8, z_b10_b4, y_b10_b4]
      first | with_reducible exact ((((Ext.refl _).set' n_b4 _).set' n_b8 _).set' n_b10 _) | ((with_reducible refine ⟨((((Ext.refl _).set' n_b4 _).set' n_b8 _).set' n_b10 _), ?_⟩); first | rfl | (rw [if_neg (fun h => h2 h.2.2)]; rfl))
    simp -implicitDefEqProofs only [go_sem, h2, hb_b4, hb_b8, z_b8_b4, y_b8_b4, hb_b10, z_b10_b8, y_b10_b8, z_b10_b4, y_b10_b4]
    refine (isStep_pc _ s (by unfold in64; omega) (by omega)).use ?_
    simp -implicitDefEqProofs only [go_sem, h2, hb_b4, hb_b8, z_b8_b4, y_b8_b4, hb_b10, z_b10_b8, y_b10_b8, z_b10_b4, y_b10_b4]
    refine Br.of (fun h3 => ?_) (fun h3 => ?_)
    rotate_left
    · simp -implicitDefEqProofs only [go_sem, h3, hb_b4, hb_b8, z_b8_b4, y_b8_b4, hb_b10, z_b10_b8, y_b10_b8, z_b10_b4, y_b10_b4]
      first | with_reducible exact ((((Ext.refl _).set' n_b4 _).set' n_b8 _).set' n_b10 _) | ((with_reducible refine ⟨((((Ext.refl _).set' n_b4 _).set' n_b8 _).set' n_b10 _), ?_⟩); first | rfl | (rw [if_neg (fun h => h3 h.2.1)]; rfl))
    rw [if_pos ⟨rfl, h3, h2⟩]
    simp -implicitDefEqProofs only [go_sem, h3, hb_b4, hb_b8, z_b8_b4, y_b8_b4, hb_b10, z_b10_b8, y_b10_b8, z_b10_b4, y_b10_b4]
    by_cases h4 : k = n
    · rw [if_pos h4]
      simp -implicitDefEqProofs only [go_sem, h4, hb_b4, hb_b8, z_b8_b4, y_b8_b4, hb_b10, z_b10_b8, y_b10_b8, z_b10_b4, y_b10_b4]
      first | with_reducible exact ((((Ext.refl _).set' n_b4 _).set' n_b8 _).set' n_b10 _) | ((with_reducible refine ⟨((((Ext.refl _).set' n_b4 _).set' n_b8 _).set' n_b10 _), ?_⟩); first | rfl | (trivial))
    · rw [if_neg h4]
      simp -implicitDefEqProofs only [go_sem, h4, hb_b4, hb_b8, z_b8_b4, y_b8_b4, hb_b10, z_b10_b8, y_b10_b8, z_b10_b4, y_b10_b4]
      first | with_reducible exact ((((Ext.refl _).set' n_b4 _).set' n_b8 _).set' n_b10 _) | ((with_reducible refine ⟨((((Ext.refl _).set' n_b4 _).set' n_b8 _).set' n_b10 _), ?_⟩); first | rfl | (trivial))
/-- impl.RecordRead -/
def b_impl_RecordRead : C := (.seq (.ops [⟨(some 4), none, .alloc [(i64 0), (i64 0), (i64 0), (str []), (i64 0)]⟩])
 (.seq (.seq (.ops [q 7 (.mv (.t 0)), q 8 (.slen (.t 7)), q 9 (.bin .gtr (.t 8) (.c (i64 8000)))])
 (.cond (.t 9) (.seq (.ops [q 10 (.build [(i64 0), (i64 0), (i64 0), (str []), (i64 0)] [(4, 1, (.c (i64 2)))]), ⟨none, none, .st 5 (.t 4) (.t 10)⟩])
 .ret) .skip))
 (.seq (.ops [q 12 (.mv (.t 0)), q 13 (.mv (.t 1)), ⟨(some 14), none, .call (.c (.func (.func 75) #[] #[])) [(.t 12), (.t 13)]⟩, q 11 (.mv (.t 14)), q 15 (.ext 0 (.t 11)), q 16 (.ext 1 (.t 11)), ⟨(some 5), none, .alloc [(i64 0), (i64 0), (i64 0), (str [])]⟩, ⟨none, none, .st 4 (.t 5) (.t 15)⟩, q 6 (.mv (.t 16))])
 (.seq (.ops [q 17 (.ld true 4 (.t 5)), q 18 (.mv (.t 6)), q 19 (.build [(i64 0), (i64 0), (i64 0), (str []), (i64 0)] [(0, 4, (.t 17)), (4, 1, (.t 18))]), ⟨none, none, .st 5 (.t 4) (.t 19)⟩])
 .ret))))
theorem w_impl_RecordRead {args : List Value} {h : H} {Q : Value → H → Prop} (hl : args.length ≤ 20) (hk : wpc Try.prog b_impl_RecordRead (retw [.cell 4 true 5] Q) (argsFr args) h) : AC Try.prog 13 args h Q :=
  AC.of_wpc mixedOrders Try.func13 (by kernel_rfl) (by kernel_rfl : prepF Try.prog Try.f13 = some ⟨20, [.cell 4 true 5], b_impl_RecordRead⟩) hl hk

theorem implRecordRead_pc (h : H) (t : List UInt8) (n : Int) : PC Try.prog 13 [str t, i64 n] h (.agg (outC (recOut t n)).toArray) := by
  refine PC_of ?_
  unfold recOut
  refine w_impl_RecordRead (by simp) ?_
  unfold b_impl_RecordRead
  simp -implicitDefEqProofs only [go_sem]
  intro b4 hb_b4 n_b4
  by_cases h8 : 8000 < t.length
  · rw [if_pos h8]
    simp -implicitDefEqProofs only [go_sem, show (8000 : Int) < (t.length : Int) by omega, hb_b4]
    first | with_reducible exact ((Ext.refl _).set' n_b4 _) | ((with_reducible refine ⟨((Ext.refl _).set' n_b4 _), ?_⟩); first | rfl | (trivial))
  · rw [if_neg h8]
    simp -implicitDefEqProofs only [go_sem, show ¬ ((8000 : Int) < (t.length : Int)) by omega, hb_b4]
    refine (recordRead_pc _ t n (by omega)).use ?_
    simp -implicitDefEqProofs only [go_sem, hb_b4]
    intro b5 hb_b5 m0_b5
    obtain ⟨z_b5_b4, y_b5_b4, n_b5⟩ := fne m0_b5
    simp only [H.set_base] at hb_b5
    simp -implicitDefEqProofs only [go_sem, hb_b4, hb_b5, z_b5_b4, y_b5_b4]
    first | with_reducible exact (((Ext.refl _).set' n_b4 _).set' n_b5 _) | ((with_reducible refine ⟨(((Ext.refl _).set' n_b4 _).set' n_b5 _), ?_⟩); first | rfl | (trivial))
end Go.Proofs.Ythheclnjaemjnaa
