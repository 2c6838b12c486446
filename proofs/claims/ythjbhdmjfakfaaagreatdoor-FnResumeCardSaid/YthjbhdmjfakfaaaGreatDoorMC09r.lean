/- A helper of this seat's claims (contracts of the functions): what it shows is shown for every input that its statements name, on no other condition. -/
import Derived.Test.YthjbhdmjfakfaaaGreatDoorMC13b
import Derived.Test.YthjbhdmjfakfaaaGreatDoorMC0
set_option linter.unusedVariables false
set_option linter.unusedSimpArgs false
set_option maxRecDepth 100000
namespace Go.Proofs.YthjbhdmjfakfaaaGreatDoor
open Go.KH

theorem getN_drop (t : List UInt8) (a b : Nat) : getN t (a + b) = ((getN (t.drop a) b).1, (if (getN (t.drop a) b).2.2 = 0 then a + (getN (t.drop a) b).2.1 else 0), (getN (t.drop a) b).2.2) := by
 obtain ⟨c, u, k, hd⟩ : ∃ c u k, decN 0 0 (t.drop (a + b)) = (c, u, k) := ⟨_, _, _, rfl⟩
 have hd' : decN 0 0 ((t.drop a).drop b) = (c, u, k) := by rw [List.drop_drop]; exact hd
 rw [getN_of hd, getN_of hd']
 by_cases hc : c = 0
 ·subst hc; simp only [if_true]; rw [Nat.add_assoc]
 ·simp only [if_neg hc]
theorem getN_sub {t : List UInt8} {a b e : Nat} {n : Int} (h : getN (t.drop a) b = (n, e, 0)) : getN t (a + b) = (n, a + e, 0) := by rw [getN_drop, h]; rfl
theorem getN_sup {t : List UInt8} {a b e : Nat} {n : Int} (h : getN t (a + b) = (n, e, 0)) : ∃ e', e = a + e' ∧ getN (t.drop a) b = (n, e', 0) := by
 rw [getN_drop] at h
 simp only [Prod.mk.injEq] at h
 obtain ⟨h1, h2, h3⟩ := h
 rw [if_pos h3] at h2
 exact ⟨_, h2.symm, by rw [← h1, ← h3]⟩
theorem getT_sub {t x : List UInt8} {a b e : Nat} (h : getT (t.drop a) b = (x, e, 0)) (ha : a ≤ t.length) : getT t (a + b) = (x, a + e, 0) := by
 obtain ⟨n, s, c, hg⟩ : ∃ n s c, getN (t.drop a) b = (n, s, c) := ⟨_, _, _, rfl⟩
 unfold getT at h ⊢
 rw [hg] at h
 simp only at h
 split at h
 ·rename_i hc; simp only [Prod.mk.injEq] at h; exact absurd h.2.2 hc
 ·rename_i hc
  have hc : c = 0 := by simpa using hc
  subst hc
  rw [getN_sub hg]
  simp only
  split at h
  ·simp at h
  ·rename_i hn
   split at h
   ·simp at h
   ·rename_i hl
    rw [List.length_drop] at hl
    simp only [Prod.mk.injEq, and_true] at h
    obtain ⟨h1, h2⟩ := h
    rw [if_neg (by simp), if_neg hn, if_neg (by omega)]
    simp only [Prod.mk.injEq, and_true]
    refine ⟨?_, by omega⟩
    rw [← h1, List.take_drop, List.drop_drop, Nat.add_assoc]
theorem getT_sup {t x : List UInt8} {a b e : Nat} (h : getT t (a + b) = (x, e, 0)) (ha : a ≤ t.length) : ∃ e', e = a + e' ∧ getT (t.drop a) b = (x, e', 0) := by
 obtain ⟨n, s, c, hg⟩ : ∃ n s c, getN t (a + b) = (n, s, c) := ⟨_, _, _, rfl⟩
 have h0 := h
 unfold getT at h
 rw [hg] at h
 simp only at h
 split at h
 ·rename_i hc; simp only [Prod.mk.injEq] at h; exact absurd h.2.2 hc
 ·rename_i hc
  have hc : c = 0 := by simpa using hc
  subst hc
  obtain ⟨s', rfl, hg'⟩ := getN_sup hg
  split at h
  ·simp at h
  ·rename_i hn
   split at h
   ·simp at h
   ·rename_i hl
    simp only [Prod.mk.injEq, and_true] at h
    obtain ⟨h1, h2⟩ := h
    have h3 : getT (t.drop a) b = (((t.drop a).take (s' + n.toNat)).drop s', s' + n.toNat, 0) := by
     unfold getT
     rw [hg']
     simp only
     rw [if_neg (by simp), if_neg hn, if_neg (by rw [List.length_drop]; omega)]
    refine ⟨s' + n.toNat, by omega, ?_⟩
    rw [h3, ← h1, List.take_drop, List.drop_drop, Nat.add_assoc]
theorem reads_drop {t : List UInt8} {a e : Nat} {s : UStep} (ha : a ≤ t.length) : Reads (t.drop a) 0 s e ↔ Reads t a s (a + e) := by
 constructor
 ·rintro ⟨a1, a2, a3, g1, g2, g3, g4⟩
  exact ⟨a + a1, a + a2, a + a3, getN_sub g1, getN_sub g2, getN_sub g3, getT_sub g4 ha⟩
 ·rintro ⟨a1, a2, a3, g1, g2, g3, g4⟩
  obtain ⟨b1, rfl, k1⟩ := getN_sup (b := 0) g1
  obtain ⟨b2, rfl, k2⟩ := getN_sup g2
  obtain ⟨b3, rfl, k3⟩ := getN_sup g3
  obtain ⟨b4, e4, k4⟩ := getT_sup g4 ha
  obtain rfl : e = b4 := by omega
  exact ⟨b1, b2, b3, k1, k2, k3, k4⟩
theorem stepI_flag {t : List UInt8} {a : Nat} {b : Bool} : (stepI t a b).2.2 = false ↔ b = false ∧ ∃ s e, Reads t a s e := by
 constructor
 ·intro h
  have := (stepI_iff (s := (stepI t a b).1) (e := (stepI t a b).2.1)).1 (eta3 h)
  exact ⟨this.1, _, _, this.2⟩
 ·rintro ⟨rfl, s, e, r⟩
  rw [stepI_iff.2 ⟨rfl, r⟩]
theorem stepR_drop {t : List UInt8} {a : Nat} (ha : a ≤ t.length) : stepR (t.drop a) = if (stepI t a false).2.2 = false ∧ (stepI t a false).2.1 = t.length ∧ stepOk (stepI t a false).1 8 then some (stepI t a false).1 else none := by
 by_cases h : ∃ s e, Reads t a s e
 ·obtain ⟨s, e, r⟩ := h
  have hle := r.eq.2.1
  have hle2 := r.eq.2.2.1
  rw [stepI_iff.2 ⟨rfl, r⟩]
  obtain ⟨e', rfl⟩ : ∃ e', e = a + e' := ⟨e - a, by omega⟩
  rw [stepR_of ((reads_drop ha).2 r)]
  simp only [true_and, List.length_drop]
  by_cases hk : stepOk s 8
  ·by_cases he : e' = t.length - a
   ·rw [if_pos ⟨he, hk⟩, if_pos ⟨by omega, hk⟩]
   ·rw [if_neg (fun h => he h.1), if_neg (fun h => he (by omega))]
  ·rw [if_neg (fun h => hk h.2), if_neg (fun h => hk h.2)]
 ·rw [if_neg (fun hh => h (stepI_flag.1 hh.1).2)]
  unfold stepR
  rw [if_neg]
  intro hh
  obtain ⟨_, s, e, r⟩ := stepI_flag.1 hh.1
  exact h ⟨s, a + e, (reads_drop ha).1 r⟩
def recI (i : List UInt8) (n : Int) : UStep × Int :=
 if (getN i 0).2.2 = 0 then match stepR (i.drop (getN i 0).2.1) with
  | some s => if 0 ≤ (getN i 0).1 ∧ (getN i 0).1 ≤ 1000000 then (if (getN i 0).1 = n then (s, 0) else (step0, 6)) else (step0, 3)
  | none => (step0, 3)
 else (step0, 3)
def recR (t : List UInt8) (n : Int) : UStep × Int := if (unsealB t).2 ≠ 0 then (step0, (unsealB t).2) else recI (unsealB t).1 n
def b_impl_recordRead : C := (jo [⟨(some 4), none, .alloc [(i64 0), (i64 0), (i64 0), (str [])]⟩, q 5 (.mv (.c (i64 0)))]
 (jo [jm 12 0, jc 13 106 [(.t 12)], jm 11 13, q 14 (.ext 0 (.t 11)), q 15 (.ext 1 (.t 11)), jm 6 14, jm 7 15]
 (.seq (jo [jm 16 7, jk 17 .neq 16 0]
 (.cond (.t 17) (jo [q 18 (.build [(i64 0), (i64 0), (i64 0), (str [])] []), jm 19 7, js 4 4 18, jm 5 19]
 .ret) .skip))
 (jo [jm 20 6, q 21 (.build [(str []), (i64 0), (.bool false)] [(0, 1, (.t 20))]), ⟨(some 22), none, .box (.t 21)⟩, jm 8 22]
 (jo [jm 23 8, jc 24 107 [(.t 23)], jm 9 24]
 (jo [jm 25 8, jc 26 187 [(.t 25)], ⟨(some 10), none, .alloc [(i64 0), (i64 0), (i64 0), (str [])]⟩, js 4 10 26]
 (.seq (.block 0 (jo [jm 28 8, q 29 (.nck (.t 28)), jf 30 2 29, jl 31 30, jm 32 31, qg 33 32 false (.mv (.t 8)), qg 34 32 false (.nck (.t 33)), qg 35 32 false (.fld 1 (.t 34)), qg 36 32 false (.ld false 1 (.t 35)), qg 37 32 false (.mv (.t 6)), qg 38 32 false (.slen (.t 37)), qg 39 32 false (.bin .neq (.t 36) (.t 38)), q 40 (.pick (.t 32) (.c (.bool true)) (.t 39)), jm 41 40, qg 42 41 false (.mv (.t 9)), jcg 43 41 false 141 [(.t 42)], qg 44 41 false (.un .not (.t 43)), q 45 (.pick (.t 41) (.c (.bool true)) (.t 44)), jm 46 45, qg 47 46 false (.ld true 4 (.t 10)), jcg 48 46 false 122 [(.t 47), (.c (i64 8))], qg 49 46 false (.un .not (.t 48)), q 50 (.pick (.t 46) (.c (.bool true)) (.t 49)), jm 27 50]
 (.cond (.t 27) (jo [q 51 (.build [(i64 0), (i64 0), (i64 0), (str [])] []), js 4 4 51, q 5 (.mv (.c (i64 3)))]
 .ret) (jo [jm 53 9, jm 54 1, jb 55 .neq 53 54, jm 52 55]
 (.cond (.t 52) (jo [q 56 (.build [(i64 0), (i64 0), (i64 0), (str [])] []), js 4 4 56, q 5 (.mv (.c (i64 6)))]
 .ret) .skip)))))
 (jo [jd 57 4 10, js 4 4 57, q 5 (.mv (.c (i64 0)))]
 .ret))))))))
theorem w_impl_recordRead : Wk Tryz.prog 221 58 [.cell 4 true 4, .tmp 5] b_impl_recordRead := Wk.of mixedOrders Tryz.func221 (by kernel_rfl) (by kernel_rfl)

theorem getN_eta {t : List UInt8} {a : Nat} (hc : (getN t a).2.2 = 0) : getN t a = ((getN t a).1, (getN t a).2.1, 0) := by rw [← hc]
theorem recI_bad {i : List UInt8} {n k : Int} {a1 e : Nat} {c1 : Bool} {s : UStep} (e1 : numI i 0 false = (k, a1, c1)) (hs : stepI i a1 c1 = (s, e, true)) : recI i n = (step0, 3) := by
 unfold recI
 by_cases h0 : (getN i 0).2.2 = 0
 ·rw [if_pos h0]
  have h9 := numI_ok false (getN_eta h0)
  rw [e1] at h9
  simp only [Prod.mk.injEq] at h9
  obtain ⟨_, h2, rfl⟩ := h9
  have hle := (getN_ok (getN_eta h0)).2.2.1
  rw [← h2] at hle ⊢
  rw [stepR_drop hle, hs, if_neg (by simp)]
 ·rw [if_neg h0]
theorem recI_fine {i : List UInt8} {n k : Int} {a1 e : Nat} {c1 : Bool} {s : UStep} (e1 : numI i 0 false = (k, a1, c1)) (hs : stepI i a1 c1 = (s, e, false)) : recI i n = if e = i.length ∧ stepOk s 8 ∧ 0 ≤ k ∧ k ≤ 1000000 then (if k = n then (s, 0) else (step0, 6)) else (step0, 3) := by
 obtain ⟨rfl, r⟩ := stepI_iff.1 hs
 obtain ⟨_, g1⟩ := numI_inv e1
 unfold recI
 rw [g1]
 simp only [if_true]
 rw [stepR_drop (getN_ok g1).2.2.1, hs]
 simp only [true_and]
 by_cases h1 : e = i.length ∧ stepOk s 8
 ·rw [if_pos h1]
  simp only
  by_cases h2 : 0 ≤ k ∧ k ≤ 1000000
  ·rw [if_pos h2, if_pos (c := e = i.length ∧ stepOk s 8 ∧ 0 ≤ k ∧ k ≤ 1000000) ⟨h1.1, h1.2, h2⟩]
  ·rw [if_neg h2, if_neg (fun h => h2 h.2.2)]
 ·rw [if_neg h1]
  simp only
  rw [if_neg (fun h => h1 ⟨h.1, h.2.1⟩)]
theorem recordRead_pc (h : H) (t : List UInt8) (n : Int) (ht : t.length ≤ 1048576) : PC Tryz.prog 221 [str t, i64 n] h (.tuple #[.agg (recR t n).1.cells.toArray, i64 (recR t n).2]) := by
 obtain ⟨i, c, hu⟩ : ∃ i c, unsealB t = (i, c) := ⟨_, _, rfl⟩
 have hi : i.length ≤ 1048576 := by have := unsealB_len t; rw [hu] at this; simp only at this; omega
 obtain ⟨k, a1, c1, e1⟩ : ∃ k a1 c1, numI i 0 false = (k, a1, c1) := ⟨_, _, _, rfl⟩
 obtain ⟨s, e, c2, hs⟩ : ∃ s e c2, stepI i a1 c1 = (s, e, c2) := ⟨_, _, _, rfl⟩
 have l1 := numI_eq (B := 1048576) e1 (by omega) hi
 unfold recR
 rw [hu]
 simp only
 refine PC_of ?_
 refine w_impl_recordRead (by simp) ?_
 unfold b_impl_recordRead
 simp -implicitDefEqProofs only [go_sem]
 intro b4 hb_b4 n_b4
 simp -implicitDefEqProofs only [go_sem, hb_b4]
 refine (unseal_pc _ t (by omega)).use ?_
 rw [hu]
 simp -implicitDefEqProofs only [go_sem, hb_b4]
 by_cases hc : c = 0
 rotate_left
 ·rw [if_pos hc]
  simp -implicitDefEqProofs only [go_sem, show ¬ ((c : Int) = 0) by omega, hb_b4]
  first | with_reducible exact ((Ext.refl _).set' n_b4 _) | ((with_reducible refine ⟨((Ext.refl _).set' n_b4 _), ?_⟩); first | rfl | (trivial))
 subst hc
 rw [if_neg (by simp)]
 simp -implicitDefEqProofs only [go_sem, show ((0 : Nat) : Int) = 0 from rfl, hb_b4]
 intro b8 hb_b8 m0_b8
 obtain ⟨z_b8_b4, y_b8_b4, n_b8⟩ := fne m0_b8
 simp only [H.set_base] at hb_b8
 simp -implicitDefEqProofs only [go_sem, hb_b4, hb_b8, z_b8_b4, y_b8_b4]
 refine AC_of (rnum e1 (by simp only [H.set_base]; assumption) (H.set_get_same _ _ _) hi (by omega)) ?_
 rintro _ _ - ⟨rfl, rfl⟩
 rw [H.set_set]
 simp -implicitDefEqProofs only [go_sem, hb_b4, hb_b8, z_b8_b4, y_b8_b4]
 have hst := rstep_ac (h := (h.set b4 ⟨[i64 0, i64 0, i64 0, str []], 4⟩).set b8 ⟨rdc i a1 c1, 3⟩) (by simp only [H.set_base]; assumption) (H.set_get_same _ _ _) hi l1
 rw [hs] at hst
 refine AC_of hst ?_
 rintro _ _ - ⟨rfl, rfl⟩
 rw [H.set_set]
 simp -implicitDefEqProofs only [go_sem, hb_b4, hb_b8, z_b8_b4, y_b8_b4]
 intro b10 hb_b10 m0_b10
 obtain ⟨z_b10_b8, y_b10_b8, m1_b10⟩ := fne m0_b10
 obtain ⟨z_b10_b4, y_b10_b4, n_b10⟩ := fne m1_b10
 simp only [H.set_base] at hb_b10
 simp -implicitDefEqProofs only [go_sem, hb_b4, hb_b8, z_b8_b4, y_b8_b4, hb_b10, z_b10_b8, y_b10_b8, z_b10_b4, y_b10_b4]
 cases c2 with
 | true =>
  rw [recI_bad e1 hs]
  simp -implicitDefEqProofs only [go_sem, hb_b4, hb_b8, z_b8_b4, y_b8_b4, hb_b10, z_b10_b8, y_b10_b8, z_b10_b4, y_b10_b4]
  first | with_reducible exact ((((Ext.refl _).set' n_b4 _).set' n_b8 _).set' n_b10 _) | ((with_reducible refine ⟨((((Ext.refl _).set' n_b4 _).set' n_b8 _).set' n_b10 _), ?_⟩); first | rfl | (trivial))
 | false =>
  rw [recI_fine e1 hs]
  by_cases h1 : e = i.length
  rotate_left
  ·rw [if_neg (fun h => h1 h.1)]
   simp -implicitDefEqProofs only [go_sem, show ¬ ((e : Int) = (i.length : Int)) by omega, hb_b4, hb_b8, z_b8_b4, y_b8_b4, hb_b10, z_b10_b8, y_b10_b8, z_b10_b4, y_b10_b4]
   first | with_reducible exact ((((Ext.refl _).set' n_b4 _).set' n_b8 _).set' n_b10 _) | ((with_reducible refine ⟨((((Ext.refl _).set' n_b4 _).set' n_b8 _).set' n_b10 _), ?_⟩); first | rfl | (trivial))
  subst h1
  simp -implicitDefEqProofs only [go_sem, hb_b4, hb_b8, z_b8_b4, y_b8_b4, hb_b10, z_b10_b8, y_b10_b8, z_b10_b4, y_b10_b4]
  refine (isTime_pc _ _).use ?_
  simp -implicitDefEqProofs only [go_sem, hb_b4, hb_b8, z_b8_b4, y_b8_b4, hb_b10, z_b10_b8, y_b10_b8, z_b10_b4, y_b10_b4]
  refine Br.of (fun h2 => ?_) (fun h2 => ?_)
  rotate_left
  ·simp -implicitDefEqProofs only [go_sem, h2, hb_b4, hb_b8, z_b8_b4, y_b8_b4, hb_b10, z_b10_b8, y_b10_b8, z_b10_b4, y_b10_b4]
   first | with_reducible exact ((((Ext.refl _).set' n_b4 _).set' n_b8 _).set' n_b10 _) | ((with_reducible refine ⟨((((Ext.refl _).set' n_b4 _).set' n_b8 _).set' n_b10 _), ?_⟩); first | rfl | (rw [if_neg (fun h => h2 h.2.2)]; rfl))
  simp -implicitDefEqProofs only [go_sem, h2, hb_b4, hb_b8, z_b8_b4, y_b8_b4, hb_b10, z_b10_b8, y_b10_b8, z_b10_b4, y_b10_b4]
  refine (isStep_pc _ s (by unfold in64; omega) (by omega)).use ?_
  simp -implicitDefEqProofs only [go_sem, h2, hb_b4, hb_b8, z_b8_b4, y_b8_b4, hb_b10, z_b10_b8, y_b10_b8, z_b10_b4, y_b10_b4]
  refine Br.of (fun h3 => ?_) (fun h3 => ?_)
  rotate_left
  ·simp -implicitDefEqProofs only [go_sem, h3, hb_b4, hb_b8, z_b8_b4, y_b8_b4, hb_b10, z_b10_b8, y_b10_b8, z_b10_b4, y_b10_b4]
   first | with_reducible exact ((((Ext.refl _).set' n_b4 _).set' n_b8 _).set' n_b10 _) | ((with_reducible refine ⟨((((Ext.refl _).set' n_b4 _).set' n_b8 _).set' n_b10 _), ?_⟩); first | rfl | (rw [if_neg (fun h => h3 h.2.1)]; rfl))
  rw [if_pos ⟨rfl, h3, h2⟩]
  simp -implicitDefEqProofs only [go_sem, h3, hb_b4, hb_b8, z_b8_b4, y_b8_b4, hb_b10, z_b10_b8, y_b10_b8, z_b10_b4, y_b10_b4]
  by_cases h4 : k = n
  ·rw [if_pos h4]
   simp -implicitDefEqProofs only [go_sem, h4, hb_b4, hb_b8, z_b8_b4, y_b8_b4, hb_b10, z_b10_b8, y_b10_b8, z_b10_b4, y_b10_b4]
   first | with_reducible exact ((((Ext.refl _).set' n_b4 _).set' n_b8 _).set' n_b10 _) | ((with_reducible refine ⟨((((Ext.refl _).set' n_b4 _).set' n_b8 _).set' n_b10 _), ?_⟩); first | rfl | (trivial))
  ·rw [if_neg h4]
   simp -implicitDefEqProofs only [go_sem, h4, hb_b4, hb_b8, z_b8_b4, y_b8_b4, hb_b10, z_b10_b8, y_b10_b8, z_b10_b4, y_b10_b4]
   first | with_reducible exact ((((Ext.refl _).set' n_b4 _).set' n_b8 _).set' n_b10 _) | ((with_reducible refine ⟨((((Ext.refl _).set' n_b4 _).set' n_b8 _).set' n_b10 _), ?_⟩); first | rfl | (trivial))
end Go.Proofs.YthjbhdmjfakfaaaGreatDoor
namespace Go.Proofs.YthjbhdmjfakfaaaGreatDoor
open Go.KH

theorem recI_s {i : List UInt8} {n k : Int} {a1 : Nat} (g1 : getN i 0 = (k, a1, 0)) : recI i n = match stepR (i.drop a1) with | some s => if 0 ≤ k ∧ k ≤ 1000000 then (if k = n then (s, 0) else (step0, 6)) else (step0, 3) | none => (step0, 3) := by
 unfold recI; rw [g1]; simp only [if_true] <;> (cases stepR (i.drop a1) <;> rfl)
theorem recI_none {i : List UInt8} {n k : Int} {a1 : Nat} (g1 : getN i 0 = (k, a1, 0)) (hr : stepR (i.drop a1) = none) : recI i n = (step0, 3) := by rw [recI_s g1, hr]
theorem recI_out {i : List UInt8} {n k : Int} {a1 : Nat} {s : UStep} (g1 : getN i 0 = (k, a1, 0)) (hr : stepR (i.drop a1) = some s) (hk : ¬ (0 ≤ k ∧ k ≤ 1000000)) : recI i n = (step0, 3) := by rw [recI_s g1, hr]; simp only; rw [if_neg hk]
theorem recI_other {i : List UInt8} {n k : Int} {a1 : Nat} {s : UStep} (g1 : getN i 0 = (k, a1, 0)) (hr : stepR (i.drop a1) = some s) (hk : 0 ≤ k ∧ k ≤ 1000000) (hn : ¬ k = n) : recI i n = (step0, 6) := by rw [recI_s g1, hr]; simp only; rw [if_pos hk, if_neg hn]
theorem recI_this {i : List UInt8} {k : Int} {a1 : Nat} {s : UStep} (g1 : getN i 0 = (k, a1, 0)) (hr : stepR (i.drop a1) = some s) (hk : 0 ≤ k ∧ k ≤ 1000000) : recI i k = (s, 0) := by rw [recI_s g1, hr]; simp only; rw [if_pos hk]; simp
theorem rec_read {i t : List UInt8} {k : Int} {a1 : Nat} {s : UStep} (hu : unsealB t = (i, 0)) (g1 : getN i 0 = (k, a1, 0)) (hr : stepR (i.drop a1) = some s) : s.ok ∧ (0 ≤ k ∧ k ≤ 1000000 → recordBytes k s = t) ∧ (¬ (0 ≤ k ∧ k ≤ 1000000) → ¬ recordBytes k s = t) := by
 have ok1 := getN_ok g1
 have hs2 := stepR_drop (t := i) (a := a1) ok1.2.2.1
 rw [hr] at hs2
 obtain ⟨s', e', c', hS⟩ : ∃ s' e' c', stepI i a1 false = (s', e', c') := ⟨_, _, _, rfl⟩
 rw [hS] at hs2
 split at hs2
 rotate_left
 ·cases hs2
 rename_i hcond
 obtain ⟨hc1, hc2, hc3⟩ := hcond
 simp only at hc1 hc2 hc3 hs2
 simp only [Option.some.injEq] at hs2
 subst hs2 hc1 hc2
 have hq := (stepI_iff.1 hS).2.eq
 have hi2 : i = putNum k ++ stepB s := by
  have h1 := ok1.1
  rw [List.drop_zero, hq.1, List.drop_length, List.append_nil] at h1
  exact h1
 have hti := unsealB_ok hu
 refine ⟨hq.2.2.2.1, fun ht1 => ?_, fun ht1 => ?_⟩
 ·unfold recordBytes recordB; rw [if_pos ⟨ht1, hc3⟩, ← hi2]; exact hti.1
 ·unfold recordBytes; rw [if_neg (fun h => ht1 h.1)]
  intro h; rw [← h] at hti; simp at hti
end Go.Proofs.YthjbhdmjfakfaaaGreatDoor
namespace Go.Proofs.YthjbhdmjfakfaaaGreatDoor
open Go.KH

def kept (l : List UStep) : Int := foldi (fun (a : Int) i s => if s.kind = 5 then (i : Int) + 1 else a) 0 l
theorem kept_le (l : List UStep) : 0 ≤ kept l ∧ kept l ≤ l.length := by
 have key : ∀ k, k ≤ l.length → 0 ≤ kept (l.take k) ∧ kept (l.take k) ≤ k := by
  intro k
  induction k with
  | zero => intro _; simp [kept, foldi]
  | succ k ih =>
   intro hk
   have h1 := ih (by omega)
   have ht : kept (l.take (k + 1)) = if l[k].kind = 5 then (k : Int) + 1 else kept (l.take k) := foldi_take _ _ l k (by omega)
   rw [ht]
   split <;> omega
 have := key l.length (Nat.le_refl _)
 rwa [List.take_length] at this
def b_impl_keptOf : C := (jo [q 2 (.mv (.c (i64 0)))]
 (jo [q 3 (.mv (.c (i64 0)))]
 (.seq (jo [jm 6 0, q 7 (.len (.t 6)), q 8 (.mv (.c (i64 0)))]
 (.block 0 (.loop (jo [jb 9 .lss 8 7]
 (.seq (.cond (.t 9) .skip (.exit 0))
 (.seq (.block 1 (jo [jm 10 8, q 11 (.idx 4 (.t 6) (.t 8)), jd 12 4 11, ⟨(some 5), none, .alloc [(i64 0), (i64 0), (i64 0), (str [])]⟩, jm 4 10, js 4 5 12]
 (jo [jf 13 0 5, jl 14 13, jk 15 .eql 14 5]
 (.cond (.t 15) (.ops [jm 16 4, jk 17 .add 16 1, jm 3 17]) .skip))))
 (.ops [jk 18 .add 8 1, jm 8 18])))))))
 (jo [jm 19 3, jm 2 19]
 .ret))))
theorem w_impl_keptOf : Wk Tryz.prog 82 20 [.tmp 2] b_impl_keptOf := Wk.of mixedOrders Tryz.func82 (by kernel_rfl) (by kernel_rfl)

theorem keptOf_pc {h : H} {v : Value} {l : List UStep} (hv : Sl h v 4 (l.map UStep.cells)) (hb : l.length ≤ 1048576) : PC Tryz.prog 82 [v] h (i64 (kept l)) := by
 obtain ⟨a, c, b, o, rfl, hcap, h2, h3⟩ := hv
 simp only [List.length_map] at h2
 refine PC_of ?_
 refine w_impl_keptOf (by simp) ?_
 unfold b_impl_keptOf
 simp -implicitDefEqProofs only [go_sem, List.length_map]
 refine loopW_of (fun m f h' => ∃ k, m + k = l.length ∧ h' = h ∧ f 6 = .slice a l.length c ∧ f 7 = i64 l.length ∧ f 8 = i64 k ∧ f 3 = i64 (kept (l.take k))) l.length ⟨0, by simp, rfl, by simp -implicitDefEqProofs only [go_sem, List.length_map], by simp -implicitDefEqProofs only [go_sem, List.length_map], by simp -implicitDefEqProofs only [go_sem]; rfl, by simp -implicitDefEqProofs only [go_sem]; rfl⟩ ?_
 rintro m f h' ⟨k, hm, rfl, f6, f7, f8, f3⟩
 skip
 by_cases hk : k < l.length
 ·have e1 := h3 k (l[k]).cells (by simp [hk])
  have ht : kept (l.take (k + 1)) = if l[k].kind = 5 then (k : Int) + 1 else kept (l.take k) := foldi_take _ _ l k hk
  simp -implicitDefEqProofs only [go_sem, hk, e1, f6, f7, f8, f3, h2, Int.ofNat_lt, Int.natCast_nonneg]
  intro b1 hb_b1 n_b1
  simp -implicitDefEqProofs only [go_sem, f6, f7, f8, f3, h2, Int.ofNat_lt, Int.natCast_nonneg, hb_b1]
  refine Br.of (fun hkind => ?_) (fun hkind => ?_)
  ·simp -implicitDefEqProofs only [go_sem, hkind, wrap_i64 (show -(9223372036854775808 : Int) ≤ ((k : Int) + 1) by omega) (show ((k : Int) + 1) < 9223372036854775808 by omega), f6, f7, f8, f3, h2, Int.ofNat_lt, Int.natCast_nonneg, hb_b1]
   refine ⟨m - 1, by omega, _, ((Ext.refl _).set' n_b1 _), k + 1, by omega, ?_⟩
   rw [ht, if_pos hkind]
   repeat' first | apply And.intro | rfl | trivial | assumption | omega
  ·simp -implicitDefEqProofs only [go_sem, hkind, wrap_i64 (show -(9223372036854775808 : Int) ≤ ((k : Int) + 1) by omega) (show ((k : Int) + 1) < 9223372036854775808 by omega), f6, f7, f8, f3, h2, Int.ofNat_lt, Int.natCast_nonneg, hb_b1]
   refine ⟨m - 1, by omega, _, ((Ext.refl _).set' n_b1 _), k + 1, by omega, ?_⟩
   rw [ht, if_neg hkind]
   repeat' first | apply And.intro | rfl | trivial | assumption | omega
 ·have e : k = l.length := by omega
  subst e
  skip
  simp -implicitDefEqProofs only [go_sem, Nat.lt_irrefl, List.take_length, f6, f7, f8, f3, h2, Int.ofNat_lt, Int.natCast_nonneg]
  exact Ext.refl _
end Go.Proofs.YthjbhdmjfakfaaaGreatDoor
namespace Go.Proofs.YthjbhdmjfakfaaaGreatDoor
open Go.KH

def isTouch (block : Int) (s : UStep) : Bool := decide (¬ s.kind = 5 ∧ s.dst = block)
def touch (l : List UStep) (block : Int) : Int := firstAt (isTouch block) l
def b_slices_IndexFunc_impl_Step_impl_Step : C := (jo [q 4 (.mv (.c (i64 0)))]
 (.seq (jo [jm 6 0, q 7 (.len (.t 6)), q 8 (.mv (.c (i64 0)))]
 (.block 0 (.loop (jo [jb 9 .lss 8 7]
 (.seq (.cond (.t 9) .skip (.exit 0))
 (.seq (.block 1 (jo [jm 10 8, jm 5 10]
 (jo [jm 11 1, jm 12 0, jm 13 5, q 14 (.idx 4 (.t 12) (.t 13)), jd 15 4 14, ⟨(some 16), none, .call (.t 11) [(.t 15)]⟩]
 (.cond (.t 16) (jo [jm 17 5, jm 4 17]
 .ret) .skip))))
 (.ops [jk 18 .add 8 1, jm 8 18])))))))
 (jo [q 4 (.mv (.c (i64 (-1))))]
 .ret)))
theorem w_slices_IndexFunc_impl_Step_impl_Step : Wk Tryz.prog 191 19 [.tmp 4] b_slices_IndexFunc_impl_Step_impl_Step := Wk.of mixedOrders Tryz.func191 (by kernel_rfl) (by kernel_rfl)

def b_impl_touches_1 : C := (jo [⟨(some 2), none, .box (.t 0)⟩, q 3 (.mv (.c (.bool false)))]
 (jo [jf 4 0 2, jl 5 4, jk 6 .neq 5 5, jm 7 6, qg 8 7 true (.fld 1 (.t 2)), qg 9 7 true (.ld false 1 (.t 8)), qg 10 7 true (.ld false 1 (.t 1)), qg 11 7 true (.bin .eql (.t 9) (.t 10)), q 12 (.pick (.t 7) (.t 11) (.c (.bool false))), jm 3 12]
 .ret))
theorem w_impl_touches_1 : Wk Tryz.prog 192 13 [.tmp 3] b_impl_touches_1 := Wk.of mixedOrders Tryz.func192 (by kernel_rfl) (by kernel_rfl)

def b_impl_touches : C := (jo [⟨(some 3), none, .box (.t 1)⟩, q 4 (.mv (.c (i64 0)))]
 (jo [jm 5 0, q 6 (.mkf 192 [(.t 3)]), jc 7 191 [(.t 5), (.t 6)], jm 4 7]
 .ret))
theorem w_impl_touches : Wk Tryz.prog 123 8 [.tmp 4] b_impl_touches := Wk.of mixedOrders Tryz.func123 (by kernel_rfl) (by kernel_rfl)

theorem touches1_pc {h : H} {s : UStep} {b : Nat} {block : Int} (hb : ldc h b 0 1 = some [i64 block]) : PC Tryz.prog 192 [.agg s.cells.toArray, ptr b 0] h (.bool (isTouch block s)) := by
 refine PC_of ?_
 unfold isTouch
 refine w_impl_touches_1 (by simp) ?_
 unfold b_impl_touches_1
 simp -implicitDefEqProofs only [go_sem]
 intro b1 hb_b1 n_b1
 have e1 : ldc (h.set b1 ⟨s.cells, 4⟩) b 0 1 = some [i64 block] := ldc_sub (Sub.set (Sub.refl h) n_b1 _) hb
 simp -implicitDefEqProofs only [go_sem, e1, hb_b1]
 repeat' (refine Br.of (fun hc => ?_) (fun hc => ?_) <;> simp -implicitDefEqProofs only [go_sem, hc, e1, hb_b1])
 all_goals first | exact ((Ext.refl _).set' n_b1 _) | exact ⟨((Ext.refl _).set' n_b1 _), by simp_all⟩
theorem touches_pc {h : H} {v : Value} {l : List UStep} {block : Int} (hv : Sl h v 4 (l.map UStep.cells)) (hb : l.length ≤ 1048576) : PC Tryz.prog 123 [v, i64 block] h (i64 (touch l block)) := by
 refine PC_of ?_
 refine w_impl_touches (by simp) ?_
 unfold b_impl_touches
 simp -implicitDefEqProofs only [go_sem]
 intro b1 hb_b1 n_b1
 simp -implicitDefEqProofs only [go_sem, hb_b1]
 have e1 : ldc (h.set b1 ⟨[i64 block], 1⟩) b1 0 1 = some [i64 block] := by simp -implicitDefEqProofs only [go_sem, hb_b1]
 have this := (w_slices_IndexFunc_impl_Step_impl_Step (by simp) (if_wpc (p := isTouch block) (n := 192) (caps := [ptr b1 0]) (hv.sub (Sub.set (Sub.refl h) n_b1 _)) hb (fun x _ => touches1_pc e1) ⟨rfl, rfl⟩) : PC Tryz.prog 191 [v, .func (.func 192) #[] #[ptr b1 0]] (h.set b1 ⟨[i64 block], 1⟩) (i64 (touch l block)))
 refine PC.use this ?_
 simp -implicitDefEqProofs only [go_sem, hb_b1]
 exact ((Ext.refl _).set' n_b1 _)
end Go.Proofs.YthjbhdmjfakfaaaGreatDoor