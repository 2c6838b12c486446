/- A helper of this seat's claims (contracts of the functions): what it shows is shown for every input that its statements name, on no other condition. -/
import Derived.Test.YthjbhdmjfakfaaaGreatDoorMC13b
import Derived.Test.YthjbhdmjfakfaaaGreatDoorC01
import Derived.Test.YthjbhdmjfakfaaaGreatDoorMCH
set_option linter.unusedVariables false
set_option linter.unusedSimpArgs false
set_option maxRecDepth 100000
namespace Go.Proofs.YthjbhdmjfakfaaaGreatDoor
open Go.KH

abbrev metaC (o : (Int × List UInt8) × Int) : List Value := [i64 o.1.1, str o.1.2, i64 o.2]
def metaI (i : List UInt8) : (Int × List UInt8) × Int :=
 let k := numI i 0 false; let x := textI i k.2.1 k.2.2
 if x.2.2 = false ∧ x.2.1 = i.length ∧ (1 ≤ k.1 ∧ k.1 ≤ 1000000) ∧ x.1.length ≤ 80 then ((k.1, x.1), 0) else ((0, []), 3)
def metaR (t : List UInt8) : (Int × List UInt8) × Int := if (unsealB t).2 = 0 then metaI (unsealB t).1 else ((0, []), ((unsealB t).2 : Int))
def metaB (n : Int) (x : List UInt8) : List UInt8 := sealB (putNum n ++ putText x)
def metaBytes (n : Int) (x : List UInt8) : List UInt8 := if (1 ≤ n ∧ n ≤ 1000000) ∧ x.length ≤ 80 then metaB n x else []
def b_impl_metaRead : C := (jo [⟨(some 2), none, .alloc [(i64 0), (str []), (i64 0)]⟩]
 (jo [jm 9 0, jc 10 106 [(.t 9)], jm 8 10, q 11 (.ext 0 (.t 8)), q 12 (.ext 1 (.t 8)), jm 3 11, jm 4 12]
 (.seq (jo [jm 13 4, jk 14 .neq 13 0]
 (.cond (.t 14) (jo [jm 15 4, q 16 (.build [(i64 0), (str []), (i64 0)] [(2, 1, (.t 15))]), js 3 2 16]
 .ret) .skip))
 (jo [jm 17 3, q 18 (.build [(str []), (i64 0), (.bool false)] [(0, 1, (.t 17))]), ⟨(some 19), none, .box (.t 18)⟩, jm 5 19]
 (jo [jm 20 5, jc 21 107 [(.t 20)], jm 22 5, jc 23 108 [(.t 22)], jm 6 21, jm 7 23]
 (.seq (jo [jm 24 5, q 25 (.nck (.t 24)), jf 26 2 25, jl 27 26, jm 28 27, qg 29 28 false (.mv (.t 5)), qg 30 28 false (.nck (.t 29)), qg 31 28 false (.fld 1 (.t 30)), qg 32 28 false (.ld false 1 (.t 31)), qg 33 28 false (.mv (.t 3)), qg 34 28 false (.slen (.t 33)), qg 35 28 false (.bin .neq (.t 32) (.t 34)), q 36 (.pick (.t 28) (.c (.bool true)) (.t 35)), jm 37 36, qg 38 37 false (.mv (.t 6)), jcg 39 37 false 140 [(.t 38), (.c (i64 1)), (.c (i64 1000000))], qg 40 37 false (.un .not (.t 39)), q 41 (.pick (.t 37) (.c (.bool true)) (.t 40)), jm 42 41, qg 43 42 false (.mv (.t 7)), qg 44 42 false (.slen (.t 43)), qg 45 42 false (.bin .gtr (.t 44) (.c (i64 80))), q 46 (.pick (.t 42) (.c (.bool true)) (.t 45))]
 (.cond (.t 46) (jo [q 47 (.build [(i64 0), (str []), (i64 0)] [(2, 1, (.c (i64 3)))]), js 3 2 47]
 .ret) .skip))
 (jo [jm 48 6, jm 49 7, q 50 (.build [(i64 0), (str []), (i64 0)] [(0, 1, (.t 48)), (1, 1, (.t 49))]), js 3 2 50]
 .ret)))))))
theorem w_impl_metaRead : Wk Tryz.prog 209 51 [.cell 2 true 3] b_impl_metaRead := Wk.of mixedOrders Tryz.func209 (by kernel_rfl) (by kernel_rfl)

theorem metaRead_pc (h : H) (t : List UInt8) (ht : t.length ≤ 8000) : PC Tryz.prog 209 [str t] h (.agg (metaC (metaR t)).toArray) := by
 obtain ⟨i, c, hu⟩ : ∃ i c, unsealB t = (i, c) := ⟨_, _, rfl⟩
 have hi : i.length ≤ 8000 := by have := unsealB_len t; rw [hu] at this; simp only at this; omega
 obtain ⟨k, a1, c1, e1⟩ : ∃ k a1 c1, numI i 0 false = (k, a1, c1) := ⟨_, _, _, rfl⟩
 obtain ⟨x, a2, c2, e2⟩ : ∃ k a2 c2, textI i a1 c1 = (k, a2, c2) := ⟨_, _, _, rfl⟩
 have l1 := numI_eq e1 (by omega) hi
 have hR : c = 0 → metaR t = if c2 = false ∧ a2 = i.length ∧ (1 ≤ k ∧ k ≤ 1000000) ∧ x.length ≤ 80 then ((k, x), 0) else ((0, []), 3) := fun hc => by
  unfold metaR metaI
  simp only [hu, e1, e2, hc, if_true]
 have hR0 : c ≠ 0 → metaR t = ((0, []), (c : Int)) := fun hc => by
  unfold metaR
  simp only [hu, if_neg hc]
 obtain ⟨R, hRe⟩ : ∃ R, R = metaR t := ⟨_, rfl⟩
 rw [← hRe] at hR hR0 ⊢
 refine PC_of ?_
 refine w_impl_metaRead (by simp) ?_
 unfold b_impl_metaRead
 simp -implicitDefEqProofs only [go_sem]
 intro b2 hb_b2 n_b2
 simp -implicitDefEqProofs only [go_sem, hb_b2]
 refine (unseal_pc _ t (by omega)).use ?_
 rw [hu]
 by_cases hc : c = 0
 rotate_left
 ·simp -implicitDefEqProofs only [go_sem, show ¬ ((c : Int) = 0) by omega, hb_b2]
  exact ⟨((Ext.refl _).set' n_b2 _), by rw [hR0 hc]⟩
 subst hc
 have hR := hR rfl
 simp -implicitDefEqProofs only [go_sem, show ((0 : Nat) : Int) = 0 from rfl, hb_b2]
 intro b5 hb_b5 m0_b5
 obtain ⟨z_b5_b2, y_b5_b2, n_b5⟩ := fne m0_b5
 simp only [H.set_base] at hb_b5
 simp -implicitDefEqProofs only [go_sem, hb_b2, hb_b5, z_b5_b2, y_b5_b2]
 refine AC_of (rnum e1 (by simp only [H.set_base]; assumption) (H.set_get_same _ _ _) (by omega) (by omega)) ?_
 rintro _ _ - ⟨rfl, rfl⟩
 rw [H.set_set]
 simp -implicitDefEqProofs only [go_sem, hb_b2, hb_b5, z_b5_b2, y_b5_b2]
 refine AC_of (rword e2 (by simp only [H.set_base]; assumption) (H.set_get_same _ _ _) (by omega) (by omega)) ?_
 rintro _ _ - ⟨rfl, rfl⟩
 rw [H.set_set]
 cases c2 with
 | true =>
  simp -implicitDefEqProofs only [go_sem, hb_b2, hb_b5, z_b5_b2, y_b5_b2]
  exact ⟨(((Ext.refl _).set' n_b2 _).set' n_b5 _), by rw [hR, if_neg (by simp)]⟩
 | false =>
  by_cases h3 : a2 = i.length
  rotate_left
  ·simp -implicitDefEqProofs only [go_sem, show ¬ ((a2 : Int) = (i.length : Int)) by omega, hb_b2, hb_b5, z_b5_b2, y_b5_b2]
   exact ⟨(((Ext.refl _).set' n_b2 _).set' n_b5 _), by rw [hR, if_neg (fun h => h3 h.2.1)]⟩
  subst h3
  simp -implicitDefEqProofs only [go_sem, hb_b2, hb_b5, z_b5_b2, y_b5_b2]
  refine (within_pc _ _ _ _).use ?_
  by_cases h4 : 1 ≤ k ∧ k ≤ 1000000
  rotate_left
  ·simp -implicitDefEqProofs only [go_sem, h4, hb_b2, hb_b5, z_b5_b2, y_b5_b2]
   exact ⟨(((Ext.refl _).set' n_b2 _).set' n_b5 _), by rw [hR, if_neg (fun h => h4 h.2.2.1)]⟩
  by_cases h5 : (80 : Int) < (x.length : Int)
  ·simp -implicitDefEqProofs only [go_sem, h4, h5, hb_b2, hb_b5, z_b5_b2, y_b5_b2]
   exact ⟨(((Ext.refl _).set' n_b2 _).set' n_b5 _), by rw [hR, if_neg (fun h => by omega)]⟩
  ·simp -implicitDefEqProofs only [go_sem, h4, h5, hb_b2, hb_b5, z_b5_b2, y_b5_b2]
   exact ⟨(((Ext.refl _).set' n_b2 _).set' n_b5 _), by rw [hR, if_pos ⟨rfl, rfl, h4, by omega⟩]⟩
def b_spec_MetaBytes : C := (jo [q 4 (.mv (.c (str [])))]
 (.seq (jo [jm 5 0, jc 6 118 [(.t 5), (.c (i64 1)), (.c (i64 1000000))], q 7 (.un .not (.t 6)), jm 8 7, qg 9 8 false (.mv (.t 1)), qg 10 8 false (.slen (.t 9)), qg 11 8 false (.bin .gtr (.t 10) (.c (i64 80))), q 12 (.pick (.t 8) (.c (.bool true)) (.t 11))]
 (.cond (.t 12) (jo [q 4 (.mv (.c (str [])))]
 .ret) .skip))
 (jo [jm 13 0, jc 14 55 [(.t 13)], jm 15 1, jc 16 56 [(.t 15)], jb 17 .add 14 16, jc 18 45 [(.t 17)], jm 4 18]
 .ret)))
theorem w_spec_MetaBytes : Wk Tryz.prog 134 19 [.tmp 4] b_spec_MetaBytes := Wk.of mixedOrders Tryz.func134 (by kernel_rfl) (by kernel_rfl)

theorem specMetaBytes_pc (h : H) (n : Int) (x : List UInt8) (hn : in64 n) (hx : x.length ≤ 1048576) : PC Tryz.prog 134 [i64 n, str x] h (str (metaBytes n x)) := by
 have h1 := putNum_le hn
 unfold metaBytes metaB
 refine w_spec_MetaBytes (by simp) ?_
 unfold b_spec_MetaBytes
 simp -implicitDefEqProofs only [go_sem]
 refine (l03Is_pc _ _ _ _).use ?_
 by_cases h4 : 1 ≤ n ∧ n ≤ 1000000
 rotate_left
 ·rw [if_neg (fun h => h4 h.1)]
  simp -implicitDefEqProofs only [go_sem, h4]
 by_cases h5 : (80 : Int) < (x.length : Int)
 ·rw [if_neg (fun h => by omega)]
  simp -implicitDefEqProofs only [go_sem, h4, h5]
 have hl : (putText x).length ≤ 100 := by
  have h2 := putNum_le (n := (x.length : Int)) (by constructor <;> omega)
  unfold putText
  rw [List.length_append]; omega
 rw [if_pos ⟨h4, by omega⟩]
 simp -implicitDefEqProofs only [go_sem, h4, h5]
 refine (specPutNum_pc _ n hn).use ?_
 simp -implicitDefEqProofs only [go_sem]
 refine (specPutText_pc _ x (by omega)).use ?_
 simp -implicitDefEqProofs only [go_sem, show (putNum n).length + (putText x).length ≤ 4611686018427387904 by omega]
 refine (specSeal_pc _ _ (by rw [List.length_append]; omega)).use ?_
 simp -implicitDefEqProofs only [go_sem]
def Reads1 (t : List UInt8) (n : Int) (x : List UInt8) (e : Nat) : Prop := ∃ a1, getN t 0 = (n, a1, 0) ∧ getT t a1 = (x, e, 0)
theorem Reads1.eq {t x : List UInt8} {k : Int} {e : Nat} (r : Reads1 t k x e) : t = putNum k ++ putText x ++ t.drop e ∧ 0 < e ∧ e ≤ t.length ∧ in64 k ∧ x.length ≤ 8000 := by
 obtain ⟨a1, g1, g3⟩ := r
 obtain ⟨k1, k2, k3, k4⟩ := getN_ok g1
 obtain ⟨x1, x2, x3, x4⟩ := getT_ok g3
 refine ⟨?_, by omega, x3, k4, x4⟩
 rw [List.drop_zero] at k1
 rw [x1] at k1
 simpa only [List.append_assoc] using k1
theorem metaI_ok {i x : List UInt8} {k : Int} {e : Nat} (r : Reads1 i k x e) : metaI i = if e = i.length ∧ (1 ≤ k ∧ k ≤ 1000000) ∧ x.length ≤ 80 then ((k, x), 0) else ((0, []), 3) := by
 obtain ⟨a1, g1, g3⟩ := r
 unfold metaI
 simp only [numI_ok _ g1, textI_ok _ g3, true_and]
theorem metaI_no {i : List UInt8} (hr : ¬ ∃ k x e, Reads1 i k x e) : metaI i = ((0, []), 3) := by
 obtain ⟨k, a1, c1, e1⟩ : ∃ k a1 c1, numI i 0 false = (k, a1, c1) := ⟨_, _, _, rfl⟩
 obtain ⟨x, a2, c2, e2⟩ : ∃ k a2 c2, textI i a1 c1 = (k, a2, c2) := ⟨_, _, _, rfl⟩
 unfold metaI
 simp only [e1, e2]
 cases c2 with
 | true => rw [if_neg (by simp)]
 | false =>
  obtain ⟨rfl, g3⟩ := textI_inv e2
  obtain ⟨_, g1⟩ := numI_inv e1
  exact absurd ⟨_, _, _, a1, g1, g3⟩ hr
theorem metaBytes_iff {t i x : List UInt8} {k : Int} {e : Nat} (hu : unsealB t = (i, 0)) (r : Reads1 i k x e) : metaBytes k x = t ↔ e = i.length ∧ (1 ≤ k ∧ k ≤ 1000000) ∧ x.length ≤ 80 := by
 obtain ⟨h1, h2, h3, _, _⟩ := r.eq
 obtain ⟨u1, u2⟩ := unsealB_ok hu
 unfold metaBytes metaB
 constructor
 ·intro h
  split at h
  ·rename_i hc
   refine ⟨?_, hc⟩
   rw [← u1] at h
   have h5 := sealB_inj h
   rw [h5] at h1
   have := congrArg List.length h1
   simp only [List.length_append, List.length_drop] at this
   omega
  ·rw [← h] at u2; simp at u2
 ·rintro ⟨rfl, hc⟩
  rw [if_pos hc, ← u1]
  rw [List.drop_length, List.append_nil] at h1
  rw [← h1]
def b_spec_MetaRead : C := (jo [⟨(some 2), none, .alloc [(i64 0), (str []), (i64 0)]⟩]
 (jo [jm 6 0, jc 7 46 [(.t 6)], ⟨(some 3), none, .alloc [(str []), (i64 0), (i64 0)]⟩, js 3 3 7]
 (.seq (jo [jf 8 2 3, jl 9 8, jk 10 .neq 9 0]
 (.cond (.t 10) (jo [jf 11 2 3, jl 12 11, q 13 (.build [(i64 0), (str []), (i64 0)] [(2, 1, (.t 12))]), js 3 2 13]
 .ret) .skip))
 (jo [jf 14 0 3, jl 15 14, jc 16 114 [(.t 15), (.c (i64 0))], ⟨(some 4), none, .alloc [(i64 0), (i64 0), (i64 0)]⟩, js 3 4 16]
 (jo [jf 17 0 3, jl 18 17, jf 19 1 4, jl 20 19, jc 21 115 [(.t 18), (.t 20)], ⟨(some 5), none, .alloc [(str []), (i64 0), (i64 0)]⟩, js 3 5 21]
 (.seq (jo [jf 22 2 4, jl 23 22, jk 24 .neq 23 0, jm 25 24, qg 26 25 false (.fld 2 (.t 5)), qg 27 25 false (.ld false 1 (.t 26)), qg 28 25 false (.bin .neq (.t 27) (.c (i64 0))), q 29 (.pick (.t 25) (.c (.bool true)) (.t 28)), jm 30 29, qg 31 30 false (.fld 0 (.t 4)), qg 32 30 false (.ld false 1 (.t 31)), qg 33 30 false (.fld 0 (.t 5)), qg 34 30 false (.ld false 1 (.t 33)), jcg 35 30 false 134 [(.t 32), (.t 34)], qg 36 30 false (.mv (.t 0)), qg 37 30 false (.bin .neq (.t 35) (.t 36)), q 38 (.pick (.t 30) (.c (.bool true)) (.t 37))]
 (.cond (.t 38) (jo [q 39 (.build [(i64 0), (str []), (i64 0)] [(2, 1, (.c (i64 3)))]), js 3 2 39]
 .ret) .skip))
 (jo [jf 40 0 4, jl 41 40, jf 42 0 5, jl 43 42, q 44 (.build [(i64 0), (str []), (i64 0)] [(0, 1, (.t 41)), (1, 1, (.t 43))]), js 3 2 44]
 .ret)))))))
theorem w_spec_MetaRead : Wk Tryz.prog 200 45 [.cell 2 true 3] b_spec_MetaRead := Wk.of mixedOrders Tryz.func200 (by kernel_rfl) (by kernel_rfl)

theorem specMetaRead_pc (h : H) (t : List UInt8) (ht : t.length ≤ 8000) : PC Tryz.prog 200 [str t] h (.agg (metaC (metaR t)).toArray) := by
 obtain ⟨i, c, hu⟩ : ∃ i c, unsealB t = (i, c) := ⟨_, _, rfl⟩
 have hi : i.length ≤ 8000 := by have := unsealB_len t; rw [hu] at this; simp only at this; omega
 obtain ⟨n, a1, c1, g1⟩ : ∃ k a1 c1, getN i 0 = (k, a1, c1) := ⟨_, _, _, rfl⟩
 obtain ⟨x, a2, c2, g2⟩ : ∃ k a2 c2, getT i a1 = (k, a2, c2) := ⟨_, _, _, rfl⟩
 have l1 : a1 ≤ 8000 := by have := getN_le i 0; rw [g1] at this; simp only at this; omega
 unfold metaR
 simp only [hu]
 have hun := fun hh => specUnseal_pc hh t (by omega)
 simp only [if_neg (show ¬ 8000 < t.length by omega), hu] at hun
 refine PC_of ?_
 refine w_spec_MetaRead (by simp) ?_
 unfold b_spec_MetaRead
 simp -implicitDefEqProofs only [go_sem]
 intro b2 hb_b2 n_b2
 simp -implicitDefEqProofs only [go_sem, hb_b2]
 refine (hun _).use ?_
 simp -implicitDefEqProofs only [go_sem, hb_b2]
 intro b3 hb_b3 m0_b3
 obtain ⟨z_b3_b2, y_b3_b2, n_b3⟩ := fne m0_b3
 simp only [H.set_base] at hb_b3
 by_cases hc : c = 0
 rotate_left
 ·simp -implicitDefEqProofs only [go_sem, show ¬ ((c : Int) = 0) by omega, hb_b2, hb_b3, z_b3_b2, y_b3_b2]
  exact ⟨(((Ext.refl _).set' n_b2 _).set' n_b3 _), by rw [if_neg hc]⟩
 subst hc
 rw [if_pos rfl]
 simp -implicitDefEqProofs only [go_sem, show ((0 : Nat) : Int) = 0 from rfl, hb_b2, hb_b3, z_b3_b2, y_b3_b2]
 refine (specGetNum_pc _ i 0 hi (by omega)).use ?_
 rw [g1]
 simp -implicitDefEqProofs only [go_sem, hb_b2, hb_b3, z_b3_b2, y_b3_b2]
 intro b4 hb_b4 m0_b4
 obtain ⟨z_b4_b3, y_b4_b3, m1_b4⟩ := fne m0_b4
 obtain ⟨z_b4_b2, y_b4_b2, n_b4⟩ := fne m1_b4
 simp only [H.set_base] at hb_b4
 simp -implicitDefEqProofs only [go_sem, hb_b2, hb_b3, z_b3_b2, y_b3_b2, hb_b4, z_b4_b3, y_b4_b3, z_b4_b2, y_b4_b2]
 refine (specGetText_pc _ i a1 hi (by omega)).use ?_
 rw [g2]
 simp -implicitDefEqProofs only [go_sem, hb_b2, hb_b3, z_b3_b2, y_b3_b2, hb_b4, z_b4_b3, y_b4_b3, z_b4_b2, y_b4_b2]
 intro b5 hb_b5 m0_b5
 obtain ⟨z_b5_b4, y_b5_b4, m1_b5⟩ := fne m0_b5
 obtain ⟨z_b5_b3, y_b5_b3, m2_b5⟩ := fne m1_b5
 obtain ⟨z_b5_b2, y_b5_b2, n_b5⟩ := fne m2_b5
 simp only [H.set_base] at hb_b5
 by_cases h1 : c1 = 0
 rotate_left
 ·have hno : metaI i = ((0, []), 3) := metaI_no (by rintro ⟨k, x', e, a, q1, q2⟩; rw [g1] at q1; simp only [Prod.mk.injEq] at q1; exact h1 q1.2.2)
  simp -implicitDefEqProofs only [go_sem, show ¬ ((c1 : Int) = 0) by omega, hb_b2, hb_b3, z_b3_b2, y_b3_b2, hb_b4, z_b4_b3, y_b4_b3, z_b4_b2, y_b4_b2, hb_b5, z_b5_b4, y_b5_b4, z_b5_b3, y_b5_b3, z_b5_b2, y_b5_b2]
  exact ⟨(((((Ext.refl _).set' n_b2 _).set' n_b3 _).set' n_b4 _).set' n_b5 _), by rw [hno]⟩
 subst h1
 by_cases h2 : c2 = 0
 rotate_left
 ·have hno : metaI i = ((0, []), 3) := metaI_no (by rintro ⟨k, x', e, a, q1, q2⟩; rw [g1] at q1; simp only [Prod.mk.injEq, and_true] at q1; obtain ⟨rfl, rfl⟩ := q1; rw [g2] at q2; simp only [Prod.mk.injEq] at q2; exact h2 q2.2.2)
  simp -implicitDefEqProofs only [go_sem, show ((0 : Nat) : Int) = 0 from rfl, show ¬ ((c2 : Int) = 0) by omega, hb_b2, hb_b3, z_b3_b2, y_b3_b2, hb_b4, z_b4_b3, y_b4_b3, z_b4_b2, y_b4_b2, hb_b5, z_b5_b4, y_b5_b4, z_b5_b3, y_b5_b3, z_b5_b2, y_b5_b2]
  exact ⟨(((((Ext.refl _).set' n_b2 _).set' n_b3 _).set' n_b4 _).set' n_b5 _), by rw [hno]⟩
 subst h2
 have r : Reads1 i n x a2 := ⟨a1, g1, g2⟩
 obtain ⟨_, _, _, q4, q5⟩ := r.eq
 have hb := metaBytes_iff hu r
 rw [metaI_ok r]
 simp -implicitDefEqProofs only [go_sem, show ((0 : Nat) : Int) = 0 from rfl, hb_b2, hb_b3, z_b3_b2, y_b3_b2, hb_b4, z_b4_b3, y_b4_b3, z_b4_b2, y_b4_b2, hb_b5, z_b5_b4, y_b5_b4, z_b5_b3, y_b5_b3, z_b5_b2, y_b5_b2]
 refine (specMetaBytes_pc _ n x q4 (by omega)).use ?_
 by_cases h3 : metaBytes n x = t
 ·rw [if_pos (hb.1 h3)]
  simp -implicitDefEqProofs only [go_sem, decide_eq_true h3, h3, hb_b2, hb_b3, z_b3_b2, y_b3_b2, hb_b4, z_b4_b3, y_b4_b3, z_b4_b2, y_b4_b2, hb_b5, z_b5_b4, y_b5_b4, z_b5_b3, y_b5_b3, z_b5_b2, y_b5_b2]
  exact (((((Ext.refl _).set' n_b2 _).set' n_b3 _).set' n_b4 _).set' n_b5 _)
 ·rw [if_neg (fun h => h3 (hb.2 h))]
  simp -implicitDefEqProofs only [go_sem, h3, hb_b2, hb_b3, z_b3_b2, y_b3_b2, hb_b4, z_b4_b3, y_b4_b3, z_b4_b2, y_b4_b2, hb_b5, z_b5_b4, y_b5_b4, z_b5_b3, y_b5_b3, z_b5_b2, y_b5_b2]
  exact (((((Ext.refl _).set' n_b2 _).set' n_b3 _).set' n_b4 _).set' n_b5 _)
def metaGet (f : UFlash) : ((Int × List UInt8) × Int) × Int :=
 let a := metaR (flashGet f 0); let b := metaR (flashGet f 1)
 if a.2 = 0 ∧ (b.2 ≠ 0 ∨ b.1.1 ≤ a.1.1) then (a, 0) else if b.2 = 0 then (b, 1) else (((0, []), 6), -1)
end Go.Proofs.YthjbhdmjfakfaaaGreatDoor