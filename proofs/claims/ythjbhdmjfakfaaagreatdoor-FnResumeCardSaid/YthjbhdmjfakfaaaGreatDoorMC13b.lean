/- A helper of this seat's claims (contracts of the functions): what it shows is shown for every input that its statements name, on no other condition. -/
import Derived.Test.YthjbhdmjfakfaaaGreatDoorMC06
import Derived.Test.YthjbhdmjfakfaaaGreatDoorMC0
import Derived.Test.YthjbhdmjfakfaaaGreatDoorKD
set_option linter.unusedVariables false
set_option linter.unusedSimpArgs false
set_option maxRecDepth 100000
namespace Go.Proofs.YthjbhdmjfakfaaaGreatDoor
open Go.KH

def unsealB (t : List UInt8) : List UInt8 × Nat := if t.length < 4 then ([], 4) else if sealB (t.take (t.length - 4)) = t then (t.take (t.length - 4), 0) else ([], 5)
theorem four_len (x : BitVec 32) : (four x).length = 4 := rfl
theorem sealB_len (t : List UInt8) : (sealB t).length = t.length + 4 := by unfold sealB; rw [List.length_append, four_len]
theorem sealB_inj {a b : List UInt8} (h : sealB a = sealB b) : a = b := by
 have hl := congrArg List.length h
 rw [sealB_len, sealB_len] at hl
 unfold sealB at h
 exact (List.append_inj h (by omega)).1
theorem unsealB_ok {t i : List UInt8} (h : unsealB t = (i, 0)) : sealB i = t ∧ i.length + 4 = t.length := by
 unfold unsealB at h
 split at h
 ·simp at h
 ·split at h
  ·rename_i h4 hs; simp only [Prod.mk.injEq, and_true] at h; rw [← h]; exact ⟨hs, by rw [List.length_take]; omega⟩
  ·simp at h
theorem unsealB_len (t : List UInt8) : (unsealB t).1.length ≤ t.length := by
 unfold unsealB
 split
 ·simp
 ·split
  ·simp only [List.length_take]; omega
  ·simp
theorem four_iff (t : List UInt8) (h : ¬ t.length < 4) : four (crc (t.take (t.length - 4))) = t.drop (t.length - 4) ↔ sealB (t.take (t.length - 4)) = t := by
 unfold sealB
 constructor
 ·intro h1; rw [h1, List.take_append_drop]
 ·intro h1
  have h2 : t.take (t.length - 4) ++ four (crc (t.take (t.length - 4))) = t.take (t.length - 4) ++ t.drop (t.length - 4) := by rw [h1, List.take_append_drop]
  exact List.append_cancel_left h2
theorem subn (h h' : H) : KH.Sub h.none h' = True := propext ⟨fun _ => trivial, fun _ => ⟨fun b ob hb => (by cases hb), fun b l hb => (by cases hb)⟩⟩
def b_impl_unseal : C := (jo [q 2 (.mv (.c (str []))), q 3 (.mv (.c (i64 0)))]
 (.seq (jo [jm 5 0, q 6 (.slen (.t 5)), jk 7 .lss 6 4]
 (.cond (.t 7) (jo [q 2 (.mv (.c (str []))), q 3 (.mv (.c (i64 4)))]
 .ret) .skip))
 (jo [jm 8 0, jm 9 0, q 10 (.slen (.t 9)), jk 11 .sub 10 4, q 12 (.ssl (.t 8) none (some (.t 11))), jm 4 12]
 (.seq (jo [jm 13 4, jc 14 98 [(.t 13)], jm 15 0, jb 16 .neq 14 15]
 (.cond (.t 16) (jo [q 2 (.mv (.c (str []))), q 3 (.mv (.c (i64 5)))]
 .ret) .skip))
 (jo [jm 17 4, jm 2 17, q 3 (.mv (.c (i64 0)))]
 .ret)))))
theorem w_impl_unseal : Wk Tryz.prog 106 18 [.tmp 2, .tmp 3] b_impl_unseal := Wk.of mixedOrders Tryz.func106 (by kernel_rfl) (by kernel_rfl)

theorem unseal_pc (h : H) (t : List UInt8) (ht : t.length ≤ 1099511627776) : PC Tryz.prog 106 [str t] h (.tuple #[str (unsealB t).1, i64 (unsealB t).2]) := by
 unfold unsealB
 refine w_impl_unseal (by simp) ?_
 unfold b_impl_unseal
 simp -implicitDefEqProofs only [go_sem]
 by_cases h4 : t.length < 4
 ·simp -implicitDefEqProofs only [go_sem, show (t.length : Int) < 4 by omega, h4]
  rfl
 ·have e : ((t.length : Int) - 4).toNat = t.length - 4 := by omega
  simp -implicitDefEqProofs only [go_sem, show ¬ ((t.length : Int) < 4) by omega, wrap_i64 (show -(9223372036854775808 : Int) ≤ ((t.length : Int) - 4) by omega) (show ((t.length : Int) - 4) < 9223372036854775808 by omega), show (0 : Int) ≤ (t.length : Int) - 4 by omega, show (t.length : Int) - 4 ≤ (t.length : Int) by omega, e]
  refine (seal_pc _ _ (by rw [List.length_take]; omega)).use ?_
  by_cases hs : sealB (t.take (t.length - 4)) = t
  ·simp -implicitDefEqProofs only [go_sem, hs, h4]
   rfl
  ·simp -implicitDefEqProofs only [go_sem, hs, h4]
   rfl
def b_spec_Unseal : C := (jo [⟨(some 2), none, .alloc [(str []), (i64 0), (i64 0)]⟩]
 (.seq (jo [jm 4 0, q 5 (.slen (.t 4)), jk 6 .gtr 5 8000]
 (.cond (.t 6) (jo [q 7 (.build [(str []), (i64 0), (i64 0)] [(2, 1, (.c (i64 2)))]), js 3 2 7]
 .ret) .skip))
 (.seq (jo [jm 8 0, q 9 (.slen (.t 8)), jk 10 .lss 9 4]
 (.cond (.t 10) (jo [q 11 (.build [(str []), (i64 0), (i64 0)] [(2, 1, (.c (i64 4)))]), js 3 2 11]
 .ret) .skip))
 (jo [jm 12 0, jm 13 0, q 14 (.slen (.t 13)), jk 15 .sub 14 4, q 16 (.ssl (.t 12) none (some (.t 15))), jm 3 16]
 (.seq (.seq (.dops false (.tk (jm 17 3) (.tk (jm 20 0) (.tk (jm 21 0) (.tk (q 22 (.slen (.t 21))) (.tk (jk 23 .sub 22 4) (.tk (q 24 (.ssl (.t 20) (some (.t 23)) none)) (.sq (jc 18 105 [(.c (i64 0)), (.t 17)]) (.sq (jc 19 104 [(.t 18)]) (.tk (jb 25 .neq 19 24) .nil))))))))))
 (.cond (.t 25) (jo [q 26 (.build [(str []), (i64 0), (i64 0)] [(2, 1, (.c (i64 5)))]), js 3 2 26]
 .ret) .skip))
 (jo [jm 27 3, q 28 (.build [(str []), (i64 0), (i64 0)] [(0, 1, (.t 27))]), js 3 2 28]
 .ret))))))
theorem w_spec_Unseal : Wk Tryz.prog 46 29 [.cell 2 true 3] b_spec_Unseal := Wk.of mixedOrders Tryz.func46 (by kernel_rfl) (by kernel_rfl)

theorem specUnseal_pc (h : H) (t : List UInt8) (ht : t.length ≤ 1099511627776) : PC Tryz.prog 46 [str t] h (.agg (if 8000 < t.length then #[str [], i64 0, i64 2] else #[str (unsealB t).1, i64 0, i64 (unsealB t).2])) := by
 refine PC_of ?_
 unfold unsealB
 refine w_spec_Unseal (by simp) ?_
 unfold b_spec_Unseal
 simp -implicitDefEqProofs only [go_sem]
 intro b2 hb_b2 n_b2
 by_cases h8 : 8000 < t.length
 ·simp -implicitDefEqProofs only [go_sem, show (8000 : Int) < (t.length : Int) by omega, h8, hb_b2]
  exact ((Ext.refl _).set' n_b2 _)
 by_cases h4 : t.length < 4
 ·simp -implicitDefEqProofs only [go_sem, show ¬ ((8000 : Int) < (t.length : Int)) by omega, show (t.length : Int) < 4 by omega, h4, h8, hb_b2]
  exact ⟨((Ext.refl _).set' n_b2 _), rfl⟩
 ·have e : ((t.length : Int) - 4).toNat = t.length - 4 := by omega
  have hc := l01Crc_pc (h.set b2 ⟨[str [], i64 0, i64 0], 3⟩) 0#32 (t.take (t.length - 4)) (by rw [List.length_take]; omega)
  have hf := four_iff t h4
  simp -implicitDefEqProofs only [go_sem, show ¬ ((8000 : Int) < (t.length : Int)) by omega, show ¬ ((t.length : Int) < 4) by omega, wrap_i64 (show -(9223372036854775808 : Int) ≤ ((t.length : Int) - 4) by omega) (show ((t.length : Int) - 4) < 9223372036854775808 by omega), show (0 : Int) ≤ (t.length : Int) - 4 by omega, show (t.length : Int) - 4 ≤ (t.length : Int) by omega, e, Int.le_refl, Int.natCast_nonneg, List.take_length, hb_b2]
  refine hc.use ?_
  simp -implicitDefEqProofs only [go_sem, subn, hb_b2]
  refine (l01Four_pc _ _).use ?_
  by_cases hs : sealB (t.take (t.length - 4)) = t
  ·have h1 : four (~~~ crcL (~~~ 0#32) (t.take (t.length - 4))) = t.drop (t.length - 4) := hf.2 hs
   simp -implicitDefEqProofs only [go_sem, hs, h4, h8, h1, subn, hb_b2]
   exact ⟨((Ext.refl _).set' n_b2 _), rfl⟩
  ·have h1 : ¬ four (~~~ crcL (~~~ 0#32) (t.take (t.length - 4))) = t.drop (t.length - 4) := fun h => hs (hf.1 h)
   simp -implicitDefEqProofs only [go_sem, hs, h4, h8, h1, subn, hb_b2]
   exact ⟨((Ext.refl _).set' n_b2 _), rfl⟩
def ReadsN (t : List UInt8) (k m : Int) (x : List UInt8) (e : Nat) : Prop := ∃ a1 a2, getN t 0 = (k, a1, 0) ∧ getN t a1 = (m, a2, 0) ∧ getT t a2 = (x, e, 0)
theorem ReadsN.eq {t x : List UInt8} {k m : Int} {e : Nat} (r : ReadsN t k m x e) : t = putNum k ++ putNum m ++ putText x ++ t.drop e ∧ 0 < e ∧ e ≤ t.length ∧ in64 k ∧ in64 m ∧ x.length ≤ 8000 := by
 obtain ⟨a1, a2, g1, g2, g3⟩ := r
 obtain ⟨k1, k2, k3, k4⟩ := getN_ok g1
 obtain ⟨d1, d2, d3, d4⟩ := getN_ok g2
 obtain ⟨x1, x2, x3, x4⟩ := getT_ok g3
 refine ⟨?_, by omega, x3, k4, d4, x4⟩
 rw [List.drop_zero] at k1
 rw [d1, x1] at k1
 simpa only [List.append_assoc] using k1
def noteR (t : List UInt8) (n : Int) : Option (Int × List UInt8) :=
 if (unsealB t).2 = 0 then
  let i := (unsealB t).1; let k := numI i 0 false; let m := numI i k.2.1 k.2.2; let x := textI i m.2.1 m.2.2
  if x.2.2 = false ∧ x.2.1 = i.length ∧ k.1 = n ∧ (0 ≤ n ∧ n ≤ 1000000) ∧ (0 ≤ m.1 ∧ m.1 ≤ 39) ∧ x.1.length = 8 then some (m.1, x.1) else none
 else none
abbrev actC (o : Option (Int × List UInt8)) : List Value := match o with | some p => [.bool false, i64 p.1, str p.2] | none => [.bool true, i64 0, str []]
def b_impl_noteRead : C := (jo [⟨(some 4), none, .alloc [(.bool false), (i64 0), (str [])]⟩]
 (jo [jm 12 0, jc 13 106 [(.t 12)], jm 11 13, q 14 (.ext 0 (.t 11)), q 15 (.ext 1 (.t 11)), jm 5 14, jm 6 15]
 (jo [jm 16 5, q 17 (.build [(str []), (i64 0), (.bool false)] [(0, 1, (.t 16))]), ⟨(some 18), none, .box (.t 17)⟩, jm 7 18]
 (jo [jm 19 7, jc 20 107 [(.t 19)], jm 21 7, jc 22 107 [(.t 21)], jm 23 7, jc 24 108 [(.t 23)], jm 8 20, jm 9 22, jm 10 24]
 (.seq (jo [jm 25 6, jk 26 .neq 25 0, jm 27 26, qg 28 27 false (.mv (.t 7)), qg 29 27 false (.nck (.t 28)), qg 30 27 false (.fld 2 (.t 29)), qg 31 27 false (.ld false 1 (.t 30)), q 32 (.pick (.t 27) (.c (.bool true)) (.t 31)), jm 33 32, qg 34 33 false (.mv (.t 7)), qg 35 33 false (.nck (.t 34)), qg 36 33 false (.fld 1 (.t 35)), qg 37 33 false (.ld false 1 (.t 36)), qg 38 33 false (.mv (.t 5)), qg 39 33 false (.slen (.t 38)), qg 40 33 false (.bin .neq (.t 37) (.t 39)), q 41 (.pick (.t 33) (.c (.bool true)) (.t 40)), jm 42 41, qg 43 42 false (.mv (.t 8)), qg 44 42 false (.mv (.t 1)), qg 45 42 false (.bin .neq (.t 43) (.t 44)), q 46 (.pick (.t 42) (.c (.bool true)) (.t 45)), jm 47 46, qg 48 47 false (.mv (.t 1)), jcg 49 47 false 141 [(.t 48)], qg 50 47 false (.un .not (.t 49)), q 51 (.pick (.t 47) (.c (.bool true)) (.t 50)), jm 52 51, qg 53 52 false (.mv (.t 9)), jcg 54 52 false 140 [(.t 53), (.c (i64 0)), (.c (i64 39))], qg 55 52 false (.un .not (.t 54)), q 56 (.pick (.t 52) (.c (.bool true)) (.t 55)), jm 57 56, qg 58 57 false (.mv (.t 10)), qg 59 57 false (.slen (.t 58)), qg 60 57 false (.bin .neq (.t 59) (.c (i64 8))), q 61 (.pick (.t 57) (.c (.bool true)) (.t 60))]
 (.cond (.t 61) (jo [q 62 (.build [(.bool false), (i64 0), (str [])] [(0, 1, (.c (.bool true)))]), js 3 4 62]
 .ret) .skip))
 (jo [jm 63 9, jm 64 10, q 65 (.build [(.bool false), (i64 0), (str [])] [(1, 1, (.t 63)), (2, 1, (.t 64))]), js 3 4 65]
 .ret))))))
theorem w_impl_noteRead : Wk Tryz.prog 165 66 [.cell 4 true 3] b_impl_noteRead := Wk.of mixedOrders Tryz.func165 (by kernel_rfl) (by kernel_rfl)

theorem noteR_pc (h : H) (t : List UInt8) (n : Int) (ht : t.length ≤ 8000) : PC Tryz.prog 165 [str t, i64 n] h (.agg (actC (noteR t n)).toArray) := by
 obtain ⟨i, c, hu⟩ : ∃ i c, unsealB t = (i, c) := ⟨_, _, rfl⟩
 have hi : i.length ≤ 8000 := by have := unsealB_len t; rw [hu] at this; simp only at this; omega
 obtain ⟨k, a1, c1, e1⟩ : ∃ k a1 c1, numI i 0 false = (k, a1, c1) := ⟨_, _, _, rfl⟩
 obtain ⟨m, a2, c2, e2⟩ : ∃ k a2 c2, numI i a1 c1 = (k, a2, c2) := ⟨_, _, _, rfl⟩
 obtain ⟨x, a3, c3, e3⟩ : ∃ k a3 c3, textI i a2 c2 = (k, a3, c3) := ⟨_, _, _, rfl⟩
 have l1 := numI_eq e1 (by omega) hi
 have l2 := numI_eq e2 l1 hi
 unfold noteR
 simp only [hu, e1, e2, e3]
 refine PC_of ?_
 refine w_impl_noteRead (by simp) ?_
 unfold b_impl_noteRead
 simp -implicitDefEqProofs only [go_sem]
 intro b4 hb_b4 n_b4
 simp -implicitDefEqProofs only [go_sem, hb_b4]
 refine (unseal_pc _ t (by omega)).use ?_
 rw [hu]
 simp -implicitDefEqProofs only [go_sem, hb_b4]
 intro b7 hb_b7 m0_b7
 obtain ⟨z_b7_b4, y_b7_b4, n_b7⟩ := fne m0_b7
 simp only [H.set_base] at hb_b7
 simp -implicitDefEqProofs only [go_sem, hb_b4, hb_b7, z_b7_b4, y_b7_b4]
 refine AC_of (rnum e1 (by simp only [H.set_base]; assumption) (H.set_get_same _ _ _) (by omega) (by omega)) ?_
 rintro _ _ - ⟨rfl, rfl⟩
 rw [H.set_set]
 simp -implicitDefEqProofs only [go_sem, hb_b4, hb_b7, z_b7_b4, y_b7_b4]
 refine AC_of (rnum e2 (by simp only [H.set_base]; assumption) (H.set_get_same _ _ _) (by omega) (by omega)) ?_
 rintro _ _ - ⟨rfl, rfl⟩
 rw [H.set_set]
 simp -implicitDefEqProofs only [go_sem, hb_b4, hb_b7, z_b7_b4, y_b7_b4]
 refine AC_of (rword e3 (by simp only [H.set_base]; assumption) (H.set_get_same _ _ _) (by omega) (by omega)) ?_
 rintro _ _ - ⟨rfl, rfl⟩
 rw [H.set_set]
 by_cases hc : c = 0
 rotate_left
 ·simp -implicitDefEqProofs only [go_sem, show ¬ ((c : Int) = 0) by omega, hb_b4, hb_b7, z_b7_b4, y_b7_b4]
  exact ⟨(((Ext.refl _).set' n_b4 _).set' n_b7 _), by rw [if_neg hc]⟩
 subst hc
 cases c3 with
 | true =>
  simp -implicitDefEqProofs only [go_sem, show ((0 : Nat) : Int) = 0 from rfl, hb_b4, hb_b7, z_b7_b4, y_b7_b4]
  first | exact (((Ext.refl _).set' n_b4 _).set' n_b7 _) | exact ⟨(((Ext.refl _).set' n_b4 _).set' n_b7 _), by first | rfl | (rw [if_neg (by simp_all)]; done) | (rw [if_neg (by simp_all; done)]; rfl) | (simp_all; done)⟩
 | false =>
  by_cases h3 : a3 = i.length
  rotate_left
  ·simp -implicitDefEqProofs only [go_sem, show ((0 : Nat) : Int) = 0 from rfl, show ¬ ((a3 : Int) = (i.length : Int)) by omega, hb_b4, hb_b7, z_b7_b4, y_b7_b4]
   first | exact (((Ext.refl _).set' n_b4 _).set' n_b7 _) | exact ⟨(((Ext.refl _).set' n_b4 _).set' n_b7 _), by first | rfl | (rw [if_neg (by simp_all)]; done) | (rw [if_neg (by simp_all; done)]; rfl) | (simp_all; done)⟩
  subst h3
  by_cases h4 : k = n
  rotate_left
  ·simp -implicitDefEqProofs only [go_sem, show ((0 : Nat) : Int) = 0 from rfl, h4, hb_b4, hb_b7, z_b7_b4, y_b7_b4]
   first | exact (((Ext.refl _).set' n_b4 _).set' n_b7 _) | exact ⟨(((Ext.refl _).set' n_b4 _).set' n_b7 _), by first | rfl | (rw [if_neg (by simp_all)]; done) | (rw [if_neg (by simp_all; done)]; rfl) | (simp_all; done)⟩
  subst h4
  simp -implicitDefEqProofs only [go_sem, show ((0 : Nat) : Int) = 0 from rfl, hb_b4, hb_b7, z_b7_b4, y_b7_b4]
  refine (isTime_pc _ _).use ?_
  simp -implicitDefEqProofs only [go_sem, hb_b4, hb_b7, z_b7_b4, y_b7_b4]
  refine Br.of (fun h5 => ?_) (fun h5 => ?_)
  rotate_left
  ·simp -implicitDefEqProofs only [go_sem, h5, hb_b4, hb_b7, z_b7_b4, y_b7_b4]
   first | exact (((Ext.refl _).set' n_b4 _).set' n_b7 _) | exact ⟨(((Ext.refl _).set' n_b4 _).set' n_b7 _), by first | rfl | (rw [if_neg (by simp_all)]; done) | (rw [if_neg (by simp_all; done)]; rfl) | (simp_all; done)⟩
  simp -implicitDefEqProofs only [go_sem, h5, hb_b4, hb_b7, z_b7_b4, y_b7_b4]
  refine (within_pc _ _ _ _).use ?_
  simp -implicitDefEqProofs only [go_sem, h5, hb_b4, hb_b7, z_b7_b4, y_b7_b4]
  refine Br.of (fun h6 => ?_) (fun h6 => ?_)
  rotate_left
  ·simp -implicitDefEqProofs only [go_sem, h6, hb_b4, hb_b7, z_b7_b4, y_b7_b4]
   first | exact (((Ext.refl _).set' n_b4 _).set' n_b7 _) | exact ⟨(((Ext.refl _).set' n_b4 _).set' n_b7 _), by first | rfl | (rw [if_neg (by simp_all)]; done) | (rw [if_neg (by simp_all; done)]; rfl) | (simp_all; done)⟩
  simp -implicitDefEqProofs only [go_sem, h6, hb_b4, hb_b7, z_b7_b4, y_b7_b4]
  by_cases h7 : x.length = 8
  ·simp -implicitDefEqProofs only [go_sem, show (x.length : Int) = 8 by omega, hb_b4, hb_b7, z_b7_b4, y_b7_b4]
   first | exact (((Ext.refl _).set' n_b4 _).set' n_b7 _) | exact ⟨(((Ext.refl _).set' n_b4 _).set' n_b7 _), by first | rfl | (rw [if_neg (by simp_all)]; done) | (rw [if_neg (by simp_all; done)]; rfl) | (simp_all; done)⟩
  ·simp -implicitDefEqProofs only [go_sem, show ¬ ((x.length : Int) = 8) by omega, hb_b4, hb_b7, z_b7_b4, y_b7_b4]
   first | exact (((Ext.refl _).set' n_b4 _).set' n_b7 _) | exact ⟨(((Ext.refl _).set' n_b4 _).set' n_b7 _), by first | rfl | (rw [if_neg (by simp_all)]; done) | (rw [if_neg (by simp_all; done)]; rfl) | (simp_all; done)⟩
end Go.Proofs.YthjbhdmjfakfaaaGreatDoor
namespace Go.Proofs.YthjbhdmjfakfaaaGreatDoor
open Go.KH

abbrev strs (l : List (List UInt8)) : List (List Value) := l.map fun s => [str s]
theorem strs_wid (l : List (List UInt8)) : Wid 1 (strs l) := Wid.map fun _ => rfl
theorem strs_one (l : List (List UInt8)) : (strs l).flatten.all Value.oneCell' = true := by simp [strs, oneCell_str]
end Go.Proofs.YthjbhdmjfakfaaaGreatDoor
namespace Go.Proofs.YthjbhdmjfakfaaaGreatDoor
open Go.KH

end Go.Proofs.YthjbhdmjfakfaaaGreatDoor
namespace Go.Proofs.YthjbhdmjfakfaaaGreatDoor
open Go.KH

def imageOk (l : List (List UInt8)) : Prop := (1 ≤ l.length ∧ l.length ≤ 8) ∧ ∀ s ∈ l, s.length = 8
instance (l : List (List UInt8)) : Decidable (imageOk l) := by unfold imageOk; infer_instance
theorem firstAt_any {α : Type} (p : α → Bool) (l : List α) : decide (0 ≤ firstAt p l) = l.any p := by
 cases h : l.any p with
 | true =>
  obtain ⟨x, hx, hp⟩ := List.any_eq_true.1 h
  obtain ⟨k, hk, e⟩ : ∃ k, ∃ hk : k < l.length, p l[k] = true := by obtain ⟨k, hk, rfl⟩ := List.getElem_of_mem hx; exact ⟨k, hk, hp⟩
  apply decide_eq_true
  by_cases h0 : 0 ≤ firstAt p l
  ·exact h0
  ·have hle := firstAt_le p l
   have : firstAt p l = -1 := by omega
   unfold firstAt at this
   split at this
   ·omega
   ·rename_i hn; rw [List.findIdx?_eq_none_iff] at hn; have := hn _ (List.getElem_mem hk); rw [e] at this; cases this
 | false =>
  apply decide_eq_false
  rw [firstAt_none (fun i hi => by
   have := List.any_eq_false.1 h l[i] (List.getElem_mem hi)
   simpa using this)]
  omega
def b_impl_size_string : C := (jo [q 2 (.mv (.c (i64 0)))]
 (jo [jm 3 0, q 4 (.len (.t 3)), jm 2 4]
 .ret))
theorem w_impl_size_string : Wk Tryz.prog 35 5 [.tmp 2] b_impl_size_string := Wk.of mixedOrders Tryz.func35 (by kernel_rfl) (by kernel_rfl)

theorem sizeStr_pc {h : H} {v : Value} {l : List (List UInt8)} (hv : Sl h v 1 (strs l)) : PC Tryz.prog 35 [v] h (i64 l.length) := by
 obtain ⟨a, c, b, o, rfl, hcap, h2, h3⟩ := hv
 rw [List.length_map]
 refine w_impl_size_string (by simp) ?_
 unfold b_impl_size_string
 simp -implicitDefEqProofs only [go_sem]
def b_impl_isBlocks : C := (jo [q 2 (.mv (.c (.bool false)))]
 (jo [jm 3 0, jc 4 140 [(.t 3), (.c (i64 1)), (.c (i64 8))], jm 2 4]
 .ret))
theorem w_impl_isBlocks : Wk Tryz.prog 84 5 [.tmp 2] b_impl_isBlocks := Wk.of mixedOrders Tryz.func84 (by kernel_rfl) (by kernel_rfl)

theorem isBlocks_pc (h : H) (n : Int) : PC Tryz.prog 84 [i64 n] h (.bool (decide (1 ≤ n ∧ n ≤ 8))) := by
 refine w_impl_isBlocks (by simp) ?_
 unfold b_impl_isBlocks
 simp -implicitDefEqProofs only [go_sem]
 refine (within_pc _ _ _ _).use ?_
 simp -implicitDefEqProofs only [go_sem]
def b_slices_IndexFunc_string_string : C := (jo [q 4 (.mv (.c (i64 0)))]
 (.seq (jo [jm 6 0, q 7 (.len (.t 6)), q 8 (.mv (.c (i64 0)))]
 (.block 0 (.loop (jo [jb 9 .lss 8 7]
 (.seq (.cond (.t 9) .skip (.exit 0))
 (.seq (.block 1 (jo [jm 10 8, jm 5 10]
 (jo [jm 11 1, jm 12 0, jm 13 5, q 14 (.idx 1 (.t 12) (.t 13)), jl 15 14, ⟨(some 16), none, .call (.t 11) [(.t 15)]⟩]
 (.cond (.t 16) (jo [jm 17 5, jm 4 17]
 .ret) .skip))))
 (.ops [jk 18 .add 8 1, jm 8 18])))))))
 (jo [q 4 (.mv (.c (i64 (-1))))]
 .ret)))
theorem w_slices_IndexFunc_string_string : Wk Tryz.prog 90 19 [.tmp 4] b_slices_IndexFunc_string_string := Wk.of mixedOrders Tryz.func90 (by kernel_rfl) (by kernel_rfl)

theorem indexStr_pc {h : H} {v : Value} {l : List (List UInt8)} {p : List UInt8 → Bool} {n : Nat} {caps : List Value} (hv : Sl h v 1 (strs l)) (hn : l.length ≤ 1048576) (hc : ∀ x, x ∈ l → PC Tryz.prog n (str x :: caps) h (.bool (p x))) :
  PC Tryz.prog 90 [v, .func (.func n) #[] caps.toArray] h (i64 (firstAt p l)) :=
 w_slices_IndexFunc_string_string (by simp) (if1_wpc hv hn hc ⟨rfl, rfl⟩)
def b_slices_ContainsFunc_string_string : C := (jo [q 4 (.mv (.c (.bool false)))]
 (jo [jm 5 0, jm 6 1, jc 7 90 [(.t 5), (.t 6)], jk 8 .geq 7 0, jm 4 8]
 .ret))
theorem w_slices_ContainsFunc_string_string : Wk Tryz.prog 85 9 [.tmp 4] b_slices_ContainsFunc_string_string := Wk.of mixedOrders Tryz.func85 (by kernel_rfl) (by kernel_rfl)

theorem containsStr_pc {h : H} {v : Value} {l : List (List UInt8)} {p : List UInt8 → Bool} {n : Nat} {caps : List Value} (hv : Sl h v 1 (strs l)) (hn : l.length ≤ 1048576) (hc : ∀ x, x ∈ l → PC Tryz.prog n (str x :: caps) h (.bool (p x))) :
  PC Tryz.prog 85 [v, .func (.func n) #[] caps.toArray] h (.bool (l.any p)) := by
 rw [← firstAt_any]
 refine w_slices_ContainsFunc_string_string (by simp) ?_
 unfold b_slices_ContainsFunc_string_string
 simp -implicitDefEqProofs only [go_sem]
 refine (indexStr_pc hv hn hc).use ?_
 simp -implicitDefEqProofs only [go_sem]
def b_impl_isImage_1 : C := (jo [q 2 (.mv (.c (.bool false)))]
 (jo [jm 3 0, q 4 (.slen (.t 3)), jk 5 .neq 4 8, jm 2 5]
 .ret))
theorem w_impl_isImage_1 : Wk Tryz.prog 86 6 [.tmp 2] b_impl_isImage_1 := Wk.of mixedOrders Tryz.func86 (by kernel_rfl) (by kernel_rfl)

theorem isImage1_pc (h : H) (s : List UInt8) : PC Tryz.prog 86 [str s] h (.bool (decide (¬ s.length = 8))) := by
 refine w_impl_isImage_1 (by simp) ?_
 unfold b_impl_isImage_1
 simp -implicitDefEqProofs only [go_sem]
 exact bool_eq (by omega)
def b_impl_isImage : C := (jo [q 2 (.mv (.c (.bool false)))]
 (jo [jm 3 0, jc 4 35 [(.t 3)], jc 5 84 [(.t 4)], jm 6 5, qg 7 6 true (.mv (.t 0)), ⟨(some 8), (some (6, true)), .call (.c (.func (.func 85) #[] #[])) [(.t 7), (.c (.func (.func 86) #[] #[]))]⟩, qg 9 6 true (.un .not (.t 8)), q 10 (.pick (.t 6) (.t 9) (.c (.bool false))), jm 2 10]
 .ret))
theorem w_impl_isImage : Wk Tryz.prog 34 11 [.tmp 2] b_impl_isImage := Wk.of mixedOrders Tryz.func34 (by kernel_rfl) (by kernel_rfl)

theorem isImage_pc {h : H} {v : Value} {l : List (List UInt8)} (hv : Sl h v 1 (strs l)) (hn : l.length ≤ 1048576) : PC Tryz.prog 34 [v] h (.bool (decide (imageOk l))) := by
 refine w_impl_isImage (by simp) ?_
 unfold b_impl_isImage
 simp -implicitDefEqProofs only [go_sem]
 refine (sizeStr_pc hv).use ?_
 simp -implicitDefEqProofs only [go_sem]
 refine (isBlocks_pc _ _).use ?_
 simp -implicitDefEqProofs only [go_sem]
 refine Br.of (fun h1 => ?_) (fun h1 => ?_)
 ·simp -implicitDefEqProofs only [go_sem, h1]
  have := containsStr_pc (caps := []) hv hn (fun x _ => isImage1_pc h x)
  refine this.use ?_
  simp -implicitDefEqProofs only [go_sem]
  by_cases h2 : ∀ s ∈ l, s.length = 8
  ·have : l.any (fun s => decide (¬ s.length = 8)) = false := by rw [List.any_eq_false]; intro x hx; simp [h2 x hx]
   rw [this]
   simp -implicitDefEqProofs only [go_sem, h1]
   exact dec_t (p := imageOk l) ⟨by omega, h2⟩
  ·have : l.any (fun s => decide (¬ s.length = 8)) = true := by
    rw [List.any_eq_true]
    obtain ⟨x, hx⟩ := Classical.not_forall.1 h2
    obtain ⟨hx, hy⟩ := Classical.not_imp.1 hx
    exact ⟨x, hx, by simp [hy]⟩
   rw [this]
   simp -implicitDefEqProofs only [go_sem, h1]
   exact dec_f (p := imageOk l) fun h => h2 h.2
 ·simp -implicitDefEqProofs only [go_sem, h1]
  exact dec_f (p := imageOk l) fun h => h1 (by have := h.1; omega)
def b_spec_ImageRight : C := (jo [q 2 (.mv (.c (.bool false)))]
 (.seq (jo [jm 4 0, q 5 (.len (.t 4)), jk 6 .lss 5 1, jm 7 6, qg 8 7 false (.mv (.t 0)), qg 9 7 false (.len (.t 8)), qg 10 7 false (.bin .gtr (.t 9) (.c (i64 8))), q 11 (.pick (.t 7) (.c (.bool true)) (.t 10))]
 (.cond (.t 11) (jo [q 2 (.mv (.c (.bool false)))]
 .ret) .skip))
 (.seq (jo [q 3 (.mv (.c (i64 0)))]
 (.block 0 (.loop (.seq (jo [jm 12 3, jm 13 0, q 14 (.len (.t 13)), jb 15 .lss 12 14]
 (.cond (.t 15) .skip (.exit 0)))
 (.seq (.block 1 (jo [jm 18 0, jm 19 3, q 20 (.idx 1 (.t 18) (.t 19)), jl 21 20, q 22 (.slen (.t 21)), jk 23 .neq 22 8]
 (.cond (.t 23) (jo [q 2 (.mv (.c (.bool false)))]
 .ret) .skip)))
 (.ops [jm 16 3, jk 17 .add 16 1, jm 3 17]))))))
 (jo [q 2 (.mv (.c (.bool true)))]
 .ret))))
theorem w_spec_ImageRight : Wk Tryz.prog 52 24 [.tmp 2] b_spec_ImageRight := Wk.of mixedOrders Tryz.func52 (by kernel_rfl) (by kernel_rfl)

theorem specImageRight_pc {h : H} {v : Value} {l : List (List UInt8)} (hv : Sl h v 1 (strs l)) (hn : l.length ≤ 1048576) : PC Tryz.prog 52 [v] h (.bool (decide (imageOk l))) := by
 obtain ⟨a, c, b, o, rfl, hcap, h2, h3⟩ := hv
 simp only [List.length_map] at h2
 skip
 refine w_spec_ImageRight (by simp) ?_
 unfold b_spec_ImageRight
 simp -implicitDefEqProofs only [go_sem, List.length_map]
 by_cases h1 : l.length < 1
 ·simp -implicitDefEqProofs only [go_sem, show (l.length : Int) < 1 by omega, List.length_map]
  exact dec_f (p := imageOk l) fun h => by have := h.1; omega
 by_cases h8 : 8 < l.length
 ·simp -implicitDefEqProofs only [go_sem, show ¬ ((l.length : Int) < 1) by omega, show (8 : Int) < (l.length : Int) by omega, List.length_map]
  exact dec_f (p := imageOk l) fun h => by have := h.1; omega
 simp -implicitDefEqProofs only [go_sem, show ¬ ((l.length : Int) < 1) by omega, show ¬ ((8 : Int) < (l.length : Int)) by omega, List.length_map]
 refine loopW_of (fun m f h' => ∃ k, m + k = l.length ∧ h' = h ∧ f 0 = .slice a l.length c ∧ f 3 = i64 k ∧ ∀ i, (hi : i < l.length) → i < k → l[i].length = 8) l.length
  ⟨0, by simp, rfl, by simp -implicitDefEqProofs only [go_sem, List.length_map, List.length_map], by simp -implicitDefEqProofs only [go_sem, List.length_map]; rfl, by omega⟩ ?_
 rintro m f h' ⟨k, hm, rfl, f0, f3, hok⟩
 skip
 by_cases hk : k < l.length
 ·have e1 := h3 k [str l[k]] (by simp [hk])
  simp -implicitDefEqProofs only [go_sem, hk, e1, List.length_map, f0, f3, h2, Int.ofNat_lt, Int.natCast_nonneg]
  by_cases h4 : l[k].length = 8
  ·simp -implicitDefEqProofs only [go_sem, show (l[k].length : Int) = 8 by omega, wrap_i64 (show -(9223372036854775808 : Int) ≤ ((k : Int) + 1) by omega) (show ((k : Int) + 1) < 9223372036854775808 by omega), List.length_map, f0, f3, h2, Int.ofNat_lt, Int.natCast_nonneg]
   refine ⟨m - 1, by omega, h', Ext.refl _, k + 1, by omega, rfl, rfl, fun i hi1 hi2 => ?_⟩
   by_cases e : i = k
   ·subst e; exact h4
   ·exact hok i hi1 (by omega)
  ·simp -implicitDefEqProofs only [go_sem, show ¬ ((l[k].length : Int) = 8) by omega, List.length_map, f0, f3, h2, Int.ofNat_lt, Int.natCast_nonneg]
   exact dec_f (p := imageOk l) fun h => h4 (h.2 _ (List.getElem_mem hk))
 ·have e : k = l.length := by omega
  subst e
  simp -implicitDefEqProofs only [go_sem, Nat.lt_irrefl, List.length_map, f0, f3, h2, Int.ofNat_lt, Int.natCast_nonneg]
  exact dec_t (p := imageOk l) ⟨by omega, fun s hs => by obtain ⟨i, hi, rfl⟩ := List.getElem_of_mem hs; exact hok i hi hi⟩
def b_slices_Clone_string_string : C := (jo [q 2 (.mv (.c nils))]
 (.seq (jo [jm 3 0, q 4 (.eqs false (.t 3) (.c nils))]
 (.cond (.t 4) (jo [q 2 (.mv (.c nils))]
 .ret) .skip))
 (jo [⟨(some 5), none, .bsl 0 [] []⟩, jm 6 0, ⟨(some 7), none, .app 1 16 (.t 5) (.t 6)⟩, jm 2 7]
 .ret)))
theorem w_slices_Clone_string_string : Wk Tryz.prog 124 8 [.tmp 2] b_slices_Clone_string_string := Wk.of mixedOrders Tryz.func124 (by kernel_rfl) (by kernel_rfl)

theorem cloneStrs_ac {h : H} {v : Value} {l : List (List UInt8)} (hv : Sl h v 1 (strs l)) (hb : l.length ≤ 1048576) : AC Tryz.prog 124 [v] h fun v' h' => Ext h h' ∧ Fre h h' v' 1 (strs l) := by
 obtain ⟨a, c, rfl⟩ := hv.shape
 have hl : (strs l).length = l.length := by simp
 refine w_slices_Clone_string_string (by simp) ?_
 unfold b_slices_Clone_string_string
 simp -implicitDefEqProofs only [go_sem]
 cases a with
 | none =>
  simp -implicitDefEqProofs only [go_sem, Option.isNone_none]
  exact ⟨Ext.refl _, .inl ⟨none, 0, rfl, hv.none⟩⟩
 | some a =>
  simp -implicitDefEqProofs only [go_sem, Option.isNone_some]
  intro b1 hb1 hn1
  have hsrc := src0 hn1 hv (strs_wid l) (by decide)
  simp -implicitDefEqProofs only [go_sem, hsrc]
  refine app0 hb1 hn1 rfl (strs_wid l) (strs_one l) (by rw [hl]; omega) ?_
  intro v' h' e o
  simp -implicitDefEqProofs only [go_sem]
  exact ⟨e, o.fre⟩
end Go.Proofs.YthjbhdmjfakfaaaGreatDoor