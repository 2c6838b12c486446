/- A helper of this seat's claims (contracts of the functions): what it shows is shown for every input that its statements name, on no other condition. -/
import Derived.Test.YthheclnjaemjnaaC09r
set_option linter.unusedVariables false
set_option linter.unusedSimpArgs false
set_option maxRecDepth 100000
namespace Go.Proofs.Ythheclnjaemjnaa
open Go.KH

/-- spec.RecordRead -/
def b_spec_RecordRead : C := (.seq (.ops [⟨(some 4), none, .alloc [(i64 0), (i64 0), (i64 0), (str []), (i64 0)]⟩])
 (.seq (.ops [q 9 (.mv (.t 0)), ⟨(some 10), none, .call (.c (.func (.func 74) #[] #[])) [(.t 9)]⟩, ⟨(some 5), none, .alloc [(str []), (i64 0), (i64 0)]⟩, ⟨none, none, .st 3 (.t 5) (.t 10)⟩])
 (.seq (.seq (.ops [q 11 (.fld 2 (.t 5)), q 12 (.ld false 1 (.t 11)), q 13 (.bin .neq (.t 12) (.c (i64 0)))])
 (.cond (.t 13) (.seq (.ops [q 14 (.fld 2 (.t 5)), q 15 (.ld false 1 (.t 14)), q 16 (.build [(i64 0), (i64 0), (i64 0), (str []), (i64 0)] [(4, 1, (.t 15))]), ⟨none, none, .st 5 (.t 4) (.t 16)⟩])
 .ret) .skip))
 (.seq (.ops [q 17 (.fld 0 (.t 5)), q 18 (.ld false 1 (.t 17)), q 19 (.build [(str []), (i64 0), (.bool false)] [(0, 1, (.t 18))]), ⟨(some 20), none, .box (.t 19)⟩, q 6 (.mv (.t 20))])
 (.seq (.ops [q 21 (.mv (.t 6)), ⟨(some 22), none, .call (.c (.func (.func 83) #[] #[])) [(.t 21)]⟩, q 7 (.mv (.t 22))])
 (.seq (.dops true (.tk (q 23 (.fld 0 (.t 5))) (.tk (q 24 (.ld false 1 (.t 23))) (.tk (q 25 (.mv (.t 6))) (.tk (q 26 (.nck (.t 25))) (.tk (q 27 (.fld 1 (.t 26))) (.tk (q 28 (.ld false 1 (.t 27))) (.tk (q 29 (.ssl (.t 24) (some (.t 28)) none)) (.alt (⟨(some 30), none, .call (.c (.func (.func 84) #[] #[])) [(.t 29)]⟩) (.sq (⟨(some 8), none, .alloc [(i64 0), (i64 0), (i64 0), (str []), (i64 0)]⟩) (.lt (⟨none, none, .st 5 (.t 8) (.t 30)⟩) .nil)) (⟨(some 8), none, .alloc [(i64 0), (i64 0), (i64 0), (str []), (i64 0)]⟩) (.sq (⟨(some 30), none, .call (.c (.func (.func 84) #[] #[])) [(.t 29)]⟩) (.lt (⟨none, none, .st 5 (.t 8) (.t 30)⟩) .nil)))))))))))
 (.seq (.seq (.ops [q 31 (.mv (.t 6)), q 32 (.nck (.t 31)), q 33 (.fld 2 (.t 32)), q 34 (.ld false 1 (.t 33)), q 35 (.mv (.t 34)), qg 36 35 false (.fld 4 (.t 8)), qg 37 35 false (.ld false 1 (.t 36)), qg 38 35 false (.bin .neq (.t 37) (.c (i64 0))), q 39 (.pick (.t 35) (.c (.bool true)) (.t 38)), q 40 (.mv (.t 39)), qg 41 40 false (.mv (.t 7)), qg 42 40 false (.fld 0 (.t 8)), qg 43 40 false (.ld true 4 (.t 42)), ⟨(some 44), (some (40, false)), .call (.c (.func (.func 17) #[] #[])) [(.t 41), (.t 43)]⟩, qg 45 40 false (.mv (.t 0)), qg 46 40 false (.bin .neq (.t 44) (.t 45)), q 47 (.pick (.t 40) (.c (.bool true)) (.t 46))])
 (.cond (.t 47) (.seq (.ops [q 48 (.build [(i64 0), (i64 0), (i64 0), (str []), (i64 0)] [(4, 1, (.c (i64 3)))]), ⟨none, none, .st 5 (.t 4) (.t 48)⟩])
 .ret) .skip))
 (.seq (.seq (.ops [q 49 (.mv (.t 7)), q 50 (.mv (.t 1)), q 51 (.bin .neq (.t 49) (.t 50))])
 (.cond (.t 51) (.seq (.ops [q 52 (.build [(i64 0), (i64 0), (i64 0), (str []), (i64 0)] [(4, 1, (.c (i64 6)))]), ⟨none, none, .st 5 (.t 4) (.t 52)⟩])
 .ret) .skip))
 (.seq (.ops [q 53 (.ld true 5 (.t 8)), ⟨none, none, .st 5 (.t 4) (.t 53)⟩])
 .ret)))))))))
theorem w_spec_RecordRead {args : List Value} {h : H} {Q : Value → H → Prop} (hl : args.length ≤ 54) (hk : wpc Try.prog b_spec_RecordRead (retw [.cell 4 true 5] Q) (argsFr args) h) : AC Try.prog 18 args h Q :=
  AC.of_wpc mixedOrders Try.func18 (by kernel_rfl) (by kernel_rfl : prepF Try.prog Try.f18 = some ⟨54, [.cell 4 true 5], b_spec_RecordRead⟩) hl hk

theorem recI_s {i : List UInt8} {n k : Int} {a1 : Nat} (g1 : getN i 0 = (k, a1, 0)) : recI i n = match stepR (i.drop a1) with | some s => if 0 ≤ k ∧ k ≤ 1000000 then (if k = n then (s, 0) else (step0, 6)) else (step0, 3) | none => (step0, 3) := by
  unfold recI; rw [g1]; simp only [if_true]
  cases stepR (i.drop a1) <;> rfl
theorem recI_none {i : List UInt8} {n k : Int} {a1 : Nat} (g1 : getN i 0 = (k, a1, 0)) (hr : stepR (i.drop a1) = none) : recI i n = (step0, 3) := by rw [recI_s g1, hr]
theorem recI_out {i : List UInt8} {n k : Int} {a1 : Nat} {s : UStep} (g1 : getN i 0 = (k, a1, 0)) (hr : stepR (i.drop a1) = some s) (hk : ¬ (0 ≤ k ∧ k ≤ 1000000)) : recI i n = (step0, 3) := by rw [recI_s g1, hr]; simp only; rw [if_neg hk]
theorem recI_other {i : List UInt8} {n k : Int} {a1 : Nat} {s : UStep} (g1 : getN i 0 = (k, a1, 0)) (hr : stepR (i.drop a1) = some s) (hk : 0 ≤ k ∧ k ≤ 1000000) (hn : ¬ k = n) : recI i n = (step0, 6) := by rw [recI_s g1, hr]; simp only; rw [if_pos hk, if_neg hn]
theorem recI_this {i : List UInt8} {k : Int} {a1 : Nat} {s : UStep} (g1 : getN i 0 = (k, a1, 0)) (hr : stepR (i.drop a1) = some s) (hk : 0 ≤ k ∧ k ≤ 1000000) : recI i k = (s, 0) := by rw [recI_s g1, hr]; simp only; rw [if_pos hk]; simp
theorem recI_bad' {i : List UInt8} {n k : Int} {a1 : Nat} (e1 : numS i 0 false = (k, a1, true)) : recI i n = (step0, 3) := by
  have hne : ¬ (getN i 0).2.2 = 0 := fun h0 => by
    have h9 := numS_ok (getN_eta h0)
    rw [e1] at h9; simp at h9
  unfold recI; rw [if_neg hne]
theorem stepOut_none {t : List UInt8} (ht : t.length ≤ 8000) (hr : stepR t = none) : stepOut t = (step0, 3) := by unfold stepOut; rw [if_neg (by omega), hr]
theorem stepOut_some {t : List UInt8} {s : UStep} (ht : t.length ≤ 8000) (hr : stepR t = some s) : stepOut t = (s, 0) := by unfold stepOut; rw [if_neg (by omega), hr]
/-- What a step that was read behind a number says of the whole. -/
theorem rec_read {i t : List UInt8} {k : Int} {a1 : Nat} {s : UStep} (hu : unsealB t = (i, 0)) (g1 : getN i 0 = (k, a1, 0)) (hr : stepR (i.drop a1) = some s) : s.ok ∧ (0 ≤ k ∧ k ≤ 1000000 → recordBytes k s = t) ∧ (¬ (0 ≤ k ∧ k ≤ 1000000) → ¬ recordBytes k s = t) := by
  have ok1 := getN_ok g1
  have hs2 := stepR_drop (t := i) (a := a1) ok1.2.2.1
  rw [hr] at hs2
  obtain ⟨s', e', c', hS⟩ : ∃ s' e' c', stepI i a1 false = (s', e', c') := ⟨_, _, _, rfl⟩
  rw [hS] at hs2
  split at hs2
  rotate_left
  · cases hs2
  rename_i hcond
  obtain ⟨hc1, hc2, hc3⟩ := hcond
  simp only at hc1 hc2 hc3 hs2
  simp only [Option.some.injEq] at hs2
  subst hs2 hc1 hc2
  have hq := (stepI_iff.1 hS).2.eq
  have hi2 : i = putNum k ++ stepB s := by
    have h1 := ok1.1
    rw [List.drop_zero, hq.1, List.drop_length, List.append_nil] at h1
    exact h1
  have hti := unsealB_ok hu
  refine ⟨hq.2.2.2.1, fun ht1 => ?_, fun ht1 => ?_⟩
  · unfold recordBytes recordB; rw [if_pos ⟨ht1, hc3⟩, ← hi2]; exact hti.1
  · unfold recordBytes; rw [if_neg (fun h => ht1 h.1)]
    intro h; rw [← h] at hti; simp at hti
set_option maxHeartbeats 1000000 in
theorem specRecordRead_pc (h : H) (t : List UInt8) (n : Int) (hn : in64 n) (ht : t.length ≤ 1048576) : PC Try.prog 18 [str t, i64 n] h (.agg (outC (recOut t n)).toArray) := by
  refine PC_of ?_
  unfold recOut
  refine w_spec_RecordRead (by simp) ?_
  unfold b_spec_RecordRead
  simp -implicitDefEqProofs only [go_sem]
  intro b4 hb_b4 n_b4
  simp -implicitDefEqProofs only [go_sem, hb_b4]
  refine (specUnseal_pc _ t (by omega)).use ?_
  by_cases h8 : 8000 < t.length
  · rw [if_pos h8, if_pos h8]
    simp -implicitDefEqProofs only [go_sem, hb_b4]
    intro b5 hb_b5 m0_b5
    obtain ⟨z_b5_b4, y_b5_b4, n_b5⟩ := fne m0_b5
    simp only [H.set_base] at hb_b5
    simp -implicitDefEqProofs only [go_sem, hb_b4, hb_b5, z_b5_b4, y_b5_b4]
    first | with_reducible exact (((Ext.refl _).set' n_b4 _).set' n_b5 _) | ((with_reducible refine ⟨(((Ext.refl _).set' n_b4 _).set' n_b5 _), ?_⟩); first | rfl | (trivial))
  rw [if_neg h8, if_neg h8]
  obtain ⟨i, c, hu⟩ : ∃ i c, unsealB t = (i, c) := ⟨_, _, rfl⟩
  have hi : i.length ≤ 8000 := by have := unsealB_len t; rw [hu] at this; simp only at this; omega
  obtain ⟨k, a1, c1, e1⟩ : ∃ k a1 c1, numS i 0 false = (k, a1, c1) := ⟨_, _, _, rfl⟩
  have l1 := numS_eq e1 (by omega) hi
  have la : a1 ≤ i.length := by
    unfold numS at e1
    split at e1
    · have := getN_le i 0
      simp only [Prod.mk.injEq] at e1
      omega
    · simp only [Prod.mk.injEq] at e1; omega
  unfold recR
  rw [hu]
  simp only
  skip
  simp -implicitDefEqProofs only [go_sem, hb_b4]
  intro b5 hb_b5 m0_b5
  obtain ⟨z_b5_b4, y_b5_b4, n_b5⟩ := fne m0_b5
  simp only [H.set_base] at hb_b5
  simp -implicitDefEqProofs only [go_sem, hb_b4, hb_b5, z_b5_b4, y_b5_b4]
  by_cases hc : c = 0
  rotate_left
  · rw [if_pos hc]
    simp -implicitDefEqProofs only [go_sem, show ¬ ((c : Int) = 0) by omega, hb_b4, hb_b5, z_b5_b4, y_b5_b4]
    first | with_reducible exact (((Ext.refl _).set' n_b4 _).set' n_b5 _) | ((with_reducible refine ⟨(((Ext.refl _).set' n_b4 _).set' n_b5 _), ?_⟩); first | rfl | (trivial))
  subst hc
  rw [if_neg (by simp)]
  simp -implicitDefEqProofs only [go_sem, show ((0 : Nat) : Int) = 0 from rfl, hb_b4, hb_b5, z_b5_b4, y_b5_b4]
  intro b6 hb_b6 m0_b6
  obtain ⟨z_b6_b5, y_b6_b5, m1_b6⟩ := fne m0_b6
  obtain ⟨z_b6_b4, y_b6_b4, n_b6⟩ := fne m1_b6
  simp only [H.set_base] at hb_b6
  simp -implicitDefEqProofs only [go_sem, hb_b4, hb_b5, z_b5_b4, y_b5_b4, hb_b6, z_b6_b5, y_b6_b5, z_b6_b4, y_b6_b4]
  refine AC_of (srnum e1 (by simp only [H.set_base]; assumption) (H.set_get_same _ _ _) hi (by omega)) ?_
  rintro _ _ - ⟨rfl, rfl⟩
  rw [H.set_set]
  skip
  simp -implicitDefEqProofs only [go_sem, show (a1 : Int) ≤ (i.length : Int) by omega, hb_b4, hb_b5, z_b5_b4, y_b5_b4, hb_b6, z_b6_b5, y_b6_b5, z_b6_b4, y_b6_b4, Int.natCast_nonneg, List.take_length]
  have hk64 : in64 k := by
    unfold numS at e1
    split at e1
    · rename_i h0
      have := (getN_ok (getN_eta h0.2)).2.2.2
      simp only [Prod.mk.injEq] at e1
      rw [← e1.1]; exact this
    · simp only [Prod.mk.injEq] at e1; rw [← e1.1]; unfold in64; omega
  have hdl : (i.drop a1).length ≤ 8000 := by rw [List.length_drop]; omega
  have hcs : (c1 = true ∧ recI i n = (step0, 3)) ∨ (c1 = false ∧ stepOut (i.drop a1) = (step0, 3) ∧ recI i n = (step0, 3)) ∨ (∃ s, c1 = false ∧ stepOut (i.drop a1) = (s, 0) ∧ s.ok ∧ ¬ recordBytes k s = t ∧ recI i n = (step0, 3)) ∨
      (∃ s, c1 = false ∧ stepOut (i.drop a1) = (s, 0) ∧ s.ok ∧ recordBytes k s = t ∧ ¬ k = n ∧ recI i n = (step0, 6)) ∨ (∃ s, c1 = false ∧ stepOut (i.drop a1) = (s, 0) ∧ s.ok ∧ recordBytes k s = t ∧ n = k ∧ recI i n = (s, 0)) := by
    cases c1 with
    | true => exact .inl ⟨rfl, recI_bad' e1⟩
    | false =>
      obtain ⟨_, g1⟩ := numS_inv e1
      cases hr : stepR (i.drop a1) with
      | none => exact .inr (.inl ⟨rfl, stepOut_none hdl hr, recI_none g1 hr⟩)
      | some s =>
        obtain ⟨r1, r2, r3⟩ := rec_read hu g1 hr
        by_cases h1 : 0 ≤ k ∧ k ≤ 1000000
        · by_cases h2 : k = n
          · subst h2; exact .inr (.inr (.inr (.inr ⟨s, rfl, stepOut_some hdl hr, r1, r2 h1, rfl, recI_this g1 hr h1⟩)))
          · exact .inr (.inr (.inr (.inl ⟨s, rfl, stepOut_some hdl hr, r1, r2 h1, h2, recI_other g1 hr h1 h2⟩)))
        · exact .inr (.inr (.inl ⟨s, rfl, stepOut_some hdl hr, r1, r3 h1, recI_out g1 hr h1⟩))
  refine ⟨?_, ?_⟩
  · refine (specStepRead_pc _ (i.drop a1) (by rw [List.length_drop]; have := show maxLen = 9223372036854775807 from rfl; omega)).use ?_
    simp -implicitDefEqProofs only [go_sem, hb_b4, hb_b5, z_b5_b4, y_b5_b4, hb_b6, z_b6_b5, y_b6_b5, z_b6_b4, y_b6_b4, Int.natCast_nonneg, List.take_length]
    intro b8 hb_b8 m0_b8
    obtain ⟨z_b8_b6, y_b8_b6, m1_b8⟩ := fne m0_b8
    obtain ⟨z_b8_b5, y_b8_b5, m2_b8⟩ := fne m1_b8
    obtain ⟨z_b8_b4, y_b8_b4, n_b8⟩ := fne m2_b8
    simp only [H.set_base] at hb_b8
    refine ⟨Sub.set (Sub.refl _) m0_b8 _, ?_⟩
    simp -implicitDefEqProofs only [go_sem, hb_b4, hb_b5, z_b5_b4, y_b5_b4, hb_b6, z_b6_b5, y_b6_b5, z_b6_b4, y_b6_b4, Int.natCast_nonneg, List.take_length, hb_b8, z_b8_b6, y_b8_b6, z_b8_b5, y_b8_b5, z_b8_b4, y_b8_b4]
    rcases hcs with ⟨rfl, hR⟩ | ⟨rfl, hD, hR⟩ | ⟨s, rfl, hD, hok, hrb, hR⟩ | ⟨s, rfl, hD, hok, hrb, hkn, hR⟩ | ⟨s, rfl, hD, hok, hrb, hkn, hR⟩
    · rw [hR]
      simp -implicitDefEqProofs only [go_sem, hb_b4, hb_b5, z_b5_b4, y_b5_b4, hb_b6, z_b6_b5, y_b6_b5, z_b6_b4, y_b6_b4, Int.natCast_nonneg, List.take_length, hb_b8, z_b8_b6, y_b8_b6, z_b8_b5, y_b8_b5, z_b8_b4, y_b8_b4]
      first | with_reducible exact (((((Ext.refl _).set' n_b4 _).set' n_b5 _).set' n_b6 _).set' n_b8 _) | ((with_reducible refine ⟨(((((Ext.refl _).set' n_b4 _).set' n_b5 _).set' n_b6 _).set' n_b8 _), ?_⟩); first | rfl | (trivial))
    · rw [hR, hD]
      simp -implicitDefEqProofs only [go_sem, hb_b4, hb_b5, z_b5_b4, y_b5_b4, hb_b6, z_b6_b5, y_b6_b5, z_b6_b4, y_b6_b4, Int.natCast_nonneg, List.take_length, hb_b8, z_b8_b6, y_b8_b6, z_b8_b5, y_b8_b5, z_b8_b4, y_b8_b4]
      first | with_reducible exact (((((Ext.refl _).set' n_b4 _).set' n_b5 _).set' n_b6 _).set' n_b8 _) | ((with_reducible refine ⟨(((((Ext.refl _).set' n_b4 _).set' n_b5 _).set' n_b6 _).set' n_b8 _), ?_⟩); first | rfl | (trivial))
    · rw [hR, hD]
      simp -implicitDefEqProofs only [go_sem, hb_b4, hb_b5, z_b5_b4, y_b5_b4, hb_b6, z_b6_b5, y_b6_b5, z_b6_b4, y_b6_b4, Int.natCast_nonneg, List.take_length, hb_b8, z_b8_b6, y_b8_b6, z_b8_b5, y_b8_b5, z_b8_b4, y_b8_b4]
      refine (specRecordBytes_pc _ k s hk64 hok).use ?_
      simp -implicitDefEqProofs only [go_sem, hrb, hb_b4, hb_b5, z_b5_b4, y_b5_b4, hb_b6, z_b6_b5, y_b6_b5, z_b6_b4, y_b6_b4, Int.natCast_nonneg, List.take_length, hb_b8, z_b8_b6, y_b8_b6, z_b8_b5, y_b8_b5, z_b8_b4, y_b8_b4]
      first | with_reducible exact (((((Ext.refl _).set' n_b4 _).set' n_b5 _).set' n_b6 _).set' n_b8 _) | ((with_reducible refine ⟨(((((Ext.refl _).set' n_b4 _).set' n_b5 _).set' n_b6 _).set' n_b8 _), ?_⟩); first | rfl | (trivial))
    · rw [hR, hD]
      simp -implicitDefEqProofs only [go_sem, hb_b4, hb_b5, z_b5_b4, y_b5_b4, hb_b6, z_b6_b5, y_b6_b5, z_b6_b4, y_b6_b4, Int.natCast_nonneg, List.take_length, hb_b8, z_b8_b6, y_b8_b6, z_b8_b5, y_b8_b5, z_b8_b4, y_b8_b4]
      refine (specRecordBytes_pc _ k s hk64 hok).use ?_
      simp -implicitDefEqProofs only [go_sem, hrb, hkn, hb_b4, hb_b5, z_b5_b4, y_b5_b4, hb_b6, z_b6_b5, y_b6_b5, z_b6_b4, y_b6_b4, Int.natCast_nonneg, List.take_length, hb_b8, z_b8_b6, y_b8_b6, z_b8_b5, y_b8_b5, z_b8_b4, y_b8_b4]
      first | with_reducible exact (((((Ext.refl _).set' n_b4 _).set' n_b5 _).set' n_b6 _).set' n_b8 _) | ((with_reducible refine ⟨(((((Ext.refl _).set' n_b4 _).set' n_b5 _).set' n_b6 _).set' n_b8 _), ?_⟩); first | rfl | (trivial))
    · rw [hR, hD]
      simp -implicitDefEqProofs only [go_sem, hb_b4, hb_b5, z_b5_b4, y_b5_b4, hb_b6, z_b6_b5, y_b6_b5, z_b6_b4, y_b6_b4, Int.natCast_nonneg, List.take_length, hb_b8, z_b8_b6, y_b8_b6, z_b8_b5, y_b8_b5, z_b8_b4, y_b8_b4]
      refine (specRecordBytes_pc _ k s hk64 hok).use ?_
      subst hkn
      simp -implicitDefEqProofs only [go_sem, hrb, hb_b4, hb_b5, z_b5_b4, y_b5_b4, hb_b6, z_b6_b5, y_b6_b5, z_b6_b4, y_b6_b4, Int.natCast_nonneg, List.take_length, hb_b8, z_b8_b6, y_b8_b6, z_b8_b5, y_b8_b5, z_b8_b4, y_b8_b4]
      first | with_reducible exact (((((Ext.refl _).set' n_b4 _).set' n_b5 _).set' n_b6 _).set' n_b8 _) | ((with_reducible refine ⟨(((((Ext.refl _).set' n_b4 _).set' n_b5 _).set' n_b6 _).set' n_b8 _), ?_⟩); first | rfl | (trivial))
  · skip
    intro b8 hb_b8 m0_b8
    obtain ⟨z_b8_b6, y_b8_b6, m1_b8⟩ := fne m0_b8
    obtain ⟨z_b8_b5, y_b8_b5, m2_b8⟩ := fne m1_b8
    obtain ⟨z_b8_b4, y_b8_b4, n_b8⟩ := fne m2_b8
    simp only [H.set_base] at hb_b8
    refine ⟨Sub.set (Sub.refl _) m0_b8 _, ?_⟩
    simp -implicitDefEqProofs only [go_sem, hb_b4, hb_b5, z_b5_b4, y_b5_b4, hb_b6, z_b6_b5, y_b6_b5, z_b6_b4, y_b6_b4, Int.natCast_nonneg, List.take_length, hb_b8, z_b8_b6, y_b8_b6, z_b8_b5, y_b8_b5, z_b8_b4, y_b8_b4]
    refine (specStepRead_pc _ (i.drop a1) (by rw [List.length_drop]; have := show maxLen = 9223372036854775807 from rfl; omega)).use ?_
    refine ⟨Sub.set (Sub.refl _) m0_b8 _, ?_⟩
    simp -implicitDefEqProofs only [go_sem, hb_b4, hb_b5, z_b5_b4, y_b5_b4, hb_b6, z_b6_b5, y_b6_b5, z_b6_b4, y_b6_b4, Int.natCast_nonneg, List.take_length, hb_b8, z_b8_b6, y_b8_b6, z_b8_b5, y_b8_b5, z_b8_b4, y_b8_b4]
    rcases hcs with ⟨rfl, hR⟩ | ⟨rfl, hD, hR⟩ | ⟨s, rfl, hD, hok, hrb, hR⟩ | ⟨s, rfl, hD, hok, hrb, hkn, hR⟩ | ⟨s, rfl, hD, hok, hrb, hkn, hR⟩
    · rw [hR]
      simp -implicitDefEqProofs only [go_sem, hb_b4, hb_b5, z_b5_b4, y_b5_b4, hb_b6, z_b6_b5, y_b6_b5, z_b6_b4, y_b6_b4, Int.natCast_nonneg, List.take_length, hb_b8, z_b8_b6, y_b8_b6, z_b8_b5, y_b8_b5, z_b8_b4, y_b8_b4]
      first | with_reducible exact (((((Ext.refl _).set' n_b4 _).set' n_b5 _).set' n_b6 _).set' n_b8 _) | ((with_reducible refine ⟨(((((Ext.refl _).set' n_b4 _).set' n_b5 _).set' n_b6 _).set' n_b8 _), ?_⟩); first | rfl | (trivial))
    · rw [hR, hD]
      simp -implicitDefEqProofs only [go_sem, hb_b4, hb_b5, z_b5_b4, y_b5_b4, hb_b6, z_b6_b5, y_b6_b5, z_b6_b4, y_b6_b4, Int.natCast_nonneg, List.take_length, hb_b8, z_b8_b6, y_b8_b6, z_b8_b5, y_b8_b5, z_b8_b4, y_b8_b4]
      first | with_reducible exact (((((Ext.refl _).set' n_b4 _).set' n_b5 _).set' n_b6 _).set' n_b8 _) | ((with_reducible refine ⟨(((((Ext.refl _).set' n_b4 _).set' n_b5 _).set' n_b6 _).set' n_b8 _), ?_⟩); first | rfl | (trivial))
    · rw [hR, hD]
      simp -implicitDefEqProofs only [go_sem, hb_b4, hb_b5, z_b5_b4, y_b5_b4, hb_b6, z_b6_b5, y_b6_b5, z_b6_b4, y_b6_b4, Int.natCast_nonneg, List.take_length, hb_b8, z_b8_b6, y_b8_b6, z_b8_b5, y_b8_b5, z_b8_b4, y_b8_b4]
      refine (specRecordBytes_pc _ k s hk64 hok).use ?_
      simp -implicitDefEqProofs only [go_sem, hrb, hb_b4, hb_b5, z_b5_b4, y_b5_b4, hb_b6, z_b6_b5, y_b6_b5, z_b6_b4, y_b6_b4, Int.natCast_nonneg, List.take_length, hb_b8, z_b8_b6, y_b8_b6, z_b8_b5, y_b8_b5, z_b8_b4, y_b8_b4]
      first | with_reducible exact (((((Ext.refl _).set' n_b4 _).set' n_b5 _).set' n_b6 _).set' n_b8 _) | ((with_reducible refine ⟨(((((Ext.refl _).set' n_b4 _).set' n_b5 _).set' n_b6 _).set' n_b8 _), ?_⟩); first | rfl | (trivial))
    · rw [hR, hD]
      simp -implicitDefEqProofs only [go_sem, hb_b4, hb_b5, z_b5_b4, y_b5_b4, hb_b6, z_b6_b5, y_b6_b5, z_b6_b4, y_b6_b4, Int.natCast_nonneg, List.take_length, hb_b8, z_b8_b6, y_b8_b6, z_b8_b5, y_b8_b5, z_b8_b4, y_b8_b4]
      refine (specRecordBytes_pc _ k s hk64 hok).use ?_
      simp -implicitDefEqProofs only [go_sem, hrb, hkn, hb_b4, hb_b5, z_b5_b4, y_b5_b4, hb_b6, z_b6_b5, y_b6_b5, z_b6_b4, y_b6_b4, Int.natCast_nonneg, List.take_length, hb_b8, z_b8_b6, y_b8_b6, z_b8_b5, y_b8_b5, z_b8_b4, y_b8_b4]
      first | with_reducible exact (((((Ext.refl _).set' n_b4 _).set' n_b5 _).set' n_b6 _).set' n_b8 _) | ((with_reducible refine ⟨(((((Ext.refl _).set' n_b4 _).set' n_b5 _).set' n_b6 _).set' n_b8 _), ?_⟩); first | rfl | (trivial))
    · rw [hR, hD]
      simp -implicitDefEqProofs only [go_sem, hb_b4, hb_b5, z_b5_b4, y_b5_b4, hb_b6, z_b6_b5, y_b6_b5, z_b6_b4, y_b6_b4, Int.natCast_nonneg, List.take_length, hb_b8, z_b8_b6, y_b8_b6, z_b8_b5, y_b8_b5, z_b8_b4, y_b8_b4]
      refine (specRecordBytes_pc _ k s hk64 hok).use ?_
      subst hkn
      simp -implicitDefEqProofs only [go_sem, hrb, hb_b4, hb_b5, z_b5_b4, y_b5_b4, hb_b6, z_b6_b5, y_b6_b5, z_b6_b4, y_b6_b4, Int.natCast_nonneg, List.take_length, hb_b8, z_b8_b6, y_b8_b6, z_b8_b5, y_b8_b5, z_b8_b4, y_b8_b4]
      first | with_reducible exact (((((Ext.refl _).set' n_b4 _).set' n_b5 _).set' n_b6 _).set' n_b8 _) | ((with_reducible refine ⟨(((((Ext.refl _).set' n_b4 _).set' n_b5 _).set' n_b6 _).set' n_b8 _), ?_⟩); first | rfl | (trivial))
end Go.Proofs.Ythheclnjaemjnaa
