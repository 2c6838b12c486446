/- A helper of this seat's claims (contracts of the functions): what it shows is shown for every input that its statements name, on no other condition. -/
import Derived.Test.YthjbhdmjfakfaaaGreatDoorC06r
set_option linter.unusedVariables false
set_option linter.unusedSimpArgs false
set_option maxRecDepth 100000
namespace Go.Proofs.YthjbhdmjfakfaaaGreatDoor
open Go.KH

/-! ## Seals opened, notes read -/
def unsealB (t : List UInt8) : List UInt8 × Nat := if t.length < 4 then ([], 4) else if sealB (t.take (t.length - 4)) = t then (t.take (t.length - 4), 0) else ([], 5)
theorem four_len (x : BitVec 32) : (four x).length = 4 := rfl
theorem sealB_len (t : List UInt8) : (sealB t).length = t.length + 4 := by unfold sealB; rw [List.length_append, four_len]
theorem sealB_inj {a b : List UInt8} (h : sealB a = sealB b) : a = b := by
  have hl := congrArg List.length h
  rw [sealB_len, sealB_len] at hl
  unfold sealB at h
  exact (List.append_inj h (by omega)).1
theorem unsealB_ok {t i : List UInt8} (h : unsealB t = (i, 0)) : sealB i = t ∧ i.length + 4 = t.length := by
  unfold unsealB at h
  split at h
  · simp at h
  · split at h
    · rename_i h4 hs; simp only [Prod.mk.injEq, and_true] at h; rw [← h]; exact ⟨hs, by rw [List.length_take]; omega⟩
    · simp at h
theorem unsealB_len (t : List UInt8) : (unsealB t).1.length ≤ t.length := by
  unfold unsealB
  split
  · simp
  · split
    · simp only [List.length_take]; omega
    · simp
theorem unsealB_bad {t : List UInt8} (h : (unsealB t).2 ≠ 0) : (unsealB t).1 = [] := by
  unfold unsealB at h ⊢
  split
  · rfl
  · split
    · rename_i h4 hs; simp [h4, hs] at h
    · rfl
theorem four_iff (t : List UInt8) (h : ¬ t.length < 4) : four (crc (t.take (t.length - 4))) = t.drop (t.length - 4) ↔ sealB (t.take (t.length - 4)) = t := by
  unfold sealB
  constructor
  · intro h1; rw [h1, List.take_append_drop]
  · intro h1
    have h2 : t.take (t.length - 4) ++ four (crc (t.take (t.length - 4))) = t.take (t.length - 4) ++ t.drop (t.length - 4) := by rw [h1, List.take_append_drop]
    exact List.append_cancel_left h2
theorem subn (h h' : H) : KH.Sub h.none h' = True := propext ⟨fun _ => trivial, fun _ => ⟨fun b ob hb => (by cases hb), fun b l hb => (by cases hb)⟩⟩
/-- impl.unseal -/
def b_impl_unseal : C := (.seq (.ops [q 2 (.mv (.c (str []))), q 3 (.mv (.c (i64 0)))])
 (.seq (.seq (.ops [q 5 (.mv (.t 0)), q 6 (.slen (.t 5)), q 7 (.bin .lss (.t 6) (.c (i64 4)))])
 (.cond (.t 7) (.seq (.ops [q 2 (.mv (.c (str []))), q 3 (.mv (.c (i64 4)))])
 .ret) .skip))
 (.seq (.ops [q 8 (.mv (.t 0)), q 9 (.mv (.t 0)), q 10 (.slen (.t 9)), q 11 (.bin .sub (.t 10) (.c (i64 4))), q 12 (.ssl (.t 8) none (some (.t 11))), q 4 (.mv (.t 12))])
 (.seq (.seq (.ops [q 13 (.mv (.t 4)), ⟨(some 14), none, .call (.c (.func (.func 98) #[] #[])) [(.t 13)]⟩, q 15 (.mv (.t 0)), q 16 (.bin .neq (.t 14) (.t 15))])
 (.cond (.t 16) (.seq (.ops [q 2 (.mv (.c (str []))), q 3 (.mv (.c (i64 5)))])
 .ret) .skip))
 (.seq (.ops [q 17 (.mv (.t 4)), q 2 (.mv (.t 17)), q 3 (.mv (.c (i64 0)))])
 .ret)))))
theorem w_impl_unseal {args : List Value} {h : H} {Q : Value → H → Prop} (hl : args.length ≤ 18) (hk : wpc Tryz.prog b_impl_unseal (retw [.tmp 2, .tmp 3] Q) (argsFr args) h) : AC Tryz.prog 106 args h Q :=
  AC.of_wpc mixedOrders Tryz.func106 (by kernel_rfl) (by kernel_rfl : prepF Tryz.prog Tryz.f106 = some ⟨18, [.tmp 2, .tmp 3], b_impl_unseal⟩) hl hk

theorem unseal_pc (h : H) (t : List UInt8) (ht : t.length ≤ 1099511627776) : PC Tryz.prog 106 [str t] h (.tuple #[str (unsealB t).1, i64 (unsealB t).2]) := by
  unfold unsealB
  refine w_impl_unseal (by simp) ?_
  unfold b_impl_unseal
  simp -implicitDefEqProofs only [go_sem]
  by_cases h4 : t.length < 4
  · simp -implicitDefEqProofs only [go_sem, show (t.length : Int) < 4 by omega, h4]
    rfl
  · have e : ((t.length : Int) - 4).toNat = t.length - 4 := by omega
    simp -implicitDefEqProofs only [go_sem, show ¬ ((t.length : Int) < 4) by omega, wrap_i64 (show -(9223372036854775808 : Int) ≤ ((t.length : Int) - 4) by omega) (show ((t.length : Int) - 4) < 9223372036854775808 by omega), show (0 : Int) ≤ (t.length : Int) - 4 by omega, show (t.length : Int) - 4 ≤ (t.length : Int) by omega, e]
    refine (seal_pc _ _ (by rw [List.length_take]; omega)).use ?_
    by_cases hs : sealB (t.take (t.length - 4)) = t
    · simp -implicitDefEqProofs only [go_sem, hs, h4]
      rfl
    · simp -implicitDefEqProofs only [go_sem, hs, h4]
      rfl
/-- spec.Unseal -/
def b_spec_Unseal : C := (.seq (.ops [⟨(some 2), none, .alloc [(str []), (i64 0), (i64 0)]⟩])
 (.seq (.seq (.ops [q 4 (.mv (.t 0)), q 5 (.slen (.t 4)), q 6 (.bin .gtr (.t 5) (.c (i64 8000)))])
 (.cond (.t 6) (.seq (.ops [q 7 (.build [(str []), (i64 0), (i64 0)] [(2, 1, (.c (i64 2)))]), ⟨none, none, .st 3 (.t 2) (.t 7)⟩])
 .ret) .skip))
 (.seq (.seq (.ops [q 8 (.mv (.t 0)), q 9 (.slen (.t 8)), q 10 (.bin .lss (.t 9) (.c (i64 4)))])
 (.cond (.t 10) (.seq (.ops [q 11 (.build [(str []), (i64 0), (i64 0)] [(2, 1, (.c (i64 4)))]), ⟨none, none, .st 3 (.t 2) (.t 11)⟩])
 .ret) .skip))
 (.seq (.ops [q 12 (.mv (.t 0)), q 13 (.mv (.t 0)), q 14 (.slen (.t 13)), q 15 (.bin .sub (.t 14) (.c (i64 4))), q 16 (.ssl (.t 12) none (some (.t 15))), q 3 (.mv (.t 16))])
 (.seq (.seq (.dops false (.tk (q 17 (.mv (.t 3))) (.tk (q 20 (.mv (.t 0))) (.tk (q 21 (.mv (.t 0))) (.tk (q 22 (.slen (.t 21))) (.tk (q 23 (.bin .sub (.t 22) (.c (i64 4)))) (.tk (q 24 (.ssl (.t 20) (some (.t 23)) none)) (.sq (⟨(some 18), none, .call (.c (.func (.func 105) #[] #[])) [(.c (i64 0)), (.t 17)]⟩) (.sq (⟨(some 19), none, .call (.c (.func (.func 104) #[] #[])) [(.t 18)]⟩) (.tk (q 25 (.bin .neq (.t 19) (.t 24))) .nil))))))))))
 (.cond (.t 25) (.seq (.ops [q 26 (.build [(str []), (i64 0), (i64 0)] [(2, 1, (.c (i64 5)))]), ⟨none, none, .st 3 (.t 2) (.t 26)⟩])
 .ret) .skip))
 (.seq (.ops [q 27 (.mv (.t 3)), q 28 (.build [(str []), (i64 0), (i64 0)] [(0, 1, (.t 27))]), ⟨none, none, .st 3 (.t 2) (.t 28)⟩])
 .ret))))))
theorem w_spec_Unseal {args : List Value} {h : H} {Q : Value → H → Prop} (hl : args.length ≤ 29) (hk : wpc Tryz.prog b_spec_Unseal (retw [.cell 2 true 3] Q) (argsFr args) h) : AC Tryz.prog 46 args h Q :=
  AC.of_wpc mixedOrders Tryz.func46 (by kernel_rfl) (by kernel_rfl : prepF Tryz.prog Tryz.f46 = some ⟨29, [.cell 2 true 3], b_spec_Unseal⟩) hl hk

theorem specUnseal_pc (h : H) (t : List UInt8) (ht : t.length ≤ 1099511627776) : PC Tryz.prog 46 [str t] h (.agg (if 8000 < t.length then #[str [], i64 0, i64 2] else #[str (unsealB t).1, i64 0, i64 (unsealB t).2])) := by
  refine PC_of ?_
  unfold unsealB
  refine w_spec_Unseal (by simp) ?_
  unfold b_spec_Unseal
  simp -implicitDefEqProofs only [go_sem]
  intro b2 hb_b2 n_b2
  by_cases h8 : 8000 < t.length
  · simp -implicitDefEqProofs only [go_sem, show (8000 : Int) < (t.length : Int) by omega, h8, hb_b2]
    exact ((Ext.refl _).set' n_b2 _)
  by_cases h4 : t.length < 4
  · simp -implicitDefEqProofs only [go_sem, show ¬ ((8000 : Int) < (t.length : Int)) by omega, show (t.length : Int) < 4 by omega, h4, h8, hb_b2]
    exact ⟨((Ext.refl _).set' n_b2 _), rfl⟩
  · have e : ((t.length : Int) - 4).toNat = t.length - 4 := by omega
    have hc := l01Crc_pc (h.set b2 ⟨[str [], i64 0, i64 0], 3⟩) 0#32 (t.take (t.length - 4)) (by rw [List.length_take]; omega)
    have hf := four_iff t h4
    simp -implicitDefEqProofs only [go_sem, show ¬ ((8000 : Int) < (t.length : Int)) by omega, show ¬ ((t.length : Int) < 4) by omega, wrap_i64 (show -(9223372036854775808 : Int) ≤ ((t.length : Int) - 4) by omega) (show ((t.length : Int) - 4) < 9223372036854775808 by omega), show (0 : Int) ≤ (t.length : Int) - 4 by omega, show (t.length : Int) - 4 ≤ (t.length : Int) by omega, e, Int.le_refl, Int.natCast_nonneg, List.take_length, hb_b2]
    refine hc.use ?_
    simp -implicitDefEqProofs only [go_sem, subn, hb_b2]
    refine (l01Four_pc _ _).use ?_
    by_cases hs : sealB (t.take (t.length - 4)) = t
    · have h1 : four (~~~ crcL (~~~ 0#32) (t.take (t.length - 4))) = t.drop (t.length - 4) := hf.2 hs
      simp -implicitDefEqProofs only [go_sem, hs, h4, h8, h1, subn, hb_b2]
      exact ⟨((Ext.refl _).set' n_b2 _), rfl⟩
    · have h1 : ¬ four (~~~ crcL (~~~ 0#32) (t.take (t.length - 4))) = t.drop (t.length - 4) := fun h => hs (hf.1 h)
      simp -implicitDefEqProofs only [go_sem, hs, h4, h8, h1, subn, hb_b2]
      exact ⟨((Ext.refl _).set' n_b2 _), rfl⟩
/-- Two numbers and a text that read well. -/
def ReadsN (t : List UInt8) (k m : Int) (x : List UInt8) (e : Nat) : Prop := ∃ a1 a2, getN t 0 = (k, a1, 0) ∧ getN t a1 = (m, a2, 0) ∧ getT t a2 = (x, e, 0)
theorem ReadsN.eq {t x : List UInt8} {k m : Int} {e : Nat} (r : ReadsN t k m x e) : t = putNum k ++ putNum m ++ putText x ++ t.drop e ∧ 0 < e ∧ e ≤ t.length ∧ in64 k ∧ in64 m ∧ x.length ≤ 8000 := by
  obtain ⟨a1, a2, g1, g2, g3⟩ := r
  obtain ⟨k1, k2, k3, k4⟩ := getN_ok g1
  obtain ⟨d1, d2, d3, d4⟩ := getN_ok g2
  obtain ⟨x1, x2, x3, x4⟩ := getT_ok g3
  refine ⟨?_, by omega, x3, k4, d4, x4⟩
  rw [List.drop_zero] at k1
  rw [d1, x1] at k1
  simpa only [List.append_assoc] using k1
/-- What a note says. -/
def noteR (t : List UInt8) (n : Int) : Option (Int × List UInt8) :=
  if (unsealB t).2 = 0 then
    let i := (unsealB t).1; let k := numI i 0 false; let m := numI i k.2.1 k.2.2; let x := textI i m.2.1 m.2.2
    if x.2.2 = false ∧ x.2.1 = i.length ∧ k.1 = n ∧ (0 ≤ n ∧ n ≤ 1000000) ∧ (0 ≤ m.1 ∧ m.1 ≤ 39) ∧ x.1.length = 8 then some (m.1, x.1) else none
  else none
abbrev actC (o : Option (Int × List UInt8)) : List Value := match o with | some p => [.bool false, i64 p.1, str p.2] | none => [.bool true, i64 0, str []]
/-- impl.noteRead -/
def b_impl_noteRead : C := (.seq (.ops [⟨(some 4), none, .alloc [(.bool false), (i64 0), (str [])]⟩])
 (.seq (.ops [q 12 (.mv (.t 0)), ⟨(some 13), none, .call (.c (.func (.func 106) #[] #[])) [(.t 12)]⟩, q 11 (.mv (.t 13)), q 14 (.ext 0 (.t 11)), q 15 (.ext 1 (.t 11)), q 5 (.mv (.t 14)), q 6 (.mv (.t 15))])
 (.seq (.ops [q 16 (.mv (.t 5)), q 17 (.build [(str []), (i64 0), (.bool false)] [(0, 1, (.t 16))]), ⟨(some 18), none, .box (.t 17)⟩, q 7 (.mv (.t 18))])
 (.seq (.ops [q 19 (.mv (.t 7)), ⟨(some 20), none, .call (.c (.func (.func 107) #[] #[])) [(.t 19)]⟩, q 21 (.mv (.t 7)), ⟨(some 22), none, .call (.c (.func (.func 107) #[] #[])) [(.t 21)]⟩, q 23 (.mv (.t 7)), ⟨(some 24), none, .call (.c (.func (.func 108) #[] #[])) [(.t 23)]⟩, q 8 (.mv (.t 20)), q 9 (.mv (.t 22)), q 10 (.mv (.t 24))])
 (.seq (.seq (.ops [q 25 (.mv (.t 6)), q 26 (.bin .neq (.t 25) (.c (i64 0))), q 27 (.mv (.t 26)), qg 28 27 false (.mv (.t 7)), qg 29 27 false (.nck (.t 28)), qg 30 27 false (.fld 2 (.t 29)), qg 31 27 false (.ld false 1 (.t 30)), q 32 (.pick (.t 27) (.c (.bool true)) (.t 31)), q 33 (.mv (.t 32)), qg 34 33 false (.mv (.t 7)), qg 35 33 false (.nck (.t 34)), qg 36 33 false (.fld 1 (.t 35)), qg 37 33 false (.ld false 1 (.t 36)), qg 38 33 false (.mv (.t 5)), qg 39 33 false (.slen (.t 38)), qg 40 33 false (.bin .neq (.t 37) (.t 39)), q 41 (.pick (.t 33) (.c (.bool true)) (.t 40)), q 42 (.mv (.t 41)), qg 43 42 false (.mv (.t 8)), qg 44 42 false (.mv (.t 1)), qg 45 42 false (.bin .neq (.t 43) (.t 44)), q 46 (.pick (.t 42) (.c (.bool true)) (.t 45)), q 47 (.mv (.t 46)), qg 48 47 false (.mv (.t 1)), ⟨(some 49), (some (47, false)), .call (.c (.func (.func 141) #[] #[])) [(.t 48)]⟩, qg 50 47 false (.un .not (.t 49)), q 51 (.pick (.t 47) (.c (.bool true)) (.t 50)), q 52 (.mv (.t 51)), qg 53 52 false (.mv (.t 9)), ⟨(some 54), (some (52, false)), .call (.c (.func (.func 140) #[] #[])) [(.t 53), (.c (i64 0)), (.c (i64 39))]⟩, qg 55 52 false (.un .not (.t 54)), q 56 (.pick (.t 52) (.c (.bool true)) (.t 55)), q 57 (.mv (.t 56)), qg 58 57 false (.mv (.t 10)), qg 59 57 false (.slen (.t 58)), qg 60 57 false (.bin .neq (.t 59) (.c (i64 8))), q 61 (.pick (.t 57) (.c (.bool true)) (.t 60))])
 (.cond (.t 61) (.seq (.ops [q 62 (.build [(.bool false), (i64 0), (str [])] [(0, 1, (.c (.bool true)))]), ⟨none, none, .st 3 (.t 4) (.t 62)⟩])
 .ret) .skip))
 (.seq (.ops [q 63 (.mv (.t 9)), q 64 (.mv (.t 10)), q 65 (.build [(.bool false), (i64 0), (str [])] [(1, 1, (.t 63)), (2, 1, (.t 64))]), ⟨none, none, .st 3 (.t 4) (.t 65)⟩])
 .ret))))))
theorem w_impl_noteRead {args : List Value} {h : H} {Q : Value → H → Prop} (hl : args.length ≤ 66) (hk : wpc Tryz.prog b_impl_noteRead (retw [.cell 4 true 3] Q) (argsFr args) h) : AC Tryz.prog 165 args h Q :=
  AC.of_wpc mixedOrders Tryz.func165 (by kernel_rfl) (by kernel_rfl : prepF Tryz.prog Tryz.f165 = some ⟨66, [.cell 4 true 3], b_impl_noteRead⟩) hl hk

theorem noteR_pc (h : H) (t : List UInt8) (n : Int) (ht : t.length ≤ 8000) : PC Tryz.prog 165 [str t, i64 n] h (.agg (actC (noteR t n)).toArray) := by
  obtain ⟨i, c, hu⟩ : ∃ i c, unsealB t = (i, c) := ⟨_, _, rfl⟩
  have hi : i.length ≤ 8000 := by have := unsealB_len t; rw [hu] at this; simp only at this; omega
  obtain ⟨k, a1, c1, e1⟩ : ∃ k a1 c1, numI i 0 false = (k, a1, c1) := ⟨_, _, _, rfl⟩
  obtain ⟨m, a2, c2, e2⟩ : ∃ k a2 c2, numI i a1 c1 = (k, a2, c2) := ⟨_, _, _, rfl⟩
  obtain ⟨x, a3, c3, e3⟩ : ∃ k a3 c3, textI i a2 c2 = (k, a3, c3) := ⟨_, _, _, rfl⟩
  have l1 := numI_eq e1 (by omega) hi
  have l2 := numI_eq e2 l1 hi
  unfold noteR
  simp only [hu, e1, e2, e3]
  refine PC_of ?_
  refine w_impl_noteRead (by simp) ?_
  unfold b_impl_noteRead
  simp -implicitDefEqProofs only [go_sem]
  intro b4 hb_b4 n_b4
  simp -implicitDefEqProofs only [go_sem, hb_b4]
  refine (unseal_pc _ t (by omega)).use ?_
  rw [hu]
  simp -implicitDefEqProofs only [go_sem, hb_b4]
  intro b7 hb_b7 m0_b7
  obtain ⟨z_b7_b4, y_b7_b4, n_b7⟩ := fne m0_b7
  simp only [H.set_base] at hb_b7
  simp -implicitDefEqProofs only [go_sem, hb_b4, hb_b7, z_b7_b4, y_b7_b4]
  refine AC_of (rnum e1 (by simp only [H.set_base]; assumption) (H.set_get_same _ _ _) (by omega) (by omega)) ?_
  rintro _ _ - ⟨rfl, rfl⟩
  rw [H.set_set]
  simp -implicitDefEqProofs only [go_sem, hb_b4, hb_b7, z_b7_b4, y_b7_b4]
  refine AC_of (rnum e2 (by simp only [H.set_base]; assumption) (H.set_get_same _ _ _) (by omega) (by omega)) ?_
  rintro _ _ - ⟨rfl, rfl⟩
  rw [H.set_set]
  simp -implicitDefEqProofs only [go_sem, hb_b4, hb_b7, z_b7_b4, y_b7_b4]
  refine AC_of (rword e3 (by simp only [H.set_base]; assumption) (H.set_get_same _ _ _) (by omega) (by omega)) ?_
  rintro _ _ - ⟨rfl, rfl⟩
  rw [H.set_set]
  by_cases hc : c = 0
  rotate_left
  · simp -implicitDefEqProofs only [go_sem, show ¬ ((c : Int) = 0) by omega, hb_b4, hb_b7, z_b7_b4, y_b7_b4]
    exact ⟨(((Ext.refl _).set' n_b4 _).set' n_b7 _), by rw [if_neg hc]⟩
  subst hc
  cases c3 with
  | true =>
    simp -implicitDefEqProofs only [go_sem, show ((0 : Nat) : Int) = 0 from rfl, hb_b4, hb_b7, z_b7_b4, y_b7_b4]
    first | exact (((Ext.refl _).set' n_b4 _).set' n_b7 _) | exact ⟨(((Ext.refl _).set' n_b4 _).set' n_b7 _), by first | rfl | (rw [if_neg (by simp_all)]; done) | (rw [if_neg (by simp_all; done)]; rfl) | (simp_all; done)⟩
  | false =>
    by_cases h3 : a3 = i.length
    rotate_left
    · simp -implicitDefEqProofs only [go_sem, show ((0 : Nat) : Int) = 0 from rfl, show ¬ ((a3 : Int) = (i.length : Int)) by omega, hb_b4, hb_b7, z_b7_b4, y_b7_b4]
      first | exact (((Ext.refl _).set' n_b4 _).set' n_b7 _) | exact ⟨(((Ext.refl _).set' n_b4 _).set' n_b7 _), by first | rfl | (rw [if_neg (by simp_all)]; done) | (rw [if_neg (by simp_all; done)]; rfl) | (simp_all; done)⟩
    subst h3
    by_cases h4 : k = n
    rotate_left
    · simp -implicitDefEqProofs only [go_sem, show ((0 : Nat) : Int) = 0 from rfl, h4, hb_b4, hb_b7, z_b7_b4, y_b7_b4]
      first | exact (((Ext.refl _).set' n_b4 _).set' n_b7 _) | exact ⟨(((Ext.refl _).set' n_b4 _).set' n_b7 _), by first | rfl | (rw [if_neg (by simp_all)]; done) | (rw [if_neg (by simp_all; done)]; rfl) | (simp_all; done)⟩
    subst h4
    simp -implicitDefEqProofs only [go_sem, show ((0 : Nat) : Int) = 0 from rfl, hb_b4, hb_b7, z_b7_b4, y_b7_b4]
    refine (isTime_pc _ _).use ?_
    simp -implicitDefEqProofs only [go_sem, hb_b4, hb_b7, z_b7_b4, y_b7_b4]
    refine Br.of (fun h5 => ?_) (fun h5 => ?_)
    rotate_left
    · simp -implicitDefEqProofs only [go_sem, h5, hb_b4, hb_b7, z_b7_b4, y_b7_b4]
      first | exact (((Ext.refl _).set' n_b4 _).set' n_b7 _) | exact ⟨(((Ext.refl _).set' n_b4 _).set' n_b7 _), by first | rfl | (rw [if_neg (by simp_all)]; done) | (rw [if_neg (by simp_all; done)]; rfl) | (simp_all; done)⟩
    simp -implicitDefEqProofs only [go_sem, h5, hb_b4, hb_b7, z_b7_b4, y_b7_b4]
    refine (within_pc _ _ _ _).use ?_
    simp -implicitDefEqProofs only [go_sem, h5, hb_b4, hb_b7, z_b7_b4, y_b7_b4]
    refine Br.of (fun h6 => ?_) (fun h6 => ?_)
    rotate_left
    · simp -implicitDefEqProofs only [go_sem, h6, hb_b4, hb_b7, z_b7_b4, y_b7_b4]
      first | exact (((Ext.refl _).set' n_b4 _).set' n_b7 _) | exact ⟨(((Ext.refl _).set' n_b4 _).set' n_b7 _), by first | rfl | (rw [if_neg (by simp_all)]; done) | (rw [if_neg (by simp_all; done)]; rfl) | (simp_all; done)⟩
    simp -implicitDefEqProofs only [go_sem, h6, hb_b4, hb_b7, z_b7_b4, y_b7_b4]
    by_cases h7 : x.length = 8
    · simp -implicitDefEqProofs only [go_sem, show (x.length : Int) = 8 by omega, hb_b4, hb_b7, z_b7_b4, y_b7_b4]
      first | exact (((Ext.refl _).set' n_b4 _).set' n_b7 _) | exact ⟨(((Ext.refl _).set' n_b4 _).set' n_b7 _), by first | rfl | (rw [if_neg (by simp_all)]; done) | (rw [if_neg (by simp_all; done)]; rfl) | (simp_all; done)⟩
    · simp -implicitDefEqProofs only [go_sem, show ¬ ((x.length : Int) = 8) by omega, hb_b4, hb_b7, z_b7_b4, y_b7_b4]
      first | exact (((Ext.refl _).set' n_b4 _).set' n_b7 _) | exact ⟨(((Ext.refl _).set' n_b4 _).set' n_b7 _), by first | rfl | (rw [if_neg (by simp_all)]; done) | (rw [if_neg (by simp_all; done)]; rfl) | (simp_all; done)⟩
def noteOut (t : List UInt8) (n : Int) : Option (Int × List UInt8) := if 8000 < t.length then none else noteR t n
theorem rnI_of {i x : List UInt8} {k m : Int} {a1 a2 e : Nat} {c1 c2 : Bool} (e1 : numI i 0 false = (k, a1, c1)) (e2 : numI i a1 c1 = (m, a2, c2)) (e3 : textI i a2 c2 = (x, e, false)) : ReadsN i k m x e := by
  obtain ⟨rfl, g3⟩ := textI_inv e3
  obtain ⟨rfl, g2⟩ := numI_inv e2
  obtain ⟨_, g1⟩ := numI_inv e1
  exact ⟨a1, a2, g1, g2, g3⟩
theorem rnS_of {i x : List UInt8} {k m : Int} {a1 a2 e : Nat} {c1 c2 : Bool} (e1 : numS i 0 false = (k, a1, c1)) (e2 : numS i a1 c1 = (m, a2, c2)) (e3 : textS i a2 c2 = (x, e, false)) : ReadsN i k m x e := by
  obtain ⟨rfl, g3⟩ := textS_inv e3
  obtain ⟨rfl, g2⟩ := numS_inv e2
  obtain ⟨_, g1⟩ := numS_inv e1
  exact ⟨a1, a2, g1, g2, g3⟩
theorem noteR_ok {t i x : List UInt8} {k m n : Int} {e : Nat} (hu : unsealB t = (i, 0)) (r : ReadsN i k m x e) : noteR t n = if e = i.length ∧ k = n ∧ (0 ≤ n ∧ n ≤ 1000000) ∧ (0 ≤ m ∧ m ≤ 39) ∧ x.length = 8 then some (m, x) else none := by
  obtain ⟨a1, a2, g1, g2, g3⟩ := r
  unfold noteR
  simp only [hu, if_true, numI_ok _ g1, numI_ok _ g2, textI_ok _ g3, true_and]
theorem noteR_no {t i : List UInt8} {c : Nat} {n : Int} (hu : unsealB t = (i, c)) (hr : ¬ ∃ k m x e, ReadsN i k m x e) : noteR t n = none := by
  obtain ⟨k, a1, c1, e1⟩ : ∃ k a1 c1, numI i 0 false = (k, a1, c1) := ⟨_, _, _, rfl⟩
  obtain ⟨m, a2, c2, e2⟩ : ∃ k a2 c2, numI i a1 c1 = (k, a2, c2) := ⟨_, _, _, rfl⟩
  obtain ⟨x, a3, c3, e3⟩ : ∃ k a3 c3, textI i a2 c2 = (k, a3, c3) := ⟨_, _, _, rfl⟩
  cases c3 with
  | false => exact absurd ⟨_, _, _, _, rnI_of e1 e2 e3⟩ hr
  | true =>
    unfold noteR
    simp only [hu, e1, e2, e3]
    split
    · rw [if_neg (by simp)]
    · rfl
theorem noteBytes_iff {t i x : List UInt8} {k m : Int} {e : Nat} (hu : unsealB t = (i, 0)) (r : ReadsN i k m x e) : noteBytes k m x = t ↔ e = i.length ∧ (0 ≤ k ∧ k ≤ 1000000) ∧ (0 ≤ m ∧ m ≤ 39) ∧ x.length = 8 := by
  obtain ⟨h1, h2, h3, _, _, _⟩ := r.eq
  obtain ⟨u1, u2⟩ := unsealB_ok hu
  unfold noteBytes noteB
  constructor
  · intro h
    split at h
    · rename_i hc
      refine ⟨?_, hc⟩
      rw [← u1] at h
      have h5 := sealB_inj h
      rw [h5] at h1
      have := congrArg List.length h1
      simp only [List.length_append, List.length_drop] at this
      omega
    · rw [← h] at u2; simp at u2
  · rintro ⟨rfl, hc⟩
    rw [if_pos hc, ← u1]
    rw [List.drop_length, List.append_nil] at h1
    rw [← h1]
end Go.Proofs.YthjbhdmjfakfaaaGreatDoor
