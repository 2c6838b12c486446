/- A helper of this seat's claims (contracts of the functions): what it shows is shown for every input that its statements name, on no other condition. -/
import Derived.Test.YthjbhdmjfakfaaaGreatDoorC02t
set_option linter.unusedVariables false
set_option linter.unusedSimpArgs false
set_option maxRecDepth 100000
namespace Go.Proofs.YthjbhdmjfakfaaaGreatDoor
open Go.KH

/-! ## Readers -/
abbrev rdc (t : List UInt8) (a : Nat) (bad : Bool) : List Value := [str t, i64 a, .bool bad]
def numI (t : List UInt8) (a : Nat) (bad : Bool) : Int × Nat × Bool := if (getN t a).2.2 = 0 then ((getN t a).1, (getN t a).2.1, bad) else (0, a, true)
def textI (t : List UInt8) (a : Nat) (bad : Bool) : List UInt8 × Nat × Bool := if (getT t a).2.2 = 0 then ((getT t a).1, (getT t a).2.1, bad) else ([], a, true)
def numS (t : List UInt8) (a : Nat) (bad : Bool) : Int × Nat × Bool := if bad = false ∧ (getN t a).2.2 = 0 then ((getN t a).1, (getN t a).2.1, false) else (0, a, true)
def textS (t : List UInt8) (a : Nat) (bad : Bool) : List UInt8 × Nat × Bool := if bad = false ∧ (getT t a).2.2 = 0 then ((getT t a).1, (getT t a).2.1, false) else ([], a, true)
theorem getN_le (t : List UInt8) (a : Nat) : (getN t a).2.1 ≤ t.length := by
  by_cases hc : (getN t a).2.2 = 0
  · exact (getN_ok (n := (getN t a).1) (e := (getN t a).2.1) (by rw [← hc])).2.2.1
  · rw [getN_bad hc]; exact Nat.zero_le _
theorem getT_le (t : List UInt8) (a : Nat) : (getT t a).2.1 ≤ t.length := by
  by_cases hc : (getT t a).2.2 = 0
  · exact (getT_ok (x := (getT t a).1) (e := (getT t a).2.1) (by rw [← hc])).2.2.1
  · rw [getT_bad hc]; exact Nat.zero_le _
theorem numI_le {t : List UInt8} {a B : Nat} {bad : Bool} (h : a ≤ B) (ht : t.length ≤ B) : (numI t a bad).2.1 ≤ B := by
  unfold numI; split
  · have := getN_le t a; simp only; omega
  · exact h
theorem textI_le {t : List UInt8} {a B : Nat} {bad : Bool} (h : a ≤ B) (ht : t.length ≤ B) : (textI t a bad).2.1 ≤ B := by
  unfold textI; split
  · have := getT_le t a; simp only; omega
  · exact h
theorem numS_le {t : List UInt8} {a : Nat} {bad : Bool} (h : a ≤ 8000) (ht : t.length ≤ 8000) : (numS t a bad).2.1 ≤ 8000 := by
  unfold numS; split
  · have := getN_le t a; simp only; omega
  · exact h
theorem textS_le {t : List UInt8} {a : Nat} {bad : Bool} (h : a ≤ 8000) (ht : t.length ≤ 8000) : (textS t a bad).2.1 ≤ 8000 := by
  unfold textS; split
  · have := getT_le t a; simp only; omega
  · exact h
/-- A new block beside a write. -/
theorem ext_beside {h : H} {b c : Nat} {x y z : Ob} (hn : h.get c = none) (hb : h.get b = some z) : Ext (h.set b x) ((h.set b x).set c y) := by
  have hne : c ≠ b := fun e => by subst e; rw [hb] at hn; cases hn
  exact (Ext.refl _).set (by rw [H.set_get_ne _ _ _ _ hne]; exact hn) _
/-- (*impl.reader).num -/
def b_impl_reader_num : C := (.seq (.ops [q 2 (.mv (.c (i64 0)))])
 (.seq (.dops true (.tk (q 7 (.mv (.t 0))) (.tk (q 8 (.nck (.t 7))) (.tk (q 9 (.fld 0 (.t 8))) (.tk (q 10 (.ld false 1 (.t 9))) (.tk (q 11 (.mv (.t 0))) (.tk (q 12 (.nck (.t 11))) (.tk (q 13 (.fld 1 (.t 12))) (.tk (q 14 (.ld false 1 (.t 13))) (.sq (⟨(some 15), none, .call (.c (.func (.func 185) #[] #[])) [(.t 10), (.t 14)]⟩) (.tk (q 6 (.mv (.t 15))) (.tk (q 16 (.ext 0 (.t 6))) (.tk (q 17 (.ext 1 (.t 6))) (.tk (q 18 (.ext 2 (.t 6))) (.tk (q 3 (.mv (.t 16))) (.tk (q 4 (.mv (.t 17))) (.tk (q 5 (.mv (.t 18))) .nil)))))))))))))))))
 (.seq (.seq (.ops [q 19 (.mv (.t 5)), q 20 (.bin .neq (.t 19) (.c (i64 0)))])
 (.cond (.t 20) (.seq (.ops [q 21 (.mv (.t 0)), q 22 (.nck (.t 21)), q 23 (.fld 2 (.t 22)), ⟨none, none, .st 1 (.t 23) (.c (.bool true))⟩])
 (.seq (.ops [q 2 (.mv (.c (i64 0)))])
 .ret)) .skip))
 (.seq (.ops [q 24 (.mv (.t 0)), q 25 (.mv (.t 4)), q 26 (.nck (.t 24)), q 27 (.fld 1 (.t 26)), ⟨none, none, .st 1 (.t 27) (.t 25)⟩])
 (.seq (.ops [q 28 (.mv (.t 3)), q 2 (.mv (.t 28))])
 .ret)))))
theorem w_impl_reader_num {args : List Value} {h : H} {Q : Value → H → Prop} (hl : args.length ≤ 29) (hk : wpc Tryz.prog b_impl_reader_num (retw [.tmp 2] Q) (argsFr args) h) : AC Tryz.prog 107 args h Q :=
  AC.of_wpc mixedOrders Tryz.func107 (by kernel_rfl) (by kernel_rfl : prepF Tryz.prog Tryz.f107 = some ⟨29, [.tmp 2], b_impl_reader_num⟩) hl hk

theorem rnum_ac {h : H} {b z a : Nat} {t : List UInt8} {bad : Bool} (hb : h.base ≤ b) (hg : h.get b = some ⟨rdc t a bad, z⟩) (ht : t.length ≤ 1048576) (ha : a ≤ 1048576) : AC Tryz.prog 107 [ptr b 0] h fun r h' =>
    r = i64 (numI t a bad).1 ∧ h' = h.set b ⟨rdc t (numI t a bad).2.1 (numI t a bad).2.2, z⟩ := by
  obtain ⟨n, e, c, hn⟩ : ∃ n e c, getN t a = (n, e, c) := ⟨_, _, _, rfl⟩
  unfold numI
  rw [hn]
  refine w_impl_reader_num (by simp) ?_
  unfold b_impl_reader_num
  simp -implicitDefEqProofs only [go_sem, ldc_get hg]
  refine (getNum_pc _ t a (by omega) (by omega)).use ?_
  rw [hn]
  simp -implicitDefEqProofs only [go_sem]
  by_cases hc : c = 0
  · subst hc
    simp -implicitDefEqProofs only [go_sem, show ((0 : Nat) : Int) = 0 from rfl, stc_get hg, hb]
  · simp -implicitDefEqProofs only [go_sem, show ¬ ((c : Int) = 0) by omega, stc_get hg, hb, hc]
/-- (*impl.reader).word -/
def b_impl_reader_word : C := (.seq (.ops [q 2 (.mv (.c (str [])))])
 (.seq (.dops true (.tk (q 7 (.mv (.t 0))) (.tk (q 8 (.nck (.t 7))) (.tk (q 9 (.fld 0 (.t 8))) (.tk (q 10 (.ld false 1 (.t 9))) (.tk (q 11 (.mv (.t 0))) (.tk (q 12 (.nck (.t 11))) (.tk (q 13 (.fld 1 (.t 12))) (.tk (q 14 (.ld false 1 (.t 13))) (.sq (⟨(some 15), none, .call (.c (.func (.func 186) #[] #[])) [(.t 10), (.t 14)]⟩) (.tk (q 6 (.mv (.t 15))) (.tk (q 16 (.ext 0 (.t 6))) (.tk (q 17 (.ext 1 (.t 6))) (.tk (q 18 (.ext 2 (.t 6))) (.tk (q 3 (.mv (.t 16))) (.tk (q 4 (.mv (.t 17))) (.tk (q 5 (.mv (.t 18))) .nil)))))))))))))))))
 (.seq (.seq (.ops [q 19 (.mv (.t 5)), q 20 (.bin .neq (.t 19) (.c (i64 0)))])
 (.cond (.t 20) (.seq (.ops [q 21 (.mv (.t 0)), q 22 (.nck (.t 21)), q 23 (.fld 2 (.t 22)), ⟨none, none, .st 1 (.t 23) (.c (.bool true))⟩])
 (.seq (.ops [q 2 (.mv (.c (str [])))])
 .ret)) .skip))
 (.seq (.ops [q 24 (.mv (.t 0)), q 25 (.mv (.t 4)), q 26 (.nck (.t 24)), q 27 (.fld 1 (.t 26)), ⟨none, none, .st 1 (.t 27) (.t 25)⟩])
 (.seq (.ops [q 28 (.mv (.t 3)), q 2 (.mv (.t 28))])
 .ret)))))
theorem w_impl_reader_word {args : List Value} {h : H} {Q : Value → H → Prop} (hl : args.length ≤ 29) (hk : wpc Tryz.prog b_impl_reader_word (retw [.tmp 2] Q) (argsFr args) h) : AC Tryz.prog 108 args h Q :=
  AC.of_wpc mixedOrders Tryz.func108 (by kernel_rfl) (by kernel_rfl : prepF Tryz.prog Tryz.f108 = some ⟨29, [.tmp 2], b_impl_reader_word⟩) hl hk

theorem rword_ac {h : H} {b z a : Nat} {t : List UInt8} {bad : Bool} (hb : h.base ≤ b) (hg : h.get b = some ⟨rdc t a bad, z⟩) (ht : t.length ≤ 1048576) (ha : a ≤ 1048576) : AC Tryz.prog 108 [ptr b 0] h fun r h' =>
    r = str (textI t a bad).1 ∧ h' = h.set b ⟨rdc t (textI t a bad).2.1 (textI t a bad).2.2, z⟩ := by
  obtain ⟨n, e, c, hn⟩ : ∃ n e c, getT t a = (n, e, c) := ⟨_, _, _, rfl⟩
  unfold textI
  rw [hn]
  refine w_impl_reader_word (by simp) ?_
  unfold b_impl_reader_word
  simp -implicitDefEqProofs only [go_sem, ldc_get hg]
  refine (getText_pc _ t a (by omega) (by omega)).use ?_
  rw [hn]
  simp -implicitDefEqProofs only [go_sem]
  by_cases hc : c = 0
  · subst hc
    simp -implicitDefEqProofs only [go_sem, show ((0 : Nat) : Int) = 0 from rfl, stc_get hg, hb]
  · simp -implicitDefEqProofs only [go_sem, show ¬ ((c : Int) = 0) by omega, stc_get hg, hb, hc]
/-- (*spec.l06Reader).num -/
def b_spec_l06Reader_num : C := (.seq (.ops [q 2 (.mv (.c (i64 0)))])
 (.seq (.dops true (.tk (q 4 (.mv (.t 0))) (.tk (q 5 (.nck (.t 4))) (.tk (q 6 (.fld 0 (.t 5))) (.tk (q 7 (.ld false 1 (.t 6))) (.tk (q 8 (.mv (.t 0))) (.tk (q 9 (.nck (.t 8))) (.tk (q 10 (.fld 1 (.t 9))) (.tk (q 11 (.ld false 1 (.t 10))) (.alt (⟨(some 12), none, .call (.c (.func (.func 114) #[] #[])) [(.t 7), (.t 11)]⟩) (.sq (⟨(some 3), none, .alloc [(i64 0), (i64 0), (i64 0)]⟩) (.lt (⟨none, none, .st 3 (.t 3) (.t 12)⟩) .nil)) (⟨(some 3), none, .alloc [(i64 0), (i64 0), (i64 0)]⟩) (.sq (⟨(some 12), none, .call (.c (.func (.func 114) #[] #[])) [(.t 7), (.t 11)]⟩) (.lt (⟨none, none, .st 3 (.t 3) (.t 12)⟩) .nil))))))))))))
 (.seq (.seq (.ops [q 13 (.mv (.t 0)), q 14 (.nck (.t 13)), q 15 (.fld 2 (.t 14)), q 16 (.ld false 1 (.t 15)), q 17 (.mv (.t 16)), qg 18 17 false (.fld 2 (.t 3)), qg 19 17 false (.ld false 1 (.t 18)), qg 20 17 false (.bin .neq (.t 19) (.c (i64 0))), q 21 (.pick (.t 17) (.c (.bool true)) (.t 20))])
 (.cond (.t 21) (.seq (.ops [q 22 (.mv (.t 0)), q 23 (.nck (.t 22)), q 24 (.fld 2 (.t 23)), ⟨none, none, .st 1 (.t 24) (.c (.bool true))⟩])
 (.seq (.ops [q 2 (.mv (.c (i64 0)))])
 .ret)) .skip))
 (.seq (.ops [q 25 (.mv (.t 0)), q 26 (.fld 1 (.t 3)), q 27 (.ld false 1 (.t 26)), q 28 (.nck (.t 25)), q 29 (.fld 1 (.t 28)), ⟨none, none, .st 1 (.t 29) (.t 27)⟩])
 (.seq (.ops [q 30 (.fld 0 (.t 3)), q 31 (.ld false 1 (.t 30)), q 2 (.mv (.t 31))])
 .ret)))))
theorem w_spec_l06Reader_num {args : List Value} {h : H} {Q : Value → H → Prop} (hl : args.length ≤ 32) (hk : wpc Tryz.prog b_spec_l06Reader_num (retw [.tmp 2] Q) (argsFr args) h) : AC Tryz.prog 58 args h Q :=
  AC.of_wpc mixedOrders Tryz.func58 (by kernel_rfl) (by kernel_rfl : prepF Tryz.prog Tryz.f58 = some ⟨32, [.tmp 2], b_spec_l06Reader_num⟩) hl hk

theorem srnum_ac {h : H} {b z a : Nat} {t : List UInt8} {bad : Bool} (hb : h.base ≤ b) (hg : h.get b = some ⟨rdc t a bad, z⟩) (ht : t.length ≤ 8000) (ha : a ≤ 8000) : AC Tryz.prog 58 [ptr b 0] h fun r h' =>
    r = i64 (numS t a bad).1 ∧ h' = h.set b ⟨rdc t (numS t a bad).2.1 (numS t a bad).2.2, z⟩ := by
  obtain ⟨n, e, c, hn⟩ : ∃ n e c, getN t a = (n, e, c) := ⟨_, _, _, rfl⟩
  unfold numS
  rw [hn]
  refine AC_keep ?_
  refine w_spec_l06Reader_num (by simp) ?_
  unfold b_spec_l06Reader_num
  simp -implicitDefEqProofs only [go_sem, ldc_get hg]
  refine ⟨?_, ?_⟩
  · refine (specGetNum_pc _ t a (by omega) (by omega)).use ?_
    rw [hn]
    simp -implicitDefEqProofs only [go_sem]
    intro b3 hb3 n3
    refine ⟨Sub.set (Sub.refl _) n3 _, ?_⟩
    have z3 : (b = b3) = False := eq_false fun e => by subst e; rw [hg] at n3; cases n3
    simp -implicitDefEqProofs only [go_sem, ldc_get hg, z3, hb3]
    by_cases hc : c = 0
    · subst hc
      cases bad
      · simp -implicitDefEqProofs only [go_sem, ldc_get hg, stc_get hg, hb, z3, show ((0 : Nat) : Int) = 0 from rfl]
        exact ⟨_, ext_beside n3 hg, rfl, rfl⟩
      · simp -implicitDefEqProofs only [go_sem, ldc_get hg, stc_get hg, hb, z3]
        exact ⟨_, ext_beside n3 hg, rfl, rfl⟩
    · cases bad
      · simp -implicitDefEqProofs only [go_sem, ldc_get hg, stc_get hg, hb, z3, show ¬ ((c : Int) = 0) by omega, hc]
        exact ⟨_, ext_beside n3 hg, rfl, rfl⟩
      · simp -implicitDefEqProofs only [go_sem, ldc_get hg, stc_get hg, hb, z3, hc]
        exact ⟨_, ext_beside n3 hg, rfl, rfl⟩
  · intro b3 hb3 n3
    refine ⟨Sub.set (Sub.refl _) n3 _, ?_⟩
    have z3 : (b = b3) = False := eq_false fun e => by subst e; rw [hg] at n3; cases n3
    simp -implicitDefEqProofs only [go_sem]
    refine (specGetNum_pc _ t a (by omega) (by omega)).use ?_
    rw [hn]
    refine ⟨Sub.set (Sub.refl _) n3 _, ?_⟩
    simp -implicitDefEqProofs only [go_sem, ldc_get hg, z3, hb3]
    by_cases hc : c = 0
    · subst hc
      cases bad
      · simp -implicitDefEqProofs only [go_sem, ldc_get hg, stc_get hg, hb, z3, show ((0 : Nat) : Int) = 0 from rfl]
        exact ⟨_, ext_beside n3 hg, rfl, rfl⟩
      · simp -implicitDefEqProofs only [go_sem, ldc_get hg, stc_get hg, hb, z3]
        exact ⟨_, ext_beside n3 hg, rfl, rfl⟩
    · cases bad
      · simp -implicitDefEqProofs only [go_sem, ldc_get hg, stc_get hg, hb, z3, show ¬ ((c : Int) = 0) by omega, hc]
        exact ⟨_, ext_beside n3 hg, rfl, rfl⟩
      · simp -implicitDefEqProofs only [go_sem, ldc_get hg, stc_get hg, hb, z3, hc]
        exact ⟨_, ext_beside n3 hg, rfl, rfl⟩
/-- (*spec.l06Reader).text -/
def b_spec_l06Reader_text : C := (.seq (.ops [q 2 (.mv (.c (str [])))])
 (.seq (.dops true (.tk (q 4 (.mv (.t 0))) (.tk (q 5 (.nck (.t 4))) (.tk (q 6 (.fld 0 (.t 5))) (.tk (q 7 (.ld false 1 (.t 6))) (.tk (q 8 (.mv (.t 0))) (.tk (q 9 (.nck (.t 8))) (.tk (q 10 (.fld 1 (.t 9))) (.tk (q 11 (.ld false 1 (.t 10))) (.alt (⟨(some 12), none, .call (.c (.func (.func 115) #[] #[])) [(.t 7), (.t 11)]⟩) (.sq (⟨(some 3), none, .alloc [(str []), (i64 0), (i64 0)]⟩) (.lt (⟨none, none, .st 3 (.t 3) (.t 12)⟩) .nil)) (⟨(some 3), none, .alloc [(str []), (i64 0), (i64 0)]⟩) (.sq (⟨(some 12), none, .call (.c (.func (.func 115) #[] #[])) [(.t 7), (.t 11)]⟩) (.lt (⟨none, none, .st 3 (.t 3) (.t 12)⟩) .nil))))))))))))
 (.seq (.seq (.ops [q 13 (.mv (.t 0)), q 14 (.nck (.t 13)), q 15 (.fld 2 (.t 14)), q 16 (.ld false 1 (.t 15)), q 17 (.mv (.t 16)), qg 18 17 false (.fld 2 (.t 3)), qg 19 17 false (.ld false 1 (.t 18)), qg 20 17 false (.bin .neq (.t 19) (.c (i64 0))), q 21 (.pick (.t 17) (.c (.bool true)) (.t 20))])
 (.cond (.t 21) (.seq (.ops [q 22 (.mv (.t 0)), q 23 (.nck (.t 22)), q 24 (.fld 2 (.t 23)), ⟨none, none, .st 1 (.t 24) (.c (.bool true))⟩])
 (.seq (.ops [q 2 (.mv (.c (str [])))])
 .ret)) .skip))
 (.seq (.ops [q 25 (.mv (.t 0)), q 26 (.fld 1 (.t 3)), q 27 (.ld false 1 (.t 26)), q 28 (.nck (.t 25)), q 29 (.fld 1 (.t 28)), ⟨none, none, .st 1 (.t 29) (.t 27)⟩])
 (.seq (.ops [q 30 (.fld 0 (.t 3)), q 31 (.ld false 1 (.t 30)), q 2 (.mv (.t 31))])
 .ret)))))
theorem w_spec_l06Reader_text {args : List Value} {h : H} {Q : Value → H → Prop} (hl : args.length ≤ 32) (hk : wpc Tryz.prog b_spec_l06Reader_text (retw [.tmp 2] Q) (argsFr args) h) : AC Tryz.prog 59 args h Q :=
  AC.of_wpc mixedOrders Tryz.func59 (by kernel_rfl) (by kernel_rfl : prepF Tryz.prog Tryz.f59 = some ⟨32, [.tmp 2], b_spec_l06Reader_text⟩) hl hk

theorem srtext_ac {h : H} {b z a : Nat} {t : List UInt8} {bad : Bool} (hb : h.base ≤ b) (hg : h.get b = some ⟨rdc t a bad, z⟩) (ht : t.length ≤ 8000) (ha : a ≤ 8000) : AC Tryz.prog 59 [ptr b 0] h fun r h' =>
    r = str (textS t a bad).1 ∧ h' = h.set b ⟨rdc t (textS t a bad).2.1 (textS t a bad).2.2, z⟩ := by
  obtain ⟨n, e, c, hn⟩ : ∃ n e c, getT t a = (n, e, c) := ⟨_, _, _, rfl⟩
  unfold textS
  rw [hn]
  refine AC_keep ?_
  refine w_spec_l06Reader_text (by simp) ?_
  unfold b_spec_l06Reader_text
  simp -implicitDefEqProofs only [go_sem, ldc_get hg]
  refine ⟨?_, ?_⟩
  · refine (specGetText_pc _ t a (by omega) (by omega)).use ?_
    rw [hn]
    simp -implicitDefEqProofs only [go_sem]
    intro b3 hb3 n3
    refine ⟨Sub.set (Sub.refl _) n3 _, ?_⟩
    have z3 : (b = b3) = False := eq_false fun e => by subst e; rw [hg] at n3; cases n3
    simp -implicitDefEqProofs only [go_sem, ldc_get hg, z3, hb3]
    by_cases hc : c = 0
    · subst hc
      cases bad
      · simp -implicitDefEqProofs only [go_sem, ldc_get hg, stc_get hg, hb, z3, show ((0 : Nat) : Int) = 0 from rfl]
        exact ⟨_, ext_beside n3 hg, rfl, rfl⟩
      · simp -implicitDefEqProofs only [go_sem, ldc_get hg, stc_get hg, hb, z3]
        exact ⟨_, ext_beside n3 hg, rfl, rfl⟩
    · cases bad
      · simp -implicitDefEqProofs only [go_sem, ldc_get hg, stc_get hg, hb, z3, show ¬ ((c : Int) = 0) by omega, hc]
        exact ⟨_, ext_beside n3 hg, rfl, rfl⟩
      · simp -implicitDefEqProofs only [go_sem, ldc_get hg, stc_get hg, hb, z3, hc]
        exact ⟨_, ext_beside n3 hg, rfl, rfl⟩
  · intro b3 hb3 n3
    refine ⟨Sub.set (Sub.refl _) n3 _, ?_⟩
    have z3 : (b = b3) = False := eq_false fun e => by subst e; rw [hg] at n3; cases n3
    simp -implicitDefEqProofs only [go_sem]
    refine (specGetText_pc _ t a (by omega) (by omega)).use ?_
    rw [hn]
    refine ⟨Sub.set (Sub.refl _) n3 _, ?_⟩
    simp -implicitDefEqProofs only [go_sem, ldc_get hg, z3, hb3]
    by_cases hc : c = 0
    · subst hc
      cases bad
      · simp -implicitDefEqProofs only [go_sem, ldc_get hg, stc_get hg, hb, z3, show ((0 : Nat) : Int) = 0 from rfl]
        exact ⟨_, ext_beside n3 hg, rfl, rfl⟩
      · simp -implicitDefEqProofs only [go_sem, ldc_get hg, stc_get hg, hb, z3]
        exact ⟨_, ext_beside n3 hg, rfl, rfl⟩
    · cases bad
      · simp -implicitDefEqProofs only [go_sem, ldc_get hg, stc_get hg, hb, z3, show ¬ ((c : Int) = 0) by omega, hc]
        exact ⟨_, ext_beside n3 hg, rfl, rfl⟩
      · simp -implicitDefEqProofs only [go_sem, ldc_get hg, stc_get hg, hb, z3, hc]
        exact ⟨_, ext_beside n3 hg, rfl, rfl⟩
theorem srnum {h : H} {b z a e : Nat} {t : List UInt8} {bad bd : Bool} {n : Int} (hn : numS t a bad = (n, e, bd)) (hb : h.base ≤ b) (hg : h.get b = some ⟨rdc t a bad, z⟩) (ht : t.length ≤ 8000) (ha : a ≤ 8000) : AC Tryz.prog 58 [ptr b 0] h fun r h' =>
    r = i64 n ∧ h' = h.set b ⟨rdc t e bd, z⟩ := by have := srnum_ac hb hg ht ha; rw [hn] at this; exact this
theorem srtext {h : H} {b z a e : Nat} {t x : List UInt8} {bad bd : Bool} (hn : textS t a bad = (x, e, bd)) (hb : h.base ≤ b) (hg : h.get b = some ⟨rdc t a bad, z⟩) (ht : t.length ≤ 8000) (ha : a ≤ 8000) : AC Tryz.prog 59 [ptr b 0] h fun r h' =>
    r = str x ∧ h' = h.set b ⟨rdc t e bd, z⟩ := by have := srtext_ac hb hg ht ha; rw [hn] at this; exact this
theorem rnum {h : H} {b z a e : Nat} {t : List UInt8} {bad bd : Bool} {n : Int} (hn : numI t a bad = (n, e, bd)) (hb : h.base ≤ b) (hg : h.get b = some ⟨rdc t a bad, z⟩) (ht : t.length ≤ 1048576) (ha : a ≤ 1048576) : AC Tryz.prog 107 [ptr b 0] h fun r h' =>
    r = i64 n ∧ h' = h.set b ⟨rdc t e bd, z⟩ := by have := rnum_ac hb hg ht ha; rw [hn] at this; exact this
theorem rword {h : H} {b z a e : Nat} {t x : List UInt8} {bad bd : Bool} (hn : textI t a bad = (x, e, bd)) (hb : h.base ≤ b) (hg : h.get b = some ⟨rdc t a bad, z⟩) (ht : t.length ≤ 1048576) (ha : a ≤ 1048576) : AC Tryz.prog 108 [ptr b 0] h fun r h' =>
    r = str x ∧ h' = h.set b ⟨rdc t e bd, z⟩ := by have := rword_ac hb hg ht ha; rw [hn] at this; exact this
theorem numS_eq {t : List UInt8} {a e : Nat} {bad bd : Bool} {n : Int} (hn : numS t a bad = (n, e, bd)) (h : a ≤ 8000) (ht : t.length ≤ 8000) : e ≤ 8000 := by have := numS_le (bad := bad) h ht; rw [hn] at this; exact this
theorem textS_eq {t x : List UInt8} {a e : Nat} {bad bd : Bool} (hn : textS t a bad = (x, e, bd)) (h : a ≤ 8000) (ht : t.length ≤ 8000) : e ≤ 8000 := by have := textS_le (bad := bad) h ht; rw [hn] at this; exact this
theorem numI_eq {t : List UInt8} {a e B : Nat} {bad bd : Bool} {n : Int} (hn : numI t a bad = (n, e, bd)) (h : a ≤ B) (ht : t.length ≤ B) : e ≤ B := by have := numI_le (bad := bad) h ht; rw [hn] at this; exact this
theorem textI_eq {t x : List UInt8} {a e B : Nat} {bad bd : Bool} (hn : textI t a bad = (x, e, bd)) (h : a ≤ B) (ht : t.length ≤ B) : e ≤ B := by have := textI_le (bad := bad) h ht; rw [hn] at this; exact this
end Go.Proofs.YthjbhdmjfakfaaaGreatDoor
