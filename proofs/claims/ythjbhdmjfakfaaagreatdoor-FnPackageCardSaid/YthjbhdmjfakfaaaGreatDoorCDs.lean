/- A helper of this seat's claims (contracts of the functions): what it shows is shown for every input that its statements name, on no other condition. -/
import Derived.Test.YthjbhdmjfakfaaaGreatDoorCD
import Derived.Test.YthjbhdmjfakfaaaGreatDoorC06r
import Derived.Test.YthjbhdmjfakfaaaGreatDoorKD
set_option linter.unusedVariables false
set_option linter.unusedSimpArgs false
set_option maxRecDepth 100000
namespace Go.Proofs.YthjbhdmjfakfaaaGreatDoor
open Go.KH

/-! ## Steps drawn -/
def okd (x : UStep) : Prop := x.ok ∧ x.data.length ≤ 9
theorem okd_of {k d s : Int} {t : List UInt8} (h1 : in64 k) (h2 : in64 d) (h3 : in64 s) (h4 : t.length ≤ 9) : okd ⟨k, d, s, t⟩ := ⟨⟨h1, h2, h3, by have := show maxLen = 9223372036854775807 from rfl; simp only; omega⟩, h4⟩
/-- (*spec.l01Src).l06Data -/
def b_spec_l01Src_l06Data : C := (.seq (.ops [q 2 (.mv (.c (str [])))])
 (.seq (.ops [q 3 (.mv (.t 0)), ⟨(some 4), none, .bsl 5 [(str []), (str []), (str []), (str []), (str [])] [(0, 1, (.c (str [97, 97, 97, 97, 97, 97, 97, 97]))), (1, 1, (.c (str [97, 98, 97, 98, 97, 98, 97, 98]))), (2, 1, (.c (str [104, 101, 108, 108, 111, 32, 32, 33]))), (3, 1, (.c (str [0, 0, 0, 0, 0, 0, 0, 0]))), (4, 1, (.c (str [0, 0, 0, 1, 0, 0, 0, 0])))]⟩, ⟨(some 5), none, .call (.c (.func (.func 171) #[] #[])) [(.t 3), (.t 4)]⟩, q 2 (.mv (.t 5))])
 .ret))
theorem w_spec_l01Src_l06Data {args : List Value} {h : H} {Q : Value → H → Prop} (hl : args.length ≤ 6) (hk : wpc Tryz.prog b_spec_l01Src_l06Data (retw [.tmp 2] Q) (argsFr args) h) : AC Tryz.prog 83 args h Q :=
  AC.of_wpc mixedOrders Tryz.func83 (by kernel_rfl) (by kernel_rfl : prepF Tryz.prog Tryz.f83 = some ⟨6, [.tmp 2], b_spec_l01Src_l06Data⟩) hl hk

theorem src_data {h : H} {b : Nat} {v : Value} {l : List UInt8} (hs : Src v l h b) : AC Tryz.prog 83 [ptr b 0] h fun r h' => (∃ s : List UInt8, s.length = 8 ∧ r = str s) ∧ Drew v l b h h' := by
  refine w_spec_l01Src_l06Data (by simp) ?_
  unfold b_spec_l01Src_l06Data
  simp -implicitDefEqProofs only [go_sem]
  intro b4 hb4 n4
  simp -implicitDefEqProofs only [go_sem]
  have e4 := (Ext.refl h).set n4 ⟨[str [97, 97, 97, 97, 97, 97, 97, 97], str [97, 98, 97, 98, 97, 98, 97, 98], str [104, 101, 108, 108, 111, 32, 32, 33], str [0, 0, 0, 0, 0, 0, 0, 0], str [0, 0, 0, 1, 0, 0, 0, 0]], 5⟩
  have hsl : Sl (h.set b4 ⟨[str [97, 97, 97, 97, 97, 97, 97, 97], str [97, 98, 97, 98, 97, 98, 97, 98], str [104, 101, 108, 108, 111, 32, 32, 33], str [0, 0, 0, 0, 0, 0, 0, 0], str [0, 0, 0, 1, 0, 0, 0, 0]], 5⟩) (sl b4 0 5 5) 1 (strs [[97, 97, 97, 97, 97, 97, 97, 97], [97, 98, 97, 98, 97, 98, 97, 98], [104, 101, 108, 108, 111, 32, 32, 33], [0, 0, 0, 0, 0, 0, 0, 0], [0, 0, 0, 1, 0, 0, 0, 0]]) :=
    Sl.of_get (c := 5) (z := 5) (rows := strs [[97, 97, 97, 97, 97, 97, 97, 97], [97, 98, 97, 98, 97, 98, 97, 98], [104, 101, 108, 108, 111, 32, 32, 33], [0, 0, 0, 0, 0, 0, 0, 0], [0, 0, 0, 1, 0, 0, 0, 0]]) (H.set_get_same _ _ _) (by decide) (strs_wid _)
  refine AC_of (src_pick (hs.ext e4) hsl (by decide) (fun c hc e => by simp only [blk, Option.some.injEq] at hc; subst hc; subst e; exact hs.known n4)) ?_
  rintro _ h1 - ⟨⟨s, hm, rfl⟩, d⟩
  simp -implicitDefEqProofs only [go_sem]
  exact ⟨⟨s, by revert s; decide, rfl⟩, (Drew.of_ext hs e4).trans d⟩
/-- (*spec.l01Src).l06Step -/
def b_spec_l01Src_l06Step : C := (.seq (.ops [⟨(some 4), none, .alloc [(i64 0), (i64 0), (i64 0), (str [])]⟩])
 (.seq (.ops [q 6 (.mv (.t 0)), ⟨(some 7), none, .call (.c (.func (.func 43) #[] #[])) [(.t 6), (.c (i64 4))]⟩, q 8 (.bin .add (.c (i64 1)) (.t 7)), q 9 (.mv (.t 0)), q 10 (.mv (.t 1)), ⟨(some 11), none, .call (.c (.func (.func 43) #[] #[])) [(.t 9), (.t 10)]⟩, q 12 (.build [(i64 0), (i64 0), (i64 0), (str [])] [(0, 1, (.t 8)), (1, 1, (.t 11))]), ⟨(some 5), none, .alloc [(i64 0), (i64 0), (i64 0), (str [])]⟩, ⟨none, none, .st 4 (.t 5) (.t 12)⟩])
 (.seq (.seq (.ops [q 13 (.fld 0 (.t 5)), q 14 (.ld false 1 (.t 13)), q 15 (.bin .geq (.t 14) (.c (i64 3)))])
 (.cond (.t 15) (.ops [q 16 (.mv (.t 0)), q 17 (.mv (.t 1)), ⟨(some 18), none, .call (.c (.func (.func 43) #[] #[])) [(.t 16), (.t 17)]⟩, q 19 (.fld 2 (.t 5)), ⟨none, none, .st 1 (.t 19) (.t 18)⟩]) .skip))
 (.seq (.seq (.ops [q 20 (.fld 0 (.t 5)), q 21 (.ld false 1 (.t 20)), q 22 (.bin .eql (.t 21) (.c (i64 2))), q 23 (.mv (.t 22)), qg 24 23 false (.fld 0 (.t 5)), qg 25 23 false (.ld false 1 (.t 24)), qg 26 23 false (.bin .eql (.t 25) (.c (i64 4))), q 27 (.pick (.t 23) (.c (.bool true)) (.t 26))])
 (.cond (.t 27) (.ops [q 28 (.mv (.t 0)), ⟨(some 29), none, .call (.c (.func (.func 83) #[] #[])) [(.t 28)]⟩, q 30 (.fld 3 (.t 5)), ⟨none, none, .st 1 (.t 30) (.t 29)⟩]) .skip))
 (.seq (.ops [q 31 (.ld true 4 (.t 5)), ⟨none, none, .st 4 (.t 4) (.t 31)⟩])
 .ret)))))
theorem w_spec_l01Src_l06Step {args : List Value} {h : H} {Q : Value → H → Prop} (hl : args.length ≤ 32) (hk : wpc Tryz.prog b_spec_l01Src_l06Step (retw [.cell 4 true 4] Q) (argsFr args) h) : AC Tryz.prog 183 args h Q :=
  AC.of_wpc mixedOrders Tryz.func183 (by kernel_rfl) (by kernel_rfl : prepF Tryz.prog Tryz.f183 = some ⟨32, [.cell 4 true 4], b_spec_l01Src_l06Step⟩) hl hk

theorem src_step {h : H} {b : Nat} {v : Value} {l : List UInt8} {blocks : Int} (hs : Src v l h b) (hb : in64 blocks) : AC Tryz.prog 183 [ptr b 0, i64 blocks] h fun r h' => (∃ x : UStep, okd x ∧ r = .agg x.cells.toArray) ∧ Drew v l b h h' := by
  have hbl : blocks < 9223372036854775808 := by unfold in64 at hb; omega
  refine w_spec_l01Src_l06Step (by simp) ?_
  unfold b_spec_l01Src_l06Step
  simp -implicitDefEqProofs only [go_sem]
  intro b4 hb_b4 n_b4
  simp -implicitDefEqProofs only [go_sem, hb_b4]
  refine AC_of (src_n (hs.ext ((Ext.refl _).set' n_b4 _)) (by omega)) ?_
  rintro _ h1 - ⟨⟨k, rfl, k0, k1, -⟩, d1⟩
  have hk := k1 (by omega)
  simp -implicitDefEqProofs only [go_sem, hb_b4]
  refine AC_of (src_n d1.2 hbl) ?_
  rintro _ h2 - ⟨⟨t, rfl, t0, t1, t2⟩, d2⟩
  have ht : in64 t := by
    unfold in64 at hb ⊢
    by_cases h : 1 < blocks
    · have := t1 h; omega
    · have := t2 (by omega); omega
  have d12 := d1.trans d2
  have q4 : b4 ≠ b := fun e => by subst e; exact hs.known n_b4
  have g4 := d12.1.2.1 b4 _ q4 (H.set_get_same _ _ _)
  have hbb := d12.1.1
  simp only [H.set_base] at hbb
  simp -implicitDefEqProofs only [go_sem, wrap_i64 (show -(9223372036854775808 : Int) ≤ (1 + k) by omega) (show (1 + k) < 9223372036854775808 by omega), hb_b4]
  intro b5 hb5 n5
  have z45 : (b4 = b5) = False := eq_false fun e => by rw [e, n5] at g4; cases g4
  have z54 : (b5 = b4) = False := eq_false fun e => by rw [← e, n5] at g4; cases g4
  have q5 : b5 ≠ b := fun e => by subst e; exact d12.2.known n5
  have n5h : h.get b5 = none := by
    have := Keep.nones (Drew.trans (Drew.of_ext hs ((Ext.refl _).set' n_b4 _)) d12).1 b5 n5
    exact this
  obtain rfl | rfl | rfl | rfl : k = 0 ∨ k = 1 ∨ k = 2 ∨ k = 3 := by omega
  · simp -implicitDefEqProofs only [go_sem, Int.reduceAdd, hb5, z45, z54, hb_b4]
    have G4 : (h2.set b5 ⟨[i64 1, i64 t, i64 0, str []], 4⟩).get b4 = some ⟨[i64 0, i64 0, i64 0, str []], 4⟩ := by rw [H.set_get_ne _ _ _ _ (of_eq_false z45)]; exact g4
    have D := (((Drew.of_ext hs ((Ext.refl h).set n_b4 ⟨[i64 0, i64 0, i64 0, str []], 4⟩)).trans d12).ext ((Ext.refl h2).set n5 ⟨[i64 1, i64 t, i64 0, str []], 4⟩))
    simp -implicitDefEqProofs only [go_sem, ldc_get G4, stc_get G4, hbb, hb_b4, z45, z54, hb_b4]
    exact ⟨⟨⟨1, t, 0, []⟩, okd_of (by unfold in64; omega) ht (by unfold in64; omega) (by simp), rfl⟩, Drew.set D n_b4 hs _⟩
  · simp -implicitDefEqProofs only [go_sem, Int.reduceAdd, hb5, z45, z54, hb_b4]
    have G4 : (h2.set b5 ⟨[i64 2, i64 t, i64 0, str []], 4⟩).get b4 = some ⟨[i64 0, i64 0, i64 0, str []], 4⟩ := by rw [H.set_get_ne _ _ _ _ (of_eq_false z45)]; exact g4
    have D := (((Drew.of_ext hs ((Ext.refl h).set n_b4 ⟨[i64 0, i64 0, i64 0, str []], 4⟩)).trans d12).ext ((Ext.refl h2).set n5 ⟨[i64 2, i64 t, i64 0, str []], 4⟩))
    refine AC_of (src_data D.2) ?_
    rintro _ h3 - ⟨⟨s, hsl, rfl⟩, d3⟩
    have D3 := D.trans d3
    have G43 := d3.1.2.1 b4 _ q4 G4
    have G53 := d3.1.2.1 b5 _ q5 (H.set_get_same _ _ _)
    have hb3 := d3.1.1
    simp only [H.set_base] at hb3
    have hb53 : h3.base ≤ b5 := by rw [hb3]; exact hb5
    have hb43 : h3.base ≤ b4 := by rw [hb3, hbb]; exact hb_b4
    simp -implicitDefEqProofs only [go_sem, ldc_get G53, stc_get G53, hb53, hb43, ldc_get G43, stc_get G43, z45, z54, hb_b4]
    exact ⟨⟨⟨2, t, 0, s⟩, okd_of (by unfold in64; omega) ht (by unfold in64; omega) (by omega), rfl⟩, by first | exact Drew.set (Drew.set D3 n5h hs _) n_b4 hs _ | exact Drew.set (Drew.set D3 n_b4 hs _) n5h hs _⟩
  · simp -implicitDefEqProofs only [go_sem, Int.reduceAdd, hb5, z45, z54, hb_b4]
    have G4 : (h2.set b5 ⟨[i64 3, i64 t, i64 0, str []], 4⟩).get b4 = some ⟨[i64 0, i64 0, i64 0, str []], 4⟩ := by rw [H.set_get_ne _ _ _ _ (of_eq_false z45)]; exact g4
    have D := (((Drew.of_ext hs ((Ext.refl h).set n_b4 ⟨[i64 0, i64 0, i64 0, str []], 4⟩)).trans d12).ext ((Ext.refl h2).set n5 ⟨[i64 3, i64 t, i64 0, str []], 4⟩))
    refine AC_of (src_n D.2 hbl) ?_
    rintro _ h3 - ⟨⟨s, rfl, s0, s1, s2⟩, d3⟩
    have hs3 : in64 s := by
      unfold in64 at hb ⊢
      by_cases h : 1 < blocks
      · have := s1 h; omega
      · have := s2 (by omega); omega
    have D3 := D.trans d3
    have G43 := d3.1.2.1 b4 _ q4 G4
    have G53 := d3.1.2.1 b5 _ q5 (H.set_get_same _ _ _)
    have hb3 := d3.1.1
    simp only [H.set_base] at hb3
    have hb53 : h3.base ≤ b5 := by rw [hb3]; exact hb5
    have hb43 : h3.base ≤ b4 := by rw [hb3, hbb]; exact hb_b4
    simp -implicitDefEqProofs only [go_sem, ldc_get G53, stc_get G53, hb53, hb43, hb_b4]
    try (simp -implicitDefEqProofs only [go_sem, ldc_get G53, stc_get G53, hb53, hb43, ldc_get G43, stc_get G43, z45, z54, hb_b4])
    exact ⟨⟨⟨3, t, s, []⟩, okd_of (by unfold in64; omega) ht hs3 (by simp), rfl⟩, by first | exact Drew.set (Drew.set D3 n5h hs _) n_b4 hs _ | exact Drew.set (Drew.set D3 n_b4 hs _) n5h hs _⟩
  · simp -implicitDefEqProofs only [go_sem, Int.reduceAdd, hb5, z45, z54, hb_b4]
    have G4 : (h2.set b5 ⟨[i64 4, i64 t, i64 0, str []], 4⟩).get b4 = some ⟨[i64 0, i64 0, i64 0, str []], 4⟩ := by rw [H.set_get_ne _ _ _ _ (of_eq_false z45)]; exact g4
    have D := (((Drew.of_ext hs ((Ext.refl h).set n_b4 ⟨[i64 0, i64 0, i64 0, str []], 4⟩)).trans d12).ext ((Ext.refl h2).set n5 ⟨[i64 4, i64 t, i64 0, str []], 4⟩))
    refine AC_of (src_n D.2 hbl) ?_
    rintro _ h3 - ⟨⟨s, rfl, s0, s1, s2⟩, d3⟩
    have hs3 : in64 s := by
      unfold in64 at hb ⊢
      by_cases h : 1 < blocks
      · have := s1 h; omega
      · have := s2 (by omega); omega
    have D3 := D.trans d3
    have G43 := d3.1.2.1 b4 _ q4 G4
    have G53 := d3.1.2.1 b5 _ q5 (H.set_get_same _ _ _)
    have hb3 := d3.1.1
    simp only [H.set_base] at hb3
    have hb53 : h3.base ≤ b5 := by rw [hb3]; exact hb5
    have hb43 : h3.base ≤ b4 := by rw [hb3, hbb]; exact hb_b4
    simp -implicitDefEqProofs only [go_sem, ldc_get G53, stc_get G53, hb53, hb43, hb_b4]
    have D4 := Drew.set D3 n5h hs ⟨[i64 4, i64 t, i64 s, str []], 4⟩
    refine AC_of (src_data D4.2) ?_
    rintro _ h4 - ⟨⟨u, hul, rfl⟩, d4⟩
    have G44 := d4.1.2.1 b4 _ q4 (by rw [H.set_get_ne _ _ _ _ (of_eq_false z45)]; exact G43)
    have G54 := d4.1.2.1 b5 _ q5 (H.set_get_same _ _ _)
    have hb4' := d4.1.1
    simp only [H.set_base] at hb4'
    have hb54 : h4.base ≤ b5 := by rw [hb4', hb3]; exact hb5
    have hb44 : h4.base ≤ b4 := by rw [hb4', hb3, hbb]; exact hb_b4
    have D5 := D4.trans d4
    simp -implicitDefEqProofs only [go_sem, ldc_get G54, stc_get G54, hb54, hb44, ldc_get G44, stc_get G44, z45, z54, hb_b4]
    exact ⟨⟨⟨4, t, s, u⟩, okd_of (by unfold in64; omega) ht hs3 (by omega), rfl⟩, by first | exact Drew.set (Drew.set D5 n5h hs _) n_b4 hs _ | exact Drew.set (Drew.set D5 n_b4 hs _) n5h hs _⟩
/-- A step in a block of one's own, and a block for the result. -/
def Any2 (v : Value) (l : List UInt8) (b : Nat) (h : H) (f : Fr) (h' : H) : Prop := ∃ (x : UStep) (b2 b3 : Nat), okd x ∧ f 0 = ptr b 0 ∧ f 2 = ptr b2 0 ∧ f 3 = ptr b3 0 ∧ b2 ≠ b3 ∧ b2 ≠ b ∧ b3 ≠ b ∧ h.get b2 = none ∧ h.get b3 = none ∧ h'.base ≤ b2 ∧ h'.base ≤ b3 ∧ h'.get b2 = some ⟨[i64 0, i64 0, i64 0, str []], 4⟩ ∧ h'.get b3 = some ⟨x.cells, 4⟩ ∧ Drew v l b h h'
theorem in64_small {n : Int} (h : -1000000000 ≤ n ∧ n ≤ 1000000000) : in64 n := by unfold in64; omega
/-- (*spec.l01Src).l06Any -/
def b_spec_l01Src_l06Any : C := (.seq (.ops [⟨(some 2), none, .alloc [(i64 0), (i64 0), (i64 0), (str [])]⟩])
 (.seq (.ops [q 4 (.mv (.t 0)), ⟨(some 5), none, .call (.c (.func (.func 183) #[] #[])) [(.t 4), (.c (i64 4))]⟩, ⟨(some 3), none, .alloc [(i64 0), (i64 0), (i64 0), (str [])]⟩, ⟨none, none, .st 4 (.t 3) (.t 5)⟩])
 (.seq (.seq (.ops [q 6 (.mv (.t 0)), ⟨(some 7), none, .call (.c (.func (.func 48) #[] #[])) [(.t 6), (.c (i64 6))]⟩])
 (.cond (.t 7) (.ops [q 8 (.mv (.t 0)), ⟨(some 9), none, .call (.c (.func (.func 43) #[] #[])) [(.t 8), (.c (i64 9))]⟩, q 10 (.build [(i64 0), (i64 0), (i64 0), (str [])] [(0, 1, (.c (i64 5))), (2, 1, (.t 9))]), ⟨none, none, .st 4 (.t 3) (.t 10)⟩]) .skip))
 (.seq (.seq (.ops [q 11 (.mv (.t 0)), ⟨(some 12), none, .call (.c (.func (.func 48) #[] #[])) [(.t 11), (.c (i64 10))]⟩])
 (.cond (.t 12) (.seq (.ops [q 13 (.mv (.t 0)), ⟨(some 14), none, .call (.c (.func (.func 43) #[] #[])) [(.t 13), (.c (i64 5))]⟩])
 (.block 0 (.seq (.ops [q 17 (.bin .eql (.t 14) (.c (i64 0))), q 16 (.mv (.t 17))])
 (.cond (.t 16) (.ops [q 18 (.mv (.t 0)), ⟨(some 19), none, .call (.c (.func (.func 43) #[] #[])) [(.t 18), (.c (i64 7))]⟩, q 20 (.fld 0 (.t 3)), ⟨none, none, .st 1 (.t 20) (.t 19)⟩]) (.seq (.ops [q 22 (.bin .eql (.t 14) (.c (i64 1))), q 21 (.mv (.t 22))])
 (.cond (.t 21) (.ops [⟨(some 23), none, .bsl 3 [(i64 0), (i64 0), (i64 0)] [(0, 1, (.c (i64 (-1)))), (1, 1, (.c (i64 7))), (2, 1, (.c (i64 8)))]⟩, q 24 (.mv (.t 0)), ⟨(some 25), none, .call (.c (.func (.func 43) #[] #[])) [(.t 24), (.c (i64 3))]⟩, q 26 (.idx 1 (.t 23) (.t 25)), q 27 (.ld false 1 (.t 26)), q 28 (.fld 1 (.t 3)), ⟨none, none, .st 1 (.t 28) (.t 27)⟩]) (.seq (.ops [q 30 (.bin .eql (.t 14) (.c (i64 2))), q 29 (.mv (.t 30))])
 (.cond (.t 29) (.ops [⟨(some 31), none, .bsl 5 [(i64 0), (i64 0), (i64 0), (i64 0), (i64 0)] [(0, 1, (.c (i64 (-1)))), (1, 1, (.c (i64 7))), (2, 1, (.c (i64 8))), (3, 1, (.c (i64 1000000))), (4, 1, (.c (i64 1000001)))]⟩, q 32 (.mv (.t 0)), ⟨(some 33), none, .call (.c (.func (.func 43) #[] #[])) [(.t 32), (.c (i64 5))]⟩, q 34 (.idx 1 (.t 31) (.t 33)), q 35 (.ld false 1 (.t 34)), q 36 (.fld 2 (.t 3)), ⟨none, none, .st 1 (.t 36) (.t 35)⟩]) (.seq (.ops [q 38 (.bin .eql (.t 14) (.c (i64 3))), q 37 (.mv (.t 38))])
 (.cond (.t 37) (.ops [q 39 (.mv (.t 0)), q 40 (.mv (.t 0)), ⟨(some 41), none, .call (.c (.func (.func 43) #[] #[])) [(.t 40), (.c (i64 3))]⟩, q 42 (.bin .add (.c (i64 7)) (.t 41)), ⟨(some 43), none, .call (.c (.func (.func 102) #[] #[])) [(.t 39), (.t 42)]⟩, q 44 (.fld 3 (.t 3)), ⟨none, none, .st 1 (.t 44) (.t 43)⟩]) (.ops [q 15 (.fld 3 (.t 3)), ⟨none, none, .st 1 (.t 15) (.c (str []))⟩]))))))))))) .skip))
 (.seq (.ops [q 45 (.ld true 4 (.t 3)), ⟨none, none, .st 4 (.t 2) (.t 45)⟩])
 .ret)))))
theorem w_spec_l01Src_l06Any {args : List Value} {h : H} {Q : Value → H → Prop} (hl : args.length ≤ 46) (hk : wpc Tryz.prog b_spec_l01Src_l06Any (retw [.cell 2 true 4] Q) (argsFr args) h) : AC Tryz.prog 103 args h Q :=
  AC.of_wpc mixedOrders Tryz.func103 (by kernel_rfl) (by kernel_rfl : prepF Tryz.prog Tryz.f103 = some ⟨46, [.cell 2 true 4], b_spec_l01Src_l06Any⟩) hl hk

set_option maxHeartbeats 1600000 in
theorem src_any {h : H} {b : Nat} {v : Value} {l : List UInt8} (hs : Src v l h b) : AC Tryz.prog 103 [ptr b 0] h fun r h' => (∃ x : UStep, okd x ∧ r = .agg x.cells.toArray) ∧ Drew v l b h h' := by
  refine w_spec_l01Src_l06Any (by simp) ?_
  unfold b_spec_l01Src_l06Any
  refine wpc_cut2 (Any2 v l b h) ?_ ?_
  · simp -implicitDefEqProofs only [go_sem]
    intro b2 hb_b2 n_b2
    simp -implicitDefEqProofs only [go_sem, hb_b2]
    refine AC_of (src_step (hs.ext ((Ext.refl _).set' n_b2 _)) (by unfold in64; omega)) ?_
    rintro _ h1 - ⟨⟨x, hx, rfl⟩, d1⟩
    have q2 : b2 ≠ b := fun e => by subst e; exact hs.known n_b2
    have g2 := d1.1.2.1 b2 _ q2 (H.set_get_same _ _ _)
    have hb1 := d1.1.1
    simp only [H.set_base] at hb1
    have D1 := (Drew.of_ext hs ((Ext.refl h).set n_b2 ⟨[i64 0, i64 0, i64 0, str []], 4⟩)).trans d1
    simp -implicitDefEqProofs only [go_sem, hb_b2]
    intro b3 hb3 n3
    have z23 : b2 ≠ b3 := fun e => by rw [e, n3] at g2; cases g2
    have q3 : b3 ≠ b := fun e => by subst e; exact d1.2.known n3
    have n3h := D1.1.nones b3 n3
    simp -implicitDefEqProofs only [go_sem, hb3, hb_b2]
    unfold Any2
    exact ⟨x, b2, b3, hx, by simp -implicitDefEqProofs only [go_sem, hb_b2], by simp -implicitDefEqProofs only [go_sem, hb_b2], by simp -implicitDefEqProofs only [go_sem, hb_b2], z23, q2, q3, n_b2, n3h, by rw [H.set_base, hb1]; exact hb_b2, hb3, by rw [H.set_get_ne _ _ _ _ z23]; exact g2, H.set_get_same _ _ _, D1.ext ((Ext.refl h1).set n3 _)⟩
  skip
  rintro f h' ⟨x, b2, b3, hx, f0, f2, f3, z23, q2, q3, n2, n3, hb2, hb3, g2, g3, D⟩
  refine wpc_cut (Any2 v l b h) ?_ ?_
  · simp -implicitDefEqProofs only [go_sem, f0]
    refine AC_of (src_one D.2 (by omega)) ?_
    rintro _ h1 - ⟨⟨t, rfl⟩, d1⟩
    have D1 := D.trans d1
    have j2 := d1.1.2.1 b2 _ q2 g2
    have j3 := d1.1.2.1 b3 _ q3 g3
    cases t
    · simp -implicitDefEqProofs only [go_sem]
      unfold Any2
      exact ⟨x, b2, b3, hx, by simp -implicitDefEqProofs only [go_sem, f0], by simp -implicitDefEqProofs only [go_sem, f2], by simp -implicitDefEqProofs only [go_sem, f3], z23, q2, q3, n2, n3, by rw [d1.1.1]; exact hb2, by rw [d1.1.1]; exact hb3, j2, j3, D1⟩
    · simp -implicitDefEqProofs only [go_sem, f0]
      refine AC_of (src_n D1.2 (by omega)) ?_
      rintro _ h2 - ⟨⟨k, rfl, k0, k1, -⟩, d2⟩
      have hk := k1 (by omega)
      have D2 := D1.trans d2
      have i2 := d2.1.2.1 b2 _ q2 j2
      have i3 := d2.1.2.1 b3 _ q3 j3
      have hb23 : h2.base ≤ b3 := by rw [d2.1.1, d1.1.1]; exact hb3
      simp -implicitDefEqProofs only [go_sem, f0, f2, f3, stc_get i3, hb23]
      unfold Any2
      exact ⟨⟨5, 0, k, []⟩, b2, b3, okd_of (by unfold in64; omega) (by unfold in64; omega) (by unfold in64; omega) (by simp), by simp -implicitDefEqProofs only [go_sem, f0], by simp -implicitDefEqProofs only [go_sem, f2], by simp -implicitDefEqProofs only [go_sem, f3], z23, q2, q3, n2, n3, by rw [H.set_base, d2.1.1, d1.1.1]; exact hb2, hb23, by rw [H.set_get_ne _ _ _ _ z23]; exact i2, H.set_get_same _ _ _, Drew.set D2 n3 hs _⟩
  clear f0 f2 f3 g2 g3 D hb2 hb3 hx
  rintro f h' ⟨x, b2, b3, hx, f0, f2, f3, z23, q2, q3, n2, n3, hb2, hb3, g2, g3, D⟩
  refine wpc_cut (Any2 v l b h) ?_ ?_
  · simp -implicitDefEqProofs only [go_sem, f0]
    refine AC_of (src_one D.2 (by omega)) ?_
    rintro _ h1 - ⟨⟨t, rfl⟩, d1⟩
    have D1 := D.trans d1
    have j2 := d1.1.2.1 b2 _ q2 g2
    have j3 := d1.1.2.1 b3 _ q3 g3
    cases t
    · simp -implicitDefEqProofs only [go_sem]
      unfold Any2
      exact ⟨x, b2, b3, hx, by simp -implicitDefEqProofs only [go_sem, f0], by simp -implicitDefEqProofs only [go_sem, f2], by simp -implicitDefEqProofs only [go_sem, f3], z23, q2, q3, n2, n3, by rw [d1.1.1]; exact hb2, by rw [d1.1.1]; exact hb3, j2, j3, D1⟩
    · simp -implicitDefEqProofs only [go_sem, f0]
      refine AC_of (src_n D1.2 (by omega)) ?_
      rintro _ h2 - ⟨⟨k, rfl, k0, k1, -⟩, d2⟩
      have hk := k1 (by omega)
      have D2 := D1.trans d2
      have i2 := d2.1.2.1 b2 _ q2 j2
      have i3 := d2.1.2.1 b3 _ q3 j3
      have hb23 : h2.base ≤ b3 := by rw [d2.1.1, d1.1.1]; exact hb3
      have hb22 : h2.base ≤ b2 := by rw [d2.1.1, d1.1.1]; exact hb2
      obtain ⟨kd, ds, sr, da⟩ := x
      obtain ⟨⟨x1, x2, x3, x4⟩, x5⟩ := hx
      simp only at x1 x2 x3 x4 x5 i3
      obtain rfl | rfl | rfl | rfl | rfl : k = 0 ∨ k = 1 ∨ k = 2 ∨ k = 3 ∨ k = 4 := by omega
      · simp -implicitDefEqProofs only [go_sem, f0]
        refine AC_of (src_n D2.2 (by omega)) ?_
        rintro _ h3 - ⟨⟨k, rfl, k0, k1, -⟩, d3⟩
        have hk := k1 (by omega)
        have D3 := D2.trans d3
        have i2 := d3.1.2.1 b2 _ q2 i2
        have i3 := d3.1.2.1 b3 _ q3 i3
        have hb33 : h3.base ≤ b3 := by rw [d3.1.1]; exact hb23
        simp -implicitDefEqProofs only [go_sem, f0, f2, f3, stc_get i3, hb33]
        unfold Any2
        exact ⟨⟨k, ds, sr, da⟩, b2, b3, okd_of (by unfold in64; omega) x2 x3 x5, by simp -implicitDefEqProofs only [go_sem, f0], by simp -implicitDefEqProofs only [go_sem, f2], by simp -implicitDefEqProofs only [go_sem, f3], z23, q2, q3, n2, n3, by rw [H.set_base, d3.1.1]; exact hb22, hb33, by rw [H.set_get_ne _ _ _ _ z23]; exact i2, H.set_get_same _ _ _, Drew.set D3 n3 hs _⟩
      · simp -implicitDefEqProofs only [go_sem, f0]
        intro b7 hb7 n7
        have e7 := (Ext.refl h2).set n7 ⟨[i64 (-1), i64 7, i64 8], 3⟩
        have D3 := D2.ext e7
        simp -implicitDefEqProofs only [go_sem, f0]
        refine AC_of (src_n D3.2 (by omega)) ?_
        rintro _ h3 - ⟨⟨k, rfl, k0, k1, -⟩, d3⟩
        have hk := k1 (by omega)
        have D4 := D3.trans d3
        have q7 : b7 ≠ b := fun e => by subst e; exact D2.2.known n7
        have i7 := d3.1.2.1 b7 _ q7 (H.set_get_same _ _ _)
        have i2 := d3.1.2.1 b2 _ q2 (e7.2.g b2 _ i2)
        have i3 := d3.1.2.1 b3 _ q3 (e7.2.g b3 _ i3)
        have hb33 : h3.base ≤ b3 := by rw [d3.1.1]; exact hb23
        obtain ⟨k, rfl⟩ : ∃ n : Nat, k = n := ⟨k.toNat, by omega⟩
        obtain ⟨y, hy, hl⟩ : ∃ y : Int, in64 y ∧ ([i64 (-1), i64 7, i64 8] : List Value)[k]? = some (i64 y) := by
          obtain rfl | rfl | rfl : k = 0 ∨ k = 1 ∨ k = 2 := by omega
          all_goals exact ⟨_, in64_small (by omega), rfl⟩
        have e1 : ldc h3 b7 k 1 = some [i64 y] := by
          rw [ldc_get i7, if_pos (by simp; omega)]
          rw [List.getElem?_eq_some_iff] at hl
          obtain ⟨hl1, hl2⟩ := hl
          rw [List.drop_eq_getElem_cons hl1, hl2]; rfl
        simp -implicitDefEqProofs only [go_sem, f0, f2, f3, show (k : Int) < ((3 : Nat) : Int) by omega, Int.natCast_nonneg, Int.toNat_natCast, Nat.mul_one, e1, stc_get i3, hb33]
        unfold Any2
        exact ⟨⟨kd, y, sr, da⟩, b2, b3, okd_of x1 hy x3 x5, by simp -implicitDefEqProofs only [go_sem, f0], by simp -implicitDefEqProofs only [go_sem, f2], by simp -implicitDefEqProofs only [go_sem, f3], z23, q2, q3, n2, n3, by rw [H.set_base, d3.1.1]; exact hb22, hb33, by rw [H.set_get_ne _ _ _ _ z23]; exact i2, H.set_get_same _ _ _, Drew.set D4 n3 hs _⟩
      · simp -implicitDefEqProofs only [go_sem, f0]
        intro b7 hb7 n7
        have e7 := (Ext.refl h2).set n7 ⟨[i64 (-1), i64 7, i64 8, i64 1000000, i64 1000001], 5⟩
        have D3 := D2.ext e7
        simp -implicitDefEqProofs only [go_sem, f0]
        refine AC_of (src_n D3.2 (by omega)) ?_
        rintro _ h3 - ⟨⟨k, rfl, k0, k1, -⟩, d3⟩
        have hk := k1 (by omega)
        have D4 := D3.trans d3
        have q7 : b7 ≠ b := fun e => by subst e; exact D2.2.known n7
        have i7 := d3.1.2.1 b7 _ q7 (H.set_get_same _ _ _)
        have i2 := d3.1.2.1 b2 _ q2 (e7.2.g b2 _ i2)
        have i3 := d3.1.2.1 b3 _ q3 (e7.2.g b3 _ i3)
        have hb33 : h3.base ≤ b3 := by rw [d3.1.1]; exact hb23
        obtain ⟨k, rfl⟩ : ∃ n : Nat, k = n := ⟨k.toNat, by omega⟩
        obtain ⟨y, hy, hl⟩ : ∃ y : Int, in64 y ∧ ([i64 (-1), i64 7, i64 8, i64 1000000, i64 1000001] : List Value)[k]? = some (i64 y) := by
          obtain rfl | rfl | rfl | rfl | rfl : k = 0 ∨ k = 1 ∨ k = 2 ∨ k = 3 ∨ k = 4 := by omega
          all_goals exact ⟨_, in64_small (by omega), rfl⟩
        have e1 : ldc h3 b7 k 1 = some [i64 y] := by
          rw [ldc_get i7, if_pos (by simp; omega)]
          rw [List.getElem?_eq_some_iff] at hl
          obtain ⟨hl1, hl2⟩ := hl
          rw [List.drop_eq_getElem_cons hl1, hl2]; rfl
        simp -implicitDefEqProofs only [go_sem, f0, f2, f3, show (k : Int) < ((5 : Nat) : Int) by omega, Int.natCast_nonneg, Int.toNat_natCast, Nat.mul_one, e1, stc_get i3, hb33]
        unfold Any2
        exact ⟨⟨kd, ds, y, da⟩, b2, b3, okd_of x1 x2 hy x5, by simp -implicitDefEqProofs only [go_sem, f0], by simp -implicitDefEqProofs only [go_sem, f2], by simp -implicitDefEqProofs only [go_sem, f3], z23, q2, q3, n2, n3, by rw [H.set_base, d3.1.1]; exact hb22, hb33, by rw [H.set_get_ne _ _ _ _ z23]; exact i2, H.set_get_same _ _ _, Drew.set D4 n3 hs _⟩
      · simp -implicitDefEqProofs only [go_sem, f0]
        refine AC_of (src_n D2.2 (by omega)) ?_
        rintro _ h3 - ⟨⟨k, rfl, k0, k1, -⟩, d3⟩
        have hk := k1 (by omega)
        have D3 := D2.trans d3
        obtain ⟨k, rfl⟩ : ∃ n : Nat, k = n := ⟨k.toNat, by omega⟩
        simp -implicitDefEqProofs only [go_sem, f0, wrap_i64 (show -(9223372036854775808 : Int) ≤ ((7 + k : Nat) : Int) by omega) (show ((7 + k : Nat) : Int) < 9223372036854775808 by omega), show (7 : Int) + (k : Int) = ((7 + k : Nat) : Int) by omega]
        refine AC_of (src_bytes D3.2 (by omega)) ?_
        rintro _ h4 - ⟨⟨u, hu, rfl⟩, d4⟩
        have D4 := D3.trans d4
        have i2 := d4.1.2.1 b2 _ q2 (d3.1.2.1 b2 _ q2 i2)
        have i3 := d4.1.2.1 b3 _ q3 (d3.1.2.1 b3 _ q3 i3)
        have hb33 : h4.base ≤ b3 := by rw [d4.1.1, d3.1.1]; exact hb23
        simp -implicitDefEqProofs only [go_sem, f0, f2, f3, stc_get i3, hb33]
        unfold Any2
        exact ⟨⟨kd, ds, sr, u⟩, b2, b3, okd_of x1 x2 x3 (by omega), by simp -implicitDefEqProofs only [go_sem, f0], by simp -implicitDefEqProofs only [go_sem, f2], by simp -implicitDefEqProofs only [go_sem, f3], z23, q2, q3, n2, n3, by rw [H.set_base, d4.1.1, d3.1.1]; exact hb22, hb33, by rw [H.set_get_ne _ _ _ _ z23]; exact i2, H.set_get_same _ _ _, Drew.set D4 n3 hs _⟩
      · simp -implicitDefEqProofs only [go_sem, f0, f2, f3, stc_get i3, hb23]
        unfold Any2
        exact ⟨⟨kd, ds, sr, []⟩, b2, b3, okd_of x1 x2 x3 (by simp), by simp -implicitDefEqProofs only [go_sem, f0], by simp -implicitDefEqProofs only [go_sem, f2], by simp -implicitDefEqProofs only [go_sem, f3], z23, q2, q3, n2, n3, by rw [H.set_base]; exact hb22, hb23, by rw [H.set_get_ne _ _ _ _ z23]; exact i2, H.set_get_same _ _ _, Drew.set D2 n3 hs _⟩
  clear f0 f2 f3 g2 g3 D hb2 hb3 hx
  rintro f h' ⟨x, b2, b3, hx, f0, f2, f3, z23, q2, q3, n2, n3, hb2, hb3, g2, g3, D⟩
  have y23 : (b2 = b3) = False := eq_false z23
  have y32 : (b3 = b2) = False := eq_false z23.symm
  simp -implicitDefEqProofs only [go_sem, f0, f2, f3, ldc_get g2, ldc_get g3, stc_get g2, hb2, y23, y32]
  exact ⟨⟨x, hx, rfl⟩, Drew.set D n2 hs _⟩
/-- spec.l01Source -/
def b_spec_l01Source : C := (.seq (.ops [q 2 (.mv (.c (.pointer none)))])
 (.seq (.ops [q 5 (.mv (.t 0)), q 6 (.build [nils, (i64 0), (.int .u64 0), (i64 0)] [(0, 1, (.t 5)), (2, 1, (.c (.int .u64 88172645463325252)))]), ⟨(some 7), none, .box (.t 6)⟩, q 3 (.mv (.t 7))])
 (.seq (.seq (.ops [q 4 (.mv (.c (i64 0)))])
 (.block 0 (.loop (.seq (.seq (.ops [q 8 (.mv (.t 4)), q 9 (.mv (.t 0)), q 10 (.len (.t 9)), q 11 (.bin .lss (.t 8) (.t 10)), q 12 (.mv (.t 11)), qg 13 12 true (.mv (.t 4)), qg 14 12 true (.bin .lss (.t 13) (.c (i64 64))), q 15 (.pick (.t 12) (.t 14) (.c (.bool false)))])
 (.cond (.t 15) .skip (.exit 0)))
 (.seq (.block 1 (.dops true (.tk (q 18 (.mv (.t 3))) (.tk (q 19 (.mv (.t 3))) (.tk (q 20 (.nck (.t 19))) (.tk (q 21 (.fld 2 (.t 20))) (.tk (q 22 (.ld false 1 (.t 21))) (.tk (q 23 (.mv (.t 0))) (.tk (q 24 (.mv (.t 4))) (.tk (q 25 (.idx 1 (.t 23) (.t 24))) (.tk (q 26 (.ld false 1 (.t 25))) (.tk (q 27 (.cv .u64 (.t 26))) (.tk (q 28 (.bin .xor (.t 22) (.t 27))) (.tk (q 29 (.bin .mul (.t 28) (.c (.int .u64 1099511628211)))) (.tk (q 30 (.nck (.t 18))) (.tk (q 31 (.fld 2 (.t 30))) (.lt (⟨none, none, .st 1 (.t 31) (.t 29)⟩) .nil)))))))))))))))))
 (.ops [q 16 (.mv (.t 4)), q 17 (.bin .add (.t 16) (.c (i64 1))), q 4 (.mv (.t 17))]))))))
 (.seq (.ops [q 32 (.mv (.t 3)), q 33 (.mv (.t 0)), q 34 (.len (.t 33)), q 35 (.bin .quo (.t 34) (.c (i64 20))), q 36 (.nck (.t 32)), q 37 (.fld 3 (.t 36)), ⟨none, none, .st 1 (.t 37) (.t 35)⟩])
 (.seq (.seq (.ops [q 38 (.mv (.t 3)), q 39 (.nck (.t 38)), q 40 (.fld 3 (.t 39)), q 41 (.ld false 1 (.t 40)), q 42 (.bin .gtr (.t 41) (.c (i64 12)))])
 (.cond (.t 42) (.ops [q 43 (.mv (.t 3)), q 44 (.nck (.t 43)), q 45 (.fld 3 (.t 44)), ⟨none, none, .st 1 (.t 45) (.c (i64 12))⟩]) .skip))
 (.seq (.ops [q 46 (.mv (.t 3)), q 2 (.mv (.t 46))])
 .ret))))))
theorem w_spec_l01Source {args : List Value} {h : H} {Q : Value → H → Prop} (hl : args.length ≤ 47) (hk : wpc Tryz.prog b_spec_l01Source (retw [.tmp 2] Q) (argsFr args) h) : AC Tryz.prog 41 args h Q :=
  AC.of_wpc mixedOrders Tryz.func41 (by kernel_rfl) (by kernel_rfl : prepF Tryz.prog Tryz.f41 = some ⟨47, [.tmp 2], b_spec_l01Source⟩) hl hk

theorem source_ac {h : H} {v : Value} {l : List UInt8} (hv : Sl h v 1 (bys l)) (hn : l.length ≤ 1048576) : AC Tryz.prog 41 [v] h fun r h' => ∃ b, r = ptr b 0 ∧ h.get b = none ∧ Ext h h' ∧ Src v l h' b := by
  have hv0 := hv
  obtain ⟨a, c, vb, vo, rfl, hc, r2, r3⟩ := hv
  have hbl : (bys l).length = l.length := by simp [bys]
  rw [hbl] at r2 hv0
  skip
  refine w_spec_l01Source (by simp) ?_
  unfold b_spec_l01Source
  simp -implicitDefEqProofs only [go_sem, hbl]
  intro b hb n
  have hd : ∀ c', blk (.slice a l.length c) = some c' → c' ≠ b := fun c' hc' e => hv0.known c' hc' (by subst e; exact n)
  simp -implicitDefEqProofs only [go_sem, hbl]
  refine loopW_of (fun m f h' => ∃ (k : Nat) (mix : Int), m + k = 64 ∧ f 0 = .slice a l.length c ∧ f 3 = ptr b 0 ∧ f 4 = i64 k ∧ k ≤ l.length ∧ h' = h.set b ⟨[.slice a l.length c, i64 0, .int .u64 mix, i64 0], 4⟩) 64
    ⟨0, _, by simp, by simp -implicitDefEqProofs only [go_sem, hbl], by simp -implicitDefEqProofs only [go_sem, hbl], by simp -implicitDefEqProofs only [go_sem, hbl]; rfl, Nat.zero_le _, rfl⟩ ?_
  rintro m f h' ⟨k, mix, hm, f0, f3, f4, hk, rfl⟩
  skip
  by_cases hgo : k < l.length ∧ k < 64
  · obtain ⟨h1, h2⟩ := hgo
    have e1 := ldc_sub (Sub.set (Sub.refl h) n ⟨[.slice a l.length c, i64 0, .int .u64 mix, i64 0], 4⟩) (r3 k [u8 (l[k]).toNat] (by simp [bys, h1]))
    simp -implicitDefEqProofs only [go_sem, h1, show (k : Int) < 64 by omega, r2, e1, hb, wrap_i64 (show -(9223372036854775808 : Int) ≤ ((k : Int) + 1) by omega) (show ((k : Int) + 1) < 9223372036854775808 by omega), hbl, f0, f3, f4, Int.ofNat_lt, Int.natCast_nonneg]
    exact ⟨m - 1, by omega, _, Ext.refl _, k + 1, _, by omega, rfl, by omega, rfl⟩
  have fin : ∀ X, Ext h (h.set b X) ∧ Sl (h.set b X) (.slice a l.length c) 1 (bys l) := fun X => ⟨(Ext.refl h).set n X, hv0.ext ((Ext.refl h).set n X)⟩
  have hq : IntKind.i64.wrap ((l.length : Int).tdiv 20) = ((l.length / 20 : Nat) : Int) := by rw [Int.tdiv_eq_ediv_of_nonneg (by omega), wrap_i64 (by omega) (by omega)]; norm_cast
  by_cases h1 : k < l.length
  · have h2 : ¬ (k : Int) < 64 := by omega
    by_cases h12 : (12 : Int) < ((l.length / 20 : Nat) : Int)
    · simp -implicitDefEqProofs only [go_sem, h1, h2, hb, hq, h12, show ¬ ((20 : Int) = 0) by decide, hbl, f0, f3, f4, Int.ofNat_lt, Int.natCast_nonneg]
      exact ⟨b, rfl, n, (fin _).1, ⟨0, _, 12, H.set_get_same _ _ _, (fin _).2, hb, hn, Nat.zero_le _, by omega, hd⟩⟩
    · simp -implicitDefEqProofs only [go_sem, h1, h2, hb, hq, h12, show ¬ ((20 : Int) = 0) by decide, hbl, f0, f3, f4, Int.ofNat_lt, Int.natCast_nonneg]
      exact ⟨b, rfl, n, (fin _).1, ⟨0, _, _, H.set_get_same _ _ _, (fin _).2, hb, hn, Nat.zero_le _, by omega, hd⟩⟩
  · by_cases h12 : (12 : Int) < ((l.length / 20 : Nat) : Int)
    · simp -implicitDefEqProofs only [go_sem, h1, hb, hq, h12, show ¬ ((20 : Int) = 0) by decide, hbl, f0, f3, f4, Int.ofNat_lt, Int.natCast_nonneg]
      exact ⟨b, rfl, n, (fin _).1, ⟨0, _, 12, H.set_get_same _ _ _, (fin _).2, hb, hn, Nat.zero_le _, by omega, hd⟩⟩
    · simp -implicitDefEqProofs only [go_sem, h1, hb, hq, h12, show ¬ ((20 : Int) = 0) by decide, hbl, f0, f3, f4, Int.ofNat_lt, Int.natCast_nonneg]
      exact ⟨b, rfl, n, (fin _).1, ⟨0, _, _, H.set_get_same _ _ _, (fin _).2, hb, hn, Nat.zero_le _, by omega, hd⟩⟩
end Go.Proofs.YthjbhdmjfakfaaaGreatDoor
