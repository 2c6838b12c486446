/- A helper of this seat's claims (contracts of the functions): what it shows is shown for every input that its statements name, on no other condition. -/
import Derived.Test.YtdofcojbjcpikaaGreatDoorC15
import Derived.Test.YtdofcojbjcpikaaGreatDoorC11
import Derived.Test.YtdofcojbjcpikaaGreatDoorC11u
import Derived.Test.YtdofcojbjcpikaaGreatDoorC08
set_option linter.unusedVariables false
set_option linter.unusedSimpArgs false
set_option maxRecDepth 100000
namespace Go.Proofs.YtdofcojbjcpikaaGreatDoor
open Go.KH

/-! ## Ideals that are right -/
def idealMv (i : UIdeal) : List UMove := planB (i.steps.filter isW)
def idealOk (i : UIdeal) : Prop := (1 ≤ i.phase ∧ i.phase ≤ 5) ∧ imageOk i.base ∧ (0 ≤ i.held ∧ i.held ≤ 24) ∧
  (if i.phase = 1 then i.tries = 0 ∧ i.need = 0 ∧ i.stash = 0 ∧ i.left = 0 ∧ i.digest = [] ∧ i.steps = []
   else ((1 ≤ i.need ∧ i.need ≤ 20) ∧ (0 ≤ i.stash ∧ i.stash ≤ 4) ∧ i.held + i.need + i.stash ≤ 24 ∧ i.digest.length = 32 ∧ codeOf i.steps i.base.length = 0 ∧ (i.steps.length : Int) ≤ i.need) ∧
     (i.phase = 2 ∨ ((i.steps.length : Int) = i.need ∧ slots (idealMv i) ≤ i.stash)) ∧ (0 ≤ i.tries ∧ i.tries ≤ 2) ∧ (i.tries = 0 ∨ i.phase = 4) ∧ (0 ≤ i.left ∧ i.left ≤ (idealMv i).length) ∧ (i.left = 0 ∨ i.phase = 5))
noncomputable instance (i : UIdeal) : Decidable (idealOk i) := by unfold idealOk; infer_instance
/-- impl.isIdeal -/
def b_impl_isIdeal : C := (.seq (.ops [⟨(some 1), none, .box (.t 0)⟩, q 2 (.mv (.c (.bool false)))])
 (.seq (.seq (.ops [q 4 (.fld 0 (.t 1)), q 5 (.ld false 1 (.t 4)), ⟨(some 6), none, .call (.c (.func (.func 127) #[] #[])) [(.t 5), (.c (i64 1)), (.c (i64 5))]⟩, q 7 (.un .not (.t 6)), q 8 (.mv (.t 7)), qg 9 8 false (.fld 7 (.t 1)), qg 10 8 false (.ld false 1 (.t 9)), ⟨(some 11), (some (8, false)), .call (.c (.func (.func 68) #[] #[])) [(.t 10)]⟩, qg 12 8 false (.un .not (.t 11)), q 13 (.pick (.t 8) (.c (.bool true)) (.t 12)), q 14 (.mv (.t 13)), qg 15 14 false (.fld 4 (.t 1)), qg 16 14 false (.ld false 1 (.t 15)), ⟨(some 17), (some (14, false)), .call (.c (.func (.func 127) #[] #[])) [(.t 16), (.c (i64 0)), (.c (i64 24))]⟩, qg 18 14 false (.un .not (.t 17)), q 19 (.pick (.t 14) (.c (.bool true)) (.t 18))])
 (.cond (.t 19) (.seq (.ops [q 2 (.mv (.c (.bool false)))])
 .ret) .skip))
 (.seq (.seq (.ops [q 20 (.fld 0 (.t 1)), q 21 (.ld false 1 (.t 20)), q 22 (.bin .eql (.t 21) (.c (i64 1)))])
 (.cond (.t 22) (.seq (.ops [q 23 (.fld 1 (.t 1)), q 24 (.ld false 1 (.t 23)), q 25 (.bin .eql (.t 24) (.c (i64 0))), q 26 (.mv (.t 25)), qg 27 26 true (.fld 2 (.t 1)), qg 28 26 true (.ld false 1 (.t 27)), qg 29 26 true (.bin .eql (.t 28) (.c (i64 0))), q 30 (.pick (.t 26) (.t 29) (.c (.bool false))), q 31 (.mv (.t 30)), qg 32 31 true (.fld 3 (.t 1)), qg 33 31 true (.ld false 1 (.t 32)), qg 34 31 true (.bin .eql (.t 33) (.c (i64 0))), q 35 (.pick (.t 31) (.t 34) (.c (.bool false))), q 36 (.mv (.t 35)), qg 37 36 true (.fld 5 (.t 1)), qg 38 36 true (.ld false 1 (.t 37)), qg 39 36 true (.bin .eql (.t 38) (.c (i64 0))), q 40 (.pick (.t 36) (.t 39) (.c (.bool false))), q 41 (.mv (.t 40)), qg 42 41 true (.fld 6 (.t 1)), qg 43 41 true (.ld false 1 (.t 42)), qg 44 41 true (.bin .eql (.t 43) (.c (str []))), q 45 (.pick (.t 41) (.t 44) (.c (.bool false))), q 46 (.mv (.t 45)), qg 47 46 true (.fld 8 (.t 1)), qg 48 46 true (.ld false 1 (.t 47)), qg 49 46 true (.len (.t 48)), qg 50 46 true (.bin .eql (.t 49) (.c (i64 0))), q 51 (.pick (.t 46) (.t 50) (.c (.bool false))), q 2 (.mv (.t 51))])
 .ret) .skip))
 (.seq (.seq (.dops true (.tk (q 52 (.fld 2 (.t 1))) (.tk (q 53 (.ld false 1 (.t 52))) (.sq (⟨(some 54), none, .call (.c (.func (.func 127) #[] #[])) [(.t 53), (.c (i64 1)), (.c (i64 20))]⟩) (.tk (q 55 (.un .not (.t 54))) (.tk (q 56 (.mv (.t 55))) (.tk (qg 57 56 false (.fld 3 (.t 1))) (.tk (qg 58 56 false (.ld false 1 (.t 57))) (.sq (⟨(some 59), (some (56, false)), .call (.c (.func (.func 127) #[] #[])) [(.t 58), (.c (i64 0)), (.c (i64 4))]⟩) (.tk (qg 60 56 false (.un .not (.t 59))) (.tk (q 61 (.pick (.t 56) (.c (.bool true)) (.t 60))) (.tk (q 62 (.mv (.t 61))) (.tk (qg 63 62 false (.fld 4 (.t 1))) (.tk (qg 64 62 false (.ld false 1 (.t 63))) (.tk (qg 65 62 false (.fld 2 (.t 1))) (.tk (qg 66 62 false (.ld false 1 (.t 65))) (.tk (qg 67 62 false (.bin .add (.t 64) (.t 66))) (.tk (qg 68 62 false (.fld 3 (.t 1))) (.tk (qg 69 62 false (.ld false 1 (.t 68))) (.tk (qg 70 62 false (.bin .add (.t 67) (.t 69))) (.tk (qg 71 62 false (.bin .gtr (.t 70) (.c (i64 24)))) (.tk (q 72 (.pick (.t 62) (.c (.bool true)) (.t 71))) (.tk (q 73 (.mv (.t 72))) (.tk (qg 74 73 false (.fld 6 (.t 1))) (.tk (qg 75 73 false (.ld false 1 (.t 74))) (.tk (qg 76 73 false (.slen (.t 75))) (.tk (qg 77 73 false (.bin .neq (.t 76) (.c (i64 32)))) (.tk (q 78 (.pick (.t 73) (.c (.bool true)) (.t 77))) (.tk (q 79 (.mv (.t 78))) (.tk (qg 80 79 false (.fld 8 (.t 1))) (.tk (qg 81 79 false (.ld false 1 (.t 80))) (.tk (qg 82 79 false (.fld 7 (.t 1))) (.tk (qg 83 79 false (.ld false 1 (.t 82))) (.sq (⟨(some 84), (some (79, false)), .call (.c (.func (.func 69) #[] #[])) [(.t 83)]⟩) (.sq (⟨(some 85), (some (79, false)), .call (.c (.func (.func 98) #[] #[])) [(.t 81), (.t 84)]⟩) (.tk (qg 86 79 false (.bin .neq (.t 85) (.c (i64 0)))) (.tk (q 87 (.pick (.t 79) (.c (.bool true)) (.t 86))) (.tk (q 88 (.mv (.t 87))) (.tk (qg 89 88 false (.fld 8 (.t 1))) (.tk (qg 90 88 false (.ld false 1 (.t 89))) (.tk (qg 92 88 false (.fld 2 (.t 1))) (.tk (qg 93 88 false (.ld false 1 (.t 92))) (.sq (⟨(some 91), (some (88, false)), .call (.c (.func (.func 128) #[] #[])) [(.t 90)]⟩) (.tk (qg 94 88 false (.bin .gtr (.t 91) (.t 93))) (.tk (q 95 (.pick (.t 88) (.c (.bool true)) (.t 94))) .nil)))))))))))))))))))))))))))))))))))))))))))))
 (.cond (.t 95) (.seq (.ops [q 2 (.mv (.c (.bool false)))])
 .ret) .skip))
 (.seq (.ops [q 96 (.fld 8 (.t 1)), q 97 (.ld false 1 (.t 96)), ⟨(some 98), none, .call (.c (.func (.func 129) #[] #[])) [(.t 97)]⟩, q 3 (.mv (.t 98))])
 (.seq (.seq (.dops true (.tk (q 99 (.fld 0 (.t 1))) (.tk (q 100 (.ld false 1 (.t 99))) (.tk (q 101 (.bin .neq (.t 100) (.c (i64 2)))) (.tk (q 102 (.mv (.t 101))) (.tk (qg 103 102 true (.fld 8 (.t 1))) (.tk (qg 104 102 true (.ld false 1 (.t 103))) (.tk (qg 106 102 true (.fld 2 (.t 1))) (.tk (qg 107 102 true (.ld false 1 (.t 106))) (.sq (⟨(some 105), (some (102, true)), .call (.c (.func (.func 128) #[] #[])) [(.t 104)]⟩) (.tk (qg 108 102 true (.bin .neq (.t 105) (.t 107))) (.tk (qg 109 102 true (.mv (.t 108))) (.tk (qg 110 109 false (.mv (.t 3))) (.tk (qg 112 109 false (.fld 3 (.t 1))) (.tk (qg 113 109 false (.ld false 1 (.t 112))) (.sq (⟨(some 111), (some (109, false)), .call (.c (.func (.func 130) #[] #[])) [(.t 110)]⟩) (.tk (qg 114 109 false (.bin .gtr (.t 111) (.t 113))) (.tk (qg 115 102 true (.pick (.t 109) (.c (.bool true)) (.t 114))) (.tk (q 116 (.pick (.t 102) (.t 115) (.c (.bool false)))) .nil)))))))))))))))))))
 (.cond (.t 116) (.seq (.ops [q 2 (.mv (.c (.bool false)))])
 .ret) .skip))
 (.seq (.dops true (.tk (q 117 (.fld 1 (.t 1))) (.tk (q 118 (.ld false 1 (.t 117))) (.sq (⟨(some 119), none, .call (.c (.func (.func 127) #[] #[])) [(.t 118), (.c (i64 0)), (.c (i64 2))]⟩) (.tk (q 120 (.mv (.t 119))) (.tk (qg 121 120 true (.fld 1 (.t 1))) (.tk (qg 122 120 true (.ld false 1 (.t 121))) (.tk (qg 123 120 true (.bin .eql (.t 122) (.c (i64 0)))) (.tk (qg 124 120 true (.mv (.t 123))) (.tk (qg 125 124 false (.fld 0 (.t 1))) (.tk (qg 126 124 false (.ld false 1 (.t 125))) (.tk (qg 127 124 false (.bin .eql (.t 126) (.c (i64 4)))) (.tk (qg 128 120 true (.pick (.t 124) (.c (.bool true)) (.t 127))) (.tk (q 129 (.pick (.t 120) (.t 128) (.c (.bool false)))) (.tk (q 130 (.mv (.t 129))) (.tk (qg 131 130 true (.fld 5 (.t 1))) (.tk (qg 132 130 true (.ld false 1 (.t 131))) (.tk (qg 133 130 true (.mv (.t 3))) (.sq (⟨(some 134), (some (130, true)), .call (.c (.func (.func 131) #[] #[])) [(.t 133)]⟩) (.sq (⟨(some 135), (some (130, true)), .call (.c (.func (.func 127) #[] #[])) [(.t 132), (.c (i64 0)), (.t 134)]⟩) (.tk (q 136 (.pick (.t 130) (.t 135) (.c (.bool false)))) (.tk (q 137 (.mv (.t 136))) (.tk (qg 138 137 true (.fld 5 (.t 1))) (.tk (qg 139 137 true (.ld false 1 (.t 138))) (.tk (qg 140 137 true (.bin .eql (.t 139) (.c (i64 0)))) (.tk (qg 141 137 true (.mv (.t 140))) (.tk (qg 142 141 false (.fld 0 (.t 1))) (.tk (qg 143 141 false (.ld false 1 (.t 142))) (.tk (qg 144 141 false (.bin .eql (.t 143) (.c (i64 5)))) (.tk (qg 145 137 true (.pick (.t 141) (.c (.bool true)) (.t 144))) (.tk (q 146 (.pick (.t 137) (.t 145) (.c (.bool false)))) (.tk (q 2 (.mv (.t 146))) .nil))))))))))))))))))))))))))))))))
 .ret)))))))
theorem w_impl_isIdeal {args : List Value} {h : H} {Q : Value → H → Prop} (hl : args.length ≤ 147) (hk : wpc Tryz.prog b_impl_isIdeal (retw [.tmp 2] Q) (argsFr args) h) : AC Tryz.prog 55 args h Q :=
  AC.of_wpc mixedOrders Tryz.func55 (by kernel_rfl) (by kernel_rfl : prepF Tryz.prog Tryz.f55 = some ⟨147, [.tmp 2], b_impl_isIdeal⟩) hl hk

set_option maxHeartbeats 1600000 in
theorem isIdeal_pc {h : H} {cs : List Value} {i : UIdeal} (hv : RepR h (spIdeal i) cs) (hs : i.small) : PC Tryz.prog 55 [.agg cs.toArray] h (.bool (decide (idealOk i))) := by
  obtain ⟨vb, vs, rfl, sb, ss⟩ := ideal_r.1 hv
  obtain ⟨hs1, hs2⟩ := hs
  obtain ⟨ab, cb, rfl⟩ := sb.shape
  obtain ⟨a8, c8, rfl⟩ := ss.shape
  have hl1 : (strs i.base).length = i.base.length := by simp
  have hl2 : (i.steps.map UStep.cells).length = i.steps.length := by simp
  rw [hl1] at sb
  rw [hl2] at ss
  clear hv
  obtain ⟨phase, tries, need, stash, held, left, digest, base, steps⟩ := i
  simp only at *
  refine PC_of ?_
  skip
  refine w_impl_isIdeal (by simp) ?_
  unfold b_impl_isIdeal
  simp -implicitDefEqProofs only [go_sem, hl1, hl2]
  intro b1 hb_b1 n_b1
  simp -implicitDefEqProofs only [go_sem, hl1, hl2, hb_b1]
  refine (within_pc _ _ _ _).use ?_
  simp -implicitDefEqProofs only [go_sem, hl1, hl2, hb_b1]
  refine Br.of (fun h1 => ?_) (fun h1 => ?_)
  rotate_left
  · simp -implicitDefEqProofs only [go_sem, h1, hl1, hl2, hb_b1]
    exact ⟨((Ext.refl _).set' n_b1 _), dec_f fun hp => h1 hp.1⟩
  simp -implicitDefEqProofs only [go_sem, h1, hl1, hl2, hb_b1]
  refine (isImage_pc (sb.ext ((Ext.refl _).set' n_b1 _)) hs1).use ?_
  simp -implicitDefEqProofs only [go_sem, h1, hl1, hl2, hb_b1]
  refine Br.of (fun h2 => ?_) (fun h2 => ?_)
  rotate_left
  · simp -implicitDefEqProofs only [go_sem, h2, hl1, hl2, hb_b1]
    exact ⟨((Ext.refl _).set' n_b1 _), dec_f fun hp => h2 hp.2.1⟩
  simp -implicitDefEqProofs only [go_sem, h2, hl1, hl2, hb_b1]
  refine (within_pc _ _ _ _).use ?_
  simp -implicitDefEqProofs only [go_sem, h2, hl1, hl2, hb_b1]
  refine Br.of (fun h3 => ?_) (fun h3 => ?_)
  rotate_left
  · simp -implicitDefEqProofs only [go_sem, h3, hl1, hl2, hb_b1]
    exact ⟨((Ext.refl _).set' n_b1 _), dec_f fun hp => h3 hp.2.2.1⟩
  simp -implicitDefEqProofs only [go_sem, h3, hl1, hl2, hb_b1]
  by_cases p1 : phase = 1
  · subst p1
    simp -implicitDefEqProofs only [go_sem, hl1, hl2, hb_b1]
    have h0 : ∀ {l : List UStep}, (l.length : Int) = 0 ↔ l = [] := fun {l} => by cases l <;> simp; omega
    repeat' first | (refine Br.of (fun hc => ?_) (fun hc => ?_) <;> simp -implicitDefEqProofs only [go_sem, h0, *]) | (refine PC.use (within_pc _ _ _ _) ?_; simp -implicitDefEqProofs only [go_sem, h0, *])
    all_goals first | exact ((Ext.refl _).set' n_b1 _) | exact ⟨((Ext.refl _).set' n_b1 _), by first | (simp_all [idealOk]; done) | (simp_all [idealOk]; intros; omega)⟩
  simp -implicitDefEqProofs only [go_sem, p1, hl1, hl2, hb_b1]
  refine (within_pc _ _ _ _).use ?_
  simp -implicitDefEqProofs only [go_sem, p1, hl1, hl2, hb_b1]
  have no : ∀ {p : Prop}, ((if phase = 1 then tries = 0 ∧ need = 0 ∧ stash = 0 ∧ left = 0 ∧ digest = [] ∧ steps = [] else p) → p) := fun {p} hp => by rw [if_neg p1] at hp; exact hp
  refine Br.of (fun h5 => ?_) (fun h5 => ?_)
  rotate_left
  · simp -implicitDefEqProofs only [go_sem, h5, hl1, hl2, hb_b1]
    exact ⟨((Ext.refl _).set' n_b1 _), dec_f fun hp => h5 (no hp.2.2.2).1.1⟩
  simp -implicitDefEqProofs only [go_sem, h5, hl1, hl2, hb_b1]
  refine (within_pc _ _ _ _).use ?_
  simp -implicitDefEqProofs only [go_sem, h5, hl1, hl2, hb_b1]
  refine Br.of (fun h6 => ?_) (fun h6 => ?_)
  rotate_left
  · simp -implicitDefEqProofs only [go_sem, h6, hl1, hl2, hb_b1]
    exact ⟨((Ext.refl _).set' n_b1 _), dec_f fun hp => h6 (no hp.2.2.2).1.2.1⟩
  simp -implicitDefEqProofs only [go_sem, h6, wrap_i64 (show -(9223372036854775808 : Int) ≤ (held + need) by omega) (show (held + need) < 9223372036854775808 by omega), wrap_i64 (show -(9223372036854775808 : Int) ≤ (held + need + stash) by omega) (show (held + need + stash) < 9223372036854775808 by omega), hl1, hl2, hb_b1]
  by_cases h7 : held + need + stash ≤ 24
  rotate_left
  · simp -implicitDefEqProofs only [go_sem, show (24 : Int) < held + need + stash by omega, hl1, hl2, hb_b1]
    exact ⟨((Ext.refl _).set' n_b1 _), dec_f fun hp => h7 (no hp.2.2.2).1.2.2.1⟩
  by_cases h8 : digest.length = 32
  rotate_left
  · simp -implicitDefEqProofs only [go_sem, show ¬ (24 : Int) < held + need + stash by omega, show ¬ ((digest.length : Int) = 32) by omega, hl1, hl2, hb_b1]
    exact ⟨((Ext.refl _).set' n_b1 _), dec_f fun hp => h8 (no hp.2.2.2).1.2.2.2.1⟩
  simp -implicitDefEqProofs only [go_sem, show ¬ (24 : Int) < held + need + stash by omega, h8, show ((32 : Nat) : Int) = 32 from rfl, hl1, hl2, hb_b1]
  refine (sizeStr_pc (sb.ext ((Ext.refl _).set' n_b1 _))).use ?_
  simp -implicitDefEqProofs only [go_sem, hl1, hl2, hb_b1]
  refine (stepsCode_pc (ss.ext ((Ext.refl _).set' n_b1 _)) hs2).use ?_
  by_cases h9 : codeOf steps base.length = 0
  rotate_left
  · simp -implicitDefEqProofs only [go_sem, h9, hl1, hl2, hb_b1]
    exact ⟨((Ext.refl _).set' n_b1 _), dec_f fun hp => h9 (no hp.2.2.2).1.2.2.2.2.1⟩
  simp -implicitDefEqProofs only [go_sem, h9, hl1, hl2, hb_b1]
  refine (sizeStep_pc (ss.ext ((Ext.refl _).set' n_b1 _))).use ?_
  by_cases h10 : (steps.length : Int) ≤ need
  rotate_left
  · simp -implicitDefEqProofs only [go_sem, show need < (steps.length : Int) by omega, hl1, hl2, hb_b1]
    exact ⟨((Ext.refl _).set' n_b1 _), dec_f fun hp => h10 (no hp.2.2.2).1.2.2.2.2.2⟩
  simp -implicitDefEqProofs only [go_sem, show ¬ need < (steps.length : Int) by omega, hl1, hl2, hb_b1]
  have hok := (code_zero h9).1
  refine AC_of (planOf_ac (ss.ext ((Ext.refl _).set' n_b1 _)) hok.1 (steps_dst hok)) ?_
  rintro v h11 - ⟨e1, f1⟩
  refine opsw_abs (fun f => f 1 = ptr b1 0 ∧ f 98 = v) ⟨by simp -implicitDefEqProofs only [go_sem, hl1, hl2, hb_b1], by simp -implicitDefEqProofs only [go_sem, hl1, hl2, hb_b1]⟩ ?_
  rintro f0 ⟨f01, f98⟩
  have he : Ext h h11 := (((Ext.refl _).set' n_b1 _)).trans e1
  have g1 := e1.2.g b1 _ (H.set_get_same _ _ _)
  have s8 := ss.ext he
  have sm := f1.sl
  have hms := planB_len (steps_dst hok)
  have hfl := List.length_filter_le isW steps
  have h20 := hok.1
  have hq : idealOk ⟨phase, tries, need, stash, held, left, digest, base, steps⟩ ↔ (phase = 2 ∨ ((steps.length : Int) = need ∧ slots (planB (steps.filter isW)) ≤ stash)) ∧ (0 ≤ tries ∧ tries ≤ 2) ∧ (tries = 0 ∨ phase = 4) ∧ (0 ≤ left ∧ left ≤ (planB (steps.filter isW)).length) ∧ (left = 0 ∨ phase = 5) := by
    unfold idealOk idealMv
    simp only [if_neg p1]
    exact ⟨fun h => h.2.2.2.2, fun h => ⟨h1, h2, h3, ⟨h5, h6, h7, h8, h9, h10⟩, h⟩⟩
  generalize planB (steps.filter isW) = mv at *
  skip
  have hml : (mv.map UMove.cells).length = mv.length := by simp
  obtain ⟨am, cm, rfl⟩ := sm.shape
  rw [hml] at sm
  have hmb : mv.length ≤ 1048576 := by omega
  clear hfl no e1 f1 sb
  obtain ⟨bb, hb⟩ : ∃ bb, decide (idealOk ⟨phase, tries, need, stash, held, left, digest, base, steps⟩) = bb := ⟨_, rfl⟩
  rw [hb]
  have tail : ∀ {p : Prop}, (idealOk ⟨phase, tries, need, stash, held, left, digest, base, steps⟩ ↔ p) → ¬ p → Ext h h11 ∧ (Value.bool false = .bool bb) := fun hp hn => ⟨he, by rw [← hb]; exact dec_f fun h => hn (hp.1 h)⟩
  have done : idealOk ⟨phase, tries, need, stash, held, left, digest, base, steps⟩ → Ext h h11 ∧ (Value.bool true = .bool bb) := fun hp => ⟨he, by rw [← hb]; exact dec_t hp⟩
  by_cases p2 : phase = 2
  · have hr := hq.trans ⟨And.right, fun h => ⟨.inl p2, h⟩⟩
    clear hq h1
    subst p2
    simp -implicitDefEqProofs only [go_sem, ldc_get g1, hl1, hl2, hb_b1, f01, f98, hml]
    refine (within_pc _ _ _ _).use ?_
    by_cases t1 : 0 ≤ tries ∧ tries ≤ 2
    rotate_left
    · simp -implicitDefEqProofs only [go_sem, ldc_get g1, t1, hl1, hl2, hb_b1, f01, f98, hml]
      exact tail hr fun q => t1 q.1
    have t2 : decide (0 ≤ tries ∧ tries ≤ 2) = true := decide_eq_true t1
    by_cases t3 : tries = 0
    rotate_left
    · simp -implicitDefEqProofs only [go_sem, ldc_get g1, t2, t3, hl1, hl2, hb_b1, f01, f98, hml]
      exact tail hr fun q => q.2.1.elim t3 (by omega)
    have t0 : decide (tries = 0) = true := decide_eq_true t3
    simp -implicitDefEqProofs only [go_sem, ldc_get g1, t2, t0, hl1, hl2, hb_b1, f01, f98, hml]
    refine (sizeMove_pc sm).use ?_
    simp -implicitDefEqProofs only [go_sem, ldc_get g1, t2, t0, hl1, hl2, hb_b1, f01, f98, hml]
    refine (within_pc _ _ _ _).use ?_
    by_cases t5 : 0 ≤ left ∧ left ≤ mv.length
    rotate_left
    · simp -implicitDefEqProofs only [go_sem, ldc_get g1, t2, t0, t5, hl1, hl2, hb_b1, f01, f98, hml]
      exact tail hr fun q => t5 q.2.2.1
    have t8 : decide (0 ≤ left ∧ left ≤ (mv.length : Int)) = true := decide_eq_true t5
    by_cases t6 : left = 0
    · have t9 : decide (left = 0) = true := decide_eq_true t6
      simp -implicitDefEqProofs only [go_sem, ldc_get g1, t2, t0, t8, t9, hl1, hl2, hb_b1, f01, f98, hml]
      exact done (hr.2 ⟨t1, .inl t3, t5, .inl t6⟩)
    · simp -implicitDefEqProofs only [go_sem, ldc_get g1, t2, t0, t8, t6, hl1, hl2, hb_b1, f01, f98, hml]
      exact tail hr fun q => q.2.2.2.elim t6 (by omega)
  simp -implicitDefEqProofs only [go_sem, ldc_get g1, p2, hl1, hl2, hb_b1, f01, f98, hml]
  refine (sizeStep_pc s8).use ?_
  by_cases q1 : (steps.length : Int) = need
  rotate_left
  · simp -implicitDefEqProofs only [go_sem, ldc_get g1, p2, q1, hl1, hl2, hb_b1, f01, f98, hml]
    exact tail hq fun q => q.1.elim p2 fun q => q1 q.1
  have q4 : decide ((steps.length : Int) = need) = true := decide_eq_true q1
  have q5 : ((steps.length : Int) ≠ need) = False := eq_false fun h => h q1
  simp -implicitDefEqProofs only [go_sem, ldc_get g1, p2, q4, q5, hl1, hl2, hb_b1, f01, f98, hml]
  refine (slotsOf_pc sm hmb).use ?_
  by_cases q2 : slots mv ≤ stash
  rotate_left
  · simp -implicitDefEqProofs only [go_sem, ldc_get g1, p2, q4, q5, show stash < slots mv by omega, hl1, hl2, hb_b1, f01, f98, hml]
    exact tail hq fun q => q.1.elim p2 fun q => q2 q.2
  have hr := hq.trans ⟨And.right, fun h => ⟨.inr ⟨q1, q2⟩, h⟩⟩
  have q3 : ¬ stash < slots mv := by omega
  clear hq
  simp -implicitDefEqProofs only [go_sem, ldc_get g1, p2, q4, q5, q3, hl1, hl2, hb_b1, f01, f98, hml]
  refine (within_pc _ _ _ _).use ?_
  by_cases t1 : 0 ≤ tries ∧ tries ≤ 2
  rotate_left
  · simp -implicitDefEqProofs only [go_sem, ldc_get g1, p2, q4, q5, q3, t1, hl1, hl2, hb_b1, f01, f98, hml]
    exact tail hr fun q => t1 q.1
  have t2 : decide (0 ≤ tries ∧ tries ≤ 2) = true := decide_eq_true t1
  by_cases t3 : tries = 0
  · have t0 : decide (tries = 0) = true := decide_eq_true t3
    simp -implicitDefEqProofs only [go_sem, ldc_get g1, p2, q4, q5, q3, t2, t0, hl1, hl2, hb_b1, f01, f98, hml]
    refine (sizeMove_pc sm).use ?_
    simp -implicitDefEqProofs only [go_sem, ldc_get g1, p2, q4, q5, q3, t2, t0, hl1, hl2, hb_b1, f01, f98, hml]
    refine (within_pc _ _ _ _).use ?_
    by_cases t5 : 0 ≤ left ∧ left ≤ mv.length
    rotate_left
    · simp -implicitDefEqProofs only [go_sem, ldc_get g1, p2, q4, q5, q3, t2, t0, t5, hl1, hl2, hb_b1, f01, f98, hml]
      exact tail hr fun q => t5 q.2.2.1
    have t8 : decide (0 ≤ left ∧ left ≤ (mv.length : Int)) = true := decide_eq_true t5
    by_cases t6 : left = 0
    · have t9 : decide (left = 0) = true := decide_eq_true t6
      simp -implicitDefEqProofs only [go_sem, ldc_get g1, p2, q4, q5, q3, t2, t0, t8, t9, hl1, hl2, hb_b1, f01, f98, hml]
      exact done (hr.2 ⟨t1, .inl t3, t5, .inl t6⟩)
    by_cases t7 : phase = 5
    · simp -implicitDefEqProofs only [go_sem, ldc_get g1, p2, q4, q5, q3, t2, t0, t8, t6, t7, hl1, hl2, hb_b1, f01, f98, hml]
      exact done (hr.2 ⟨t1, .inl t3, t5, .inr t7⟩)
    · simp -implicitDefEqProofs only [go_sem, ldc_get g1, p2, q4, q5, q3, t2, t0, t8, t6, t7, hl1, hl2, hb_b1, f01, f98, hml]
      exact tail hr fun q => q.2.2.2.elim t6 t7
  by_cases t4 : phase = 4
  rotate_left
  · simp -implicitDefEqProofs only [go_sem, ldc_get g1, p2, q4, q5, q3, t2, t3, t4, hl1, hl2, hb_b1, f01, f98, hml]
    exact tail hr fun q => q.2.1.elim t3 t4
  simp -implicitDefEqProofs only [go_sem, ldc_get g1, p2, q4, q5, q3, t2, t3, t4, hl1, hl2, hb_b1, f01, f98, hml]
  refine (sizeMove_pc sm).use ?_
  simp -implicitDefEqProofs only [go_sem, ldc_get g1, p2, q4, q5, q3, t2, t3, t4, hl1, hl2, hb_b1, f01, f98, hml]
  refine (within_pc _ _ _ _).use ?_
  by_cases t5 : 0 ≤ left ∧ left ≤ mv.length
  rotate_left
  · simp -implicitDefEqProofs only [go_sem, ldc_get g1, p2, q4, q5, q3, t2, t3, t4, t5, hl1, hl2, hb_b1, f01, f98, hml]
    exact tail hr fun q => t5 q.2.2.1
  have t8 : decide (0 ≤ left ∧ left ≤ (mv.length : Int)) = true := decide_eq_true t5
  by_cases t6 : left = 0
  · have t9 : decide (left = 0) = true := decide_eq_true t6
    simp -implicitDefEqProofs only [go_sem, ldc_get g1, p2, q4, q5, q3, t2, t3, t4, t8, t9, hl1, hl2, hb_b1, f01, f98, hml]
    exact done (hr.2 ⟨t1, .inr t4, t5, .inl t6⟩)
  · simp -implicitDefEqProofs only [go_sem, ldc_get g1, p2, q4, q5, q3, t2, t3, t4, t8, t6, hl1, hl2, hb_b1, f01, f98, hml]
    exact tail hr fun q => q.2.2.2.elim t6 (by omega)
end Go.Proofs.YtdofcojbjcpikaaGreatDoor
