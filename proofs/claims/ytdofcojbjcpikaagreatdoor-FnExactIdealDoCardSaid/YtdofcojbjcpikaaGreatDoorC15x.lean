/- A helper of this seat's claims (contracts of the functions): what it shows is shown for every input that its statements name, on no other condition. -/
import Derived.Test.YtdofcojbjcpikaaGreatDoorC15r
set_option linter.unusedVariables false
set_option linter.unusedSimpArgs false
set_option maxRecDepth 100000
namespace Go.Proofs.YtdofcojbjcpikaaGreatDoor
open Go.KH

/-! ## Ideals that are right, in the reference -/
/-- spec.l15Moves -/
def b_spec_l15Moves : C := (.seq (.ops [⟨(some 1), none, .box (.t 0)⟩, q 2 (.mv (.c (i64 0))), q 3 (.mv (.c (i64 0))), q 4 (.mv (.c (i64 0)))])
 (.seq (.ops [q 6 (.fld 8 (.t 1)), q 7 (.ld false 1 (.t 6)), q 8 (.fld 7 (.t 1)), q 9 (.ld false 1 (.t 8)), q 10 (.len (.t 9)), ⟨(some 11), none, .call (.c (.func (.func 224) #[] #[])) [(.t 7), (.t 10)]⟩, ⟨(some 5), none, .alloc [nils, (i64 0)]⟩, ⟨none, none, .st 2 (.t 5) (.t 11)⟩])
 (.seq (.dops true (.tk (q 12 (.fld 0 (.t 5))) (.tk (q 13 (.ld false 1 (.t 12))) (.tk (q 14 (.len (.t 13))) (.tk (q 15 (.fld 0 (.t 5))) (.tk (q 16 (.ld false 1 (.t 15))) (.tk (q 18 (.fld 1 (.t 5))) (.tk (q 19 (.ld false 1 (.t 18))) (.sq (⟨(some 17), none, .call (.c (.func (.func 225) #[] #[])) [(.t 16)]⟩) (.tk (q 2 (.mv (.t 14))) (.tk (q 3 (.mv (.t 17))) (.tk (q 4 (.mv (.t 19))) .nil))))))))))))
 .ret)))
theorem w_spec_l15Moves {args : List Value} {h : H} {Q : Value → H → Prop} (hl : args.length ≤ 20) (hk : wpc Tryz.prog b_spec_l15Moves (retw [.tmp 2, .tmp 3, .tmp 4] Q) (argsFr args) h) : AC Tryz.prog 117 args h Q :=
  AC.of_wpc mixedOrders Tryz.func117 (by kernel_rfl) (by kernel_rfl : prepF Tryz.prog Tryz.f117 = some ⟨20, [.tmp 2, .tmp 3, .tmp 4], b_spec_l15Moves⟩) hl hk

theorem l15Moves_pc {h : H} {cs : List Value} {i : UIdeal} (hv : RepR h (spIdeal i) cs) (hs : i.small) : PC Tryz.prog 117 [.agg cs.toArray] h (.tuple #[i64 ((planOut i.steps i.base.length).1.length : Nat), i64 (slotsOf (planOut i.steps i.base.length).1), i64 (planOut i.steps i.base.length).2]) := by
  obtain ⟨vb, vs, rfl, sb, ss⟩ := ideal_r.1 hv
  obtain ⟨hs1, hs2⟩ := hs
  obtain ⟨ab, cb, rfl⟩ := sb.shape
  have hl1 : (strs i.base).length = i.base.length := by simp
  rw [hl1] at sb
  have h28 := planOut_small i.steps i.base.length
  refine PC_of ?_
  skip
  refine w_spec_l15Moves (by simp) ?_
  unfold b_spec_l15Moves
  simp -implicitDefEqProofs only [go_sem, hl1]
  intro b1 hb_b1 n_b1
  simp -implicitDefEqProofs only [go_sem, ss.one, hl1, hb_b1]
  refine AC_of (specPlanOf_ac (ss.ext ((Ext.refl _).set' n_b1 _)) hs2) ?_
  rintro _ h1 - ⟨e1, _, rfl, F⟩
  obtain ⟨v, rfl, f1⟩ := plan_f.1 F
  obtain ⟨am, cm, rfl⟩ := f1.shape
  have hml : ((planOut i.steps i.base.length).1.map UMove.cells).length = (planOut i.steps i.base.length).1.length := by simp
  rw [hml] at f1
  have he : Ext h h1 := (((Ext.refl _).set' n_b1 _)).trans e1
  simp -implicitDefEqProofs only [go_sem, hml, hl1, hb_b1]
  intro b5 hb_b5 n_b5
  simp -implicitDefEqProofs only [go_sem, hml, hl1, hb_b1, hb_b5]
  refine (specSlotsOf_pc (f1.sl.ext ((Ext.refl _).set n_b5 _)) (by omega)).use ?_
  simp -implicitDefEqProofs only [go_sem, hml, hl1, hb_b1, hb_b5]
  exact he.set n_b5 _
/-- spec.IdealRight -/
def b_spec_IdealRight : C := (.seq (.ops [⟨(some 1), none, .box (.t 0)⟩, q 2 (.mv (.c (.bool false)))])
 (.seq (.seq (.ops [q 6 (.fld 0 (.t 1)), q 7 (.ld false 1 (.t 6)), ⟨(some 8), none, .call (.c (.func (.func 116) #[] #[])) [(.t 7), (.c (i64 1)), (.c (i64 5))]⟩, q 9 (.un .not (.t 8)), q 10 (.mv (.t 9)), qg 11 10 false (.fld 7 (.t 1)), qg 12 10 false (.ld false 1 (.t 11)), ⟨(some 13), (some (10, false)), .call (.c (.func (.func 86) #[] #[])) [(.t 12)]⟩, qg 14 10 false (.un .not (.t 13)), q 15 (.pick (.t 10) (.c (.bool true)) (.t 14)), q 16 (.mv (.t 15)), qg 17 16 false (.fld 4 (.t 1)), qg 18 16 false (.ld false 1 (.t 17)), ⟨(some 19), (some (16, false)), .call (.c (.func (.func 116) #[] #[])) [(.t 18), (.c (i64 0)), (.c (i64 24))]⟩, qg 20 16 false (.un .not (.t 19)), q 21 (.pick (.t 16) (.c (.bool true)) (.t 20))])
 (.cond (.t 21) (.seq (.ops [q 2 (.mv (.c (.bool false)))])
 .ret) .skip))
 (.seq (.seq (.ops [q 22 (.fld 0 (.t 1)), q 23 (.ld false 1 (.t 22)), q 24 (.bin .eql (.t 23) (.c (i64 1)))])
 (.cond (.t 24) (.seq (.ops [q 25 (.fld 1 (.t 1)), q 26 (.ld false 1 (.t 25)), q 27 (.bin .eql (.t 26) (.c (i64 0))), q 28 (.mv (.t 27)), qg 29 28 true (.fld 2 (.t 1)), qg 30 28 true (.ld false 1 (.t 29)), qg 31 28 true (.bin .eql (.t 30) (.c (i64 0))), q 32 (.pick (.t 28) (.t 31) (.c (.bool false))), q 33 (.mv (.t 32)), qg 34 33 true (.fld 3 (.t 1)), qg 35 33 true (.ld false 1 (.t 34)), qg 36 33 true (.bin .eql (.t 35) (.c (i64 0))), q 37 (.pick (.t 33) (.t 36) (.c (.bool false))), q 38 (.mv (.t 37)), qg 39 38 true (.fld 5 (.t 1)), qg 40 38 true (.ld false 1 (.t 39)), qg 41 38 true (.bin .eql (.t 40) (.c (i64 0))), q 42 (.pick (.t 38) (.t 41) (.c (.bool false))), q 43 (.mv (.t 42)), qg 44 43 true (.fld 6 (.t 1)), qg 45 43 true (.ld false 1 (.t 44)), qg 46 43 true (.bin .eql (.t 45) (.c (str []))), q 47 (.pick (.t 43) (.t 46) (.c (.bool false))), q 48 (.mv (.t 47)), qg 49 48 true (.fld 8 (.t 1)), qg 50 48 true (.ld false 1 (.t 49)), qg 51 48 true (.len (.t 50)), qg 52 48 true (.bin .eql (.t 51) (.c (i64 0))), q 53 (.pick (.t 48) (.t 52) (.c (.bool false))), q 2 (.mv (.t 53))])
 .ret) .skip))
 (.seq (.seq (.ops [q 54 (.fld 2 (.t 1)), q 55 (.ld false 1 (.t 54)), ⟨(some 56), none, .call (.c (.func (.func 116) #[] #[])) [(.t 55), (.c (i64 1)), (.c (i64 20))]⟩, q 57 (.un .not (.t 56)), q 58 (.mv (.t 57)), qg 59 58 false (.fld 3 (.t 1)), qg 60 58 false (.ld false 1 (.t 59)), ⟨(some 61), (some (58, false)), .call (.c (.func (.func 116) #[] #[])) [(.t 60), (.c (i64 0)), (.c (i64 4))]⟩, qg 62 58 false (.un .not (.t 61)), q 63 (.pick (.t 58) (.c (.bool true)) (.t 62)), q 64 (.mv (.t 63)), qg 65 64 false (.fld 4 (.t 1)), qg 66 64 false (.ld false 1 (.t 65)), qg 67 64 false (.fld 2 (.t 1)), qg 68 64 false (.ld false 1 (.t 67)), qg 69 64 false (.bin .add (.t 66) (.t 68)), qg 70 64 false (.fld 3 (.t 1)), qg 71 64 false (.ld false 1 (.t 70)), qg 72 64 false (.bin .add (.t 69) (.t 71)), qg 73 64 false (.bin .gtr (.t 72) (.c (i64 24))), q 74 (.pick (.t 64) (.c (.bool true)) (.t 73)), q 75 (.mv (.t 74)), qg 76 75 false (.fld 6 (.t 1)), qg 77 75 false (.ld false 1 (.t 76)), qg 78 75 false (.slen (.t 77)), qg 79 75 false (.bin .neq (.t 78) (.c (i64 32))), q 80 (.pick (.t 75) (.c (.bool true)) (.t 79)), q 81 (.mv (.t 80)), qg 82 81 false (.fld 8 (.t 1)), qg 83 81 false (.ld false 1 (.t 82)), qg 84 81 false (.len (.t 83)), qg 85 81 false (.bin .gtr (.t 84) (.c (i64 20))), q 86 (.pick (.t 81) (.c (.bool true)) (.t 85))])
 (.cond (.t 86) (.seq (.ops [q 2 (.mv (.c (.bool false)))])
 .ret) .skip))
 (.seq (.ops [q 88 (.ld true 9 (.t 1)), ⟨(some 89), none, .call (.c (.func (.func 117) #[] #[])) [(.t 88)]⟩, q 87 (.mv (.t 89)), q 90 (.ext 0 (.t 87)), q 91 (.ext 1 (.t 87)), q 92 (.ext 2 (.t 87)), q 3 (.mv (.t 90)), q 4 (.mv (.t 91)), q 5 (.mv (.t 92))])
 (.seq (.seq (.ops [q 93 (.mv (.t 5)), q 94 (.bin .neq (.t 93) (.c (i64 0))), q 95 (.mv (.t 94)), qg 96 95 false (.fld 8 (.t 1)), qg 97 95 false (.ld false 1 (.t 96)), qg 98 95 false (.len (.t 97)), qg 99 95 false (.fld 2 (.t 1)), qg 100 95 false (.ld false 1 (.t 99)), qg 101 95 false (.bin .gtr (.t 98) (.t 100)), q 102 (.pick (.t 95) (.c (.bool true)) (.t 101)), q 103 (.mv (.t 102)), qg 104 103 false (.fld 0 (.t 1)), qg 105 103 false (.ld false 1 (.t 104)), qg 106 103 false (.bin .neq (.t 105) (.c (i64 2))), qg 107 103 false (.mv (.t 106)), qg 108 107 true (.fld 8 (.t 1)), qg 109 107 true (.ld false 1 (.t 108)), qg 110 107 true (.len (.t 109)), qg 111 107 true (.fld 2 (.t 1)), qg 112 107 true (.ld false 1 (.t 111)), qg 113 107 true (.bin .neq (.t 110) (.t 112)), qg 114 107 true (.mv (.t 113)), qg 115 114 false (.mv (.t 4)), qg 116 114 false (.fld 3 (.t 1)), qg 117 114 false (.ld false 1 (.t 116)), qg 118 114 false (.bin .gtr (.t 115) (.t 117)), qg 119 107 true (.pick (.t 114) (.c (.bool true)) (.t 118)), qg 120 103 false (.pick (.t 107) (.t 119) (.c (.bool false))), q 121 (.pick (.t 103) (.c (.bool true)) (.t 120))])
 (.cond (.t 121) (.seq (.ops [q 2 (.mv (.c (.bool false)))])
 .ret) .skip))
 (.seq (.ops [q 122 (.fld 1 (.t 1)), q 123 (.ld false 1 (.t 122)), ⟨(some 124), none, .call (.c (.func (.func 116) #[] #[])) [(.t 123), (.c (i64 0)), (.c (i64 2))]⟩, q 125 (.mv (.t 124)), qg 126 125 true (.fld 1 (.t 1)), qg 127 125 true (.ld false 1 (.t 126)), qg 128 125 true (.bin .eql (.t 127) (.c (i64 0))), qg 129 125 true (.mv (.t 128)), qg 130 129 false (.fld 0 (.t 1)), qg 131 129 false (.ld false 1 (.t 130)), qg 132 129 false (.bin .eql (.t 131) (.c (i64 4))), qg 133 125 true (.pick (.t 129) (.c (.bool true)) (.t 132)), q 134 (.pick (.t 125) (.t 133) (.c (.bool false))), q 135 (.mv (.t 134)), qg 136 135 true (.fld 5 (.t 1)), qg 137 135 true (.ld false 1 (.t 136)), qg 138 135 true (.mv (.t 3)), ⟨(some 139), (some (135, true)), .call (.c (.func (.func 116) #[] #[])) [(.t 137), (.c (i64 0)), (.t 138)]⟩, q 140 (.pick (.t 135) (.t 139) (.c (.bool false))), q 141 (.mv (.t 140)), qg 142 141 true (.fld 5 (.t 1)), qg 143 141 true (.ld false 1 (.t 142)), qg 144 141 true (.bin .eql (.t 143) (.c (i64 0))), qg 145 141 true (.mv (.t 144)), qg 146 145 false (.fld 0 (.t 1)), qg 147 145 false (.ld false 1 (.t 146)), qg 148 145 false (.bin .eql (.t 147) (.c (i64 5))), qg 149 141 true (.pick (.t 145) (.c (.bool true)) (.t 148)), q 150 (.pick (.t 141) (.t 149) (.c (.bool false))), q 2 (.mv (.t 150))])
 .ret)))))))
theorem w_spec_IdealRight {args : List Value} {h : H} {Q : Value → H → Prop} (hl : args.length ≤ 151) (hk : wpc Tryz.prog b_spec_IdealRight (retw [.tmp 2] Q) (argsFr args) h) : AC Tryz.prog 48 args h Q :=
  AC.of_wpc mixedOrders Tryz.func48 (by kernel_rfl) (by kernel_rfl : prepF Tryz.prog Tryz.f48 = some ⟨151, [.tmp 2], b_spec_IdealRight⟩) hl hk

set_option maxHeartbeats 1600000 in
theorem specIdealRight_pc {h : H} {cs : List Value} {i : UIdeal} (hv : RepR h (spIdeal i) cs) (hs : i.small) : PC Tryz.prog 48 [.agg cs.toArray] h (.bool (decide (idealOk i))) := by
  obtain ⟨vb, vs, rfl, sb, ss⟩ := ideal_r.1 hv
  obtain ⟨hs1, hs2⟩ := hs
  obtain ⟨ab, cb, rfl⟩ := sb.shape
  obtain ⟨a8, c8, rfl⟩ := ss.shape
  have hl1 : (strs i.base).length = i.base.length := by simp
  have hl2 : (i.steps.map UStep.cells).length = i.steps.length := by simp
  rw [hl1] at sb
  rw [hl2] at ss
  clear hv
  obtain ⟨phase, tries, need, stash, held, left, digest, base, steps⟩ := i
  simp only at *
  refine PC_of ?_
  skip
  refine w_spec_IdealRight (by simp) ?_
  unfold b_spec_IdealRight
  simp -implicitDefEqProofs only [go_sem, hl1, hl2]
  intro b1 hb_b1 n_b1
  simp -implicitDefEqProofs only [go_sem, hl1, hl2, hb_b1]
  refine (l03Is_pc _ _ _ _).use ?_
  simp -implicitDefEqProofs only [go_sem, hl1, hl2, hb_b1]
  refine Br.of (fun h1 => ?_) (fun h1 => ?_)
  rotate_left
  · simp -implicitDefEqProofs only [go_sem, h1, hl1, hl2, hb_b1]
    exact ⟨((Ext.refl _).set' n_b1 _), dec_f fun hp => h1 hp.1⟩
  simp -implicitDefEqProofs only [go_sem, h1, hl1, hl2, hb_b1]
  refine (specImageRight_pc (sb.ext ((Ext.refl _).set' n_b1 _)) hs1).use ?_
  simp -implicitDefEqProofs only [go_sem, h1, hl1, hl2, hb_b1]
  refine Br.of (fun h2 => ?_) (fun h2 => ?_)
  rotate_left
  · simp -implicitDefEqProofs only [go_sem, h2, hl1, hl2, hb_b1]
    exact ⟨((Ext.refl _).set' n_b1 _), dec_f fun hp => h2 hp.2.1⟩
  simp -implicitDefEqProofs only [go_sem, h2, hl1, hl2, hb_b1]
  refine (l03Is_pc _ _ _ _).use ?_
  simp -implicitDefEqProofs only [go_sem, h2, hl1, hl2, hb_b1]
  refine Br.of (fun h3 => ?_) (fun h3 => ?_)
  rotate_left
  · simp -implicitDefEqProofs only [go_sem, h3, hl1, hl2, hb_b1]
    exact ⟨((Ext.refl _).set' n_b1 _), dec_f fun hp => h3 hp.2.2.1⟩
  simp -implicitDefEqProofs only [go_sem, h3, hl1, hl2, hb_b1]
  by_cases p1 : phase = 1
  · subst p1
    simp -implicitDefEqProofs only [go_sem, hl1, hl2, hb_b1]
    have h0 : ∀ {l : List UStep}, (l.length : Int) = 0 ↔ l = [] := fun {l} => by cases l <;> simp; omega
    repeat' first | (refine Br.of (fun hc => ?_) (fun hc => ?_) <;> simp -implicitDefEqProofs only [go_sem, h0, *]) | (refine PC.use (l03Is_pc _ _ _ _) ?_; simp -implicitDefEqProofs only [go_sem, h0, *])
    all_goals first | exact ((Ext.refl _).set' n_b1 _) | exact ⟨((Ext.refl _).set' n_b1 _), by first | (simp_all [idealOk]; done) | (simp_all [idealOk]; intros; omega)⟩
  simp -implicitDefEqProofs only [go_sem, p1, hl1, hl2, hb_b1]
  refine (l03Is_pc _ _ _ _).use ?_
  simp -implicitDefEqProofs only [go_sem, p1, hl1, hl2, hb_b1]
  have no : ∀ {p : Prop}, ((if phase = 1 then tries = 0 ∧ need = 0 ∧ stash = 0 ∧ left = 0 ∧ digest = [] ∧ steps = [] else p) → p) := fun {p} hp => by rw [if_neg p1] at hp; exact hp
  refine Br.of (fun h5 => ?_) (fun h5 => ?_)
  rotate_left
  · simp -implicitDefEqProofs only [go_sem, h5, hl1, hl2, hb_b1]
    exact ⟨((Ext.refl _).set' n_b1 _), dec_f fun hp => h5 (no hp.2.2.2).1.1⟩
  simp -implicitDefEqProofs only [go_sem, h5, hl1, hl2, hb_b1]
  refine (l03Is_pc _ _ _ _).use ?_
  simp -implicitDefEqProofs only [go_sem, h5, hl1, hl2, hb_b1]
  refine Br.of (fun h6 => ?_) (fun h6 => ?_)
  rotate_left
  · simp -implicitDefEqProofs only [go_sem, h6, hl1, hl2, hb_b1]
    exact ⟨((Ext.refl _).set' n_b1 _), dec_f fun hp => h6 (no hp.2.2.2).1.2.1⟩
  simp -implicitDefEqProofs only [go_sem, h6, wrap_i64 (show -(9223372036854775808 : Int) ≤ (held + need) by omega) (show (held + need) < 9223372036854775808 by omega), wrap_i64 (show -(9223372036854775808 : Int) ≤ (held + need + stash) by omega) (show (held + need + stash) < 9223372036854775808 by omega), hl1, hl2, hb_b1]
  by_cases h7 : held + need + stash ≤ 24
  rotate_left
  · simp -implicitDefEqProofs only [go_sem, show (24 : Int) < held + need + stash by omega, hl1, hl2, hb_b1]
    exact ⟨((Ext.refl _).set' n_b1 _), dec_f fun hp => h7 (no hp.2.2.2).1.2.2.1⟩
  by_cases h8 : digest.length = 32
  rotate_left
  · simp -implicitDefEqProofs only [go_sem, show ¬ (24 : Int) < held + need + stash by omega, show ¬ ((digest.length : Int) = 32) by omega, hl1, hl2, hb_b1]
    exact ⟨((Ext.refl _).set' n_b1 _), dec_f fun hp => h8 (no hp.2.2.2).1.2.2.2.1⟩
  by_cases h20 : 20 < steps.length
  · simp -implicitDefEqProofs only [go_sem, show ¬ (24 : Int) < held + need + stash by omega, h8, show ((32 : Nat) : Int) = 32 from rfl, show (20 : Int) < (steps.length : Int) by omega, hl1, hl2, hb_b1]
    exact ⟨((Ext.refl _).set' n_b1 _), dec_f fun hp => by have := (code_zero (no hp.2.2.2).1.2.2.2.2.1).1.1; simp only at this; omega⟩
  simp -implicitDefEqProofs only [go_sem, show ¬ (24 : Int) < held + need + stash by omega, h8, show ((32 : Nat) : Int) = 32 from rfl, show ¬ (20 : Int) < (steps.length : Int) by omega, hl1, hl2, hb_b1]
  refine PC.use (l15Moves_pc (i := ⟨phase, tries, need, stash, held, left, digest, base, steps⟩) (ideal_r.2 ⟨_, _, rfl, sb.ext ((Ext.refl _).set' n_b1 _), ss.ext ((Ext.refl _).set' n_b1 _)⟩) ⟨hs1, hs2⟩) ?_
  have hpo : planOut steps base.length = if codeOf steps base.length = 0 then (planB (steps.filter isW), 0) else ([], codeOf steps base.length) := by unfold planOut; rw [if_neg (by omega)]
  rw [hpo]
  refine opsw_abs (fun f => f 1 = ptr b1 0 ∧ f 89 = .tuple #[i64 ((if codeOf steps base.length = 0 then (planB (steps.filter isW), 0) else ([], codeOf steps base.length)).1.length : Nat), i64 (slotsOf (if codeOf steps base.length = 0 then (planB (steps.filter isW), 0) else ([], codeOf steps base.length)).1), i64 (if codeOf steps base.length = 0 then (planB (steps.filter isW), 0) else ([], codeOf steps base.length)).2]) ⟨by simp -implicitDefEqProofs only [go_sem, hl1, hl2, hb_b1], by simp -implicitDefEqProofs only [go_sem, hl1, hl2, hb_b1]⟩ ?_
  rintro f0 ⟨f01, f89⟩
  have he : Ext h (h.set b1 ⟨[i64 phase, i64 tries, i64 need, i64 stash, i64 held, i64 left, str digest, .slice ab base.length cb, .slice a8 steps.length c8], 9⟩) := ((Ext.refl _).set' n_b1 _)
  by_cases h9 : codeOf steps base.length = 0
  rotate_left
  · rw [if_neg h9] at f89
    simp -implicitDefEqProofs only [go_sem, f01, f89, h9, hl1, hl2, hb_b1]
    exact ⟨he, dec_f fun hp => h9 (no hp.2.2.2).1.2.2.2.2.1⟩
  rw [if_pos h9] at f89
  simp only at f89
  have hok := (code_zero h9).1
  by_cases h10 : (steps.length : Int) ≤ need
  rotate_left
  · simp -implicitDefEqProofs only [go_sem, f01, f89, show need < (steps.length : Int) by omega, hl1, hl2, hb_b1]
    exact ⟨he, dec_f fun hp => h10 (no hp.2.2.2).1.2.2.2.2.2⟩
  have h10' : ¬ need < (steps.length : Int) := by omega
  have hms := planB_len (steps_dst hok)
  have hfl := List.length_filter_le isW steps
  have h20 := hok.1
  have hq : idealOk ⟨phase, tries, need, stash, held, left, digest, base, steps⟩ ↔ (phase = 2 ∨ ((steps.length : Int) = need ∧ slots (planB (steps.filter isW)) ≤ stash)) ∧ (0 ≤ tries ∧ tries ≤ 2) ∧ (tries = 0 ∨ phase = 4) ∧ (0 ≤ left ∧ left ≤ (planB (steps.filter isW)).length) ∧ (left = 0 ∨ phase = 5) := by
    unfold idealOk idealMv
    simp only [if_neg p1]
    exact ⟨fun h => h.2.2.2.2, fun h => ⟨h1, h2, h3, ⟨h5, h6, h7, h8, h9, h10⟩, h⟩⟩
  generalize planB (steps.filter isW) = mv at *
  have hsl : slotsOf mv = slots mv := by unfold slotsOf; rw [if_pos (by omega)]
  skip
  have hmb : mv.length ≤ 1048576 := by omega
  clear hfl no sb ss hpo
  obtain ⟨bb, hb⟩ : ∃ bb, decide (idealOk ⟨phase, tries, need, stash, held, left, digest, base, steps⟩) = bb := ⟨_, rfl⟩
  rw [hb]
  have tail : ∀ {p : Prop}, (idealOk ⟨phase, tries, need, stash, held, left, digest, base, steps⟩ ↔ p) → ¬ p → Ext h (h.set b1 ⟨[i64 phase, i64 tries, i64 need, i64 stash, i64 held, i64 left, str digest, .slice ab base.length cb, .slice a8 steps.length c8], 9⟩) ∧ (Value.bool false = .bool bb) := fun hp hn => ⟨he, by rw [← hb]; exact dec_f fun h => hn (hp.1 h)⟩
  have done : idealOk ⟨phase, tries, need, stash, held, left, digest, base, steps⟩ → Ext h (h.set b1 ⟨[i64 phase, i64 tries, i64 need, i64 stash, i64 held, i64 left, str digest, .slice ab base.length cb, .slice a8 steps.length c8], 9⟩) ∧ (Value.bool true = .bool bb) := fun hp => ⟨he, by rw [← hb]; exact dec_t hp⟩
  by_cases p2 : phase = 2
  · have hr := hq.trans ⟨And.right, fun h => ⟨.inl p2, h⟩⟩
    clear hq h1
    subst p2
    simp -implicitDefEqProofs only [go_sem, hl1, hl2, hb_b1, f01, f89, hsl, h10']
    refine (l03Is_pc _ _ _ _).use ?_
    by_cases t1 : 0 ≤ tries ∧ tries ≤ 2
    rotate_left
    · simp -implicitDefEqProofs only [go_sem, t1, hl1, hl2, hb_b1, f01, f89, hsl, h10']
      exact tail hr fun q => t1 q.1
    have t2 : decide (0 ≤ tries ∧ tries ≤ 2) = true := decide_eq_true t1
    by_cases t3 : tries = 0
    rotate_left
    · simp -implicitDefEqProofs only [go_sem, t2, t3, hl1, hl2, hb_b1, f01, f89, hsl, h10']
      exact tail hr fun q => q.2.1.elim t3 (by omega)
    have t0 : decide (tries = 0) = true := decide_eq_true t3
    simp -implicitDefEqProofs only [go_sem, t2, t0, hl1, hl2, hb_b1, f01, f89, hsl, h10']
    simp -implicitDefEqProofs only [go_sem, t2, t0, hl1, hl2, hb_b1, f01, f89, hsl, h10']
    refine (l03Is_pc _ _ _ _).use ?_
    by_cases t5 : 0 ≤ left ∧ left ≤ mv.length
    rotate_left
    · simp -implicitDefEqProofs only [go_sem, t2, t0, t5, hl1, hl2, hb_b1, f01, f89, hsl, h10']
      exact tail hr fun q => t5 q.2.2.1
    have t8 : decide (0 ≤ left ∧ left ≤ (mv.length : Int)) = true := decide_eq_true t5
    by_cases t6 : left = 0
    · have t9 : decide (left = 0) = true := decide_eq_true t6
      simp -implicitDefEqProofs only [go_sem, t2, t0, t8, t9, hl1, hl2, hb_b1, f01, f89, hsl, h10']
      exact done (hr.2 ⟨t1, .inl t3, t5, .inl t6⟩)
    · simp -implicitDefEqProofs only [go_sem, t2, t0, t8, t6, hl1, hl2, hb_b1, f01, f89, hsl, h10']
      exact tail hr fun q => q.2.2.2.elim t6 (by omega)
  by_cases q1 : (steps.length : Int) = need
  rotate_left
  · simp -implicitDefEqProofs only [go_sem, p2, q1, hl1, hl2, hb_b1, f01, f89, hsl, h10']
    exact tail hq fun q => q.1.elim p2 fun q => q1 q.1
  have q4 : decide ((steps.length : Int) = need) = true := decide_eq_true q1
  have q5 : ((steps.length : Int) ≠ need) = False := eq_false fun h => h q1
  by_cases q2 : slots mv ≤ stash
  rotate_left
  · simp -implicitDefEqProofs only [go_sem, p2, q4, q5, show stash < slots mv by omega, hl1, hl2, hb_b1, f01, f89, hsl, h10']
    exact tail hq fun q => q.1.elim p2 fun q => q2 q.2
  have hr := hq.trans ⟨And.right, fun h => ⟨.inr ⟨q1, q2⟩, h⟩⟩
  have q3 : ¬ stash < slots mv := by omega
  clear hq
  simp -implicitDefEqProofs only [go_sem, p2, q4, q5, q3, hl1, hl2, hb_b1, f01, f89, hsl, h10']
  refine (l03Is_pc _ _ _ _).use ?_
  by_cases t1 : 0 ≤ tries ∧ tries ≤ 2
  rotate_left
  · simp -implicitDefEqProofs only [go_sem, p2, q4, q5, q3, t1, hl1, hl2, hb_b1, f01, f89, hsl, h10']
    exact tail hr fun q => t1 q.1
  have t2 : decide (0 ≤ tries ∧ tries ≤ 2) = true := decide_eq_true t1
  by_cases t3 : tries = 0
  · have t0 : decide (tries = 0) = true := decide_eq_true t3
    simp -implicitDefEqProofs only [go_sem, p2, q4, q5, q3, t2, t0, hl1, hl2, hb_b1, f01, f89, hsl, h10']
    simp -implicitDefEqProofs only [go_sem, p2, q4, q5, q3, t2, t0, hl1, hl2, hb_b1, f01, f89, hsl, h10']
    refine (l03Is_pc _ _ _ _).use ?_
    by_cases t5 : 0 ≤ left ∧ left ≤ mv.length
    rotate_left
    · simp -implicitDefEqProofs only [go_sem, p2, q4, q5, q3, t2, t0, t5, hl1, hl2, hb_b1, f01, f89, hsl, h10']
      exact tail hr fun q => t5 q.2.2.1
    have t8 : decide (0 ≤ left ∧ left ≤ (mv.length : Int)) = true := decide_eq_true t5
    by_cases t6 : left = 0
    · have t9 : decide (left = 0) = true := decide_eq_true t6
      simp -implicitDefEqProofs only [go_sem, p2, q4, q5, q3, t2, t0, t8, t9, hl1, hl2, hb_b1, f01, f89, hsl, h10']
      exact done (hr.2 ⟨t1, .inl t3, t5, .inl t6⟩)
    by_cases t7 : phase = 5
    · have d7 : decide (phase = 5) = true := decide_eq_true t7
      simp -implicitDefEqProofs only [go_sem, p2, q4, q5, q3, t2, t0, t8, t6, d7, hl1, hl2, hb_b1, f01, f89, hsl, h10']
      exact done (hr.2 ⟨t1, .inl t3, t5, .inr t7⟩)
    · simp -implicitDefEqProofs only [go_sem, p2, q4, q5, q3, t2, t0, t8, t6, t7, hl1, hl2, hb_b1, f01, f89, hsl, h10']
      exact tail hr fun q => q.2.2.2.elim t6 t7
  by_cases t4 : phase = 4
  rotate_left
  · simp -implicitDefEqProofs only [go_sem, p2, q4, q5, q3, t2, t3, t4, hl1, hl2, hb_b1, f01, f89, hsl, h10']
    exact tail hr fun q => q.2.1.elim t3 t4
  have d4 : decide (phase = 4) = true := decide_eq_true t4
  have d5 : decide (phase = 5) = false := decide_eq_false (by omega)
  simp -implicitDefEqProofs only [go_sem, p2, q4, q5, q3, t2, t3, d4, d5, hl1, hl2, hb_b1, f01, f89, hsl, h10']
  simp -implicitDefEqProofs only [go_sem, p2, q4, q5, q3, t2, t3, d4, d5, hl1, hl2, hb_b1, f01, f89, hsl, h10']
  refine (l03Is_pc _ _ _ _).use ?_
  by_cases t5 : 0 ≤ left ∧ left ≤ mv.length
  rotate_left
  · simp -implicitDefEqProofs only [go_sem, p2, q4, q5, q3, t2, t3, d4, d5, t5, hl1, hl2, hb_b1, f01, f89, hsl, h10']
    exact tail hr fun q => t5 q.2.2.1
  have t8 : decide (0 ≤ left ∧ left ≤ (mv.length : Int)) = true := decide_eq_true t5
  by_cases t6 : left = 0
  · have t9 : decide (left = 0) = true := decide_eq_true t6
    simp -implicitDefEqProofs only [go_sem, p2, q4, q5, q3, t2, t3, d4, d5, t8, t9, hl1, hl2, hb_b1, f01, f89, hsl, h10']
    exact done (hr.2 ⟨t1, .inr t4, t5, .inl t6⟩)
  · simp -implicitDefEqProofs only [go_sem, p2, q4, q5, q3, t2, t3, d4, d5, t8, t6, hl1, hl2, hb_b1, f01, f89, hsl, h10']
    exact tail hr fun q => q.2.2.2.elim t6 (by omega)
end Go.Proofs.YtdofcojbjcpikaaGreatDoor
