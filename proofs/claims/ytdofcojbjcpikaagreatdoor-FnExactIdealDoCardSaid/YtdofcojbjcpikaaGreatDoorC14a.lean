/- A helper of this seat's claims (contracts of the functions): what it shows is shown for every input that its statements name, on no other condition. -/
import Derived.Test.YtdofcojbjcpikaaGreatDoorC06
set_option linter.unusedVariables false
set_option linter.unusedSimpArgs false
set_option maxRecDepth 100000
namespace Go.Proofs.YtdofcojbjcpikaaGreatDoor
open Go.KH

/-! ## Commands -/
def cmdOk (c : UCmd) : Prop := (1 ≤ c.kind ∧ c.kind ≤ 11) ∧ (if c.kind = 1 then 1 ≤ c.a ∧ c.a ≤ 20 else if c.kind = 9 then 1 ≤ c.a ∧ c.a ≤ 24 else if c.kind = 7 then 0 ≤ c.a ∧ c.a ≤ 1000000 else c.a = 0) ∧
  (if c.kind = 1 then 0 ≤ c.b ∧ c.b ≤ 4 else c.b = 0) ∧ (if c.kind = 1 then c.digest.length = 32 else c.digest = []) ∧ (if c.kind = 2 then stepOk c.step 8 else c.step.kind = 0 ∧ c.step.dst = 0 ∧ c.step.src = 0 ∧ c.step.data = [])
instance (c : UCmd) : Decidable (cmdOk c) := by unfold cmdOk; infer_instance
/-- impl.isCmd -/
def b_impl_isCmd : C := (.seq (.ops [⟨(some 1), none, .box (.t 0)⟩, q 2 (.mv (.c (.bool false)))])
 (.seq (.dops true (.tk (q 7 (.fld 1 (.t 1))) (.tk (q 8 (.ld false 1 (.t 7))) (.tk (q 9 (.bin .eql (.t 8) (.c (i64 0)))) (.tk (q 10 (.fld 2 (.t 1))) (.tk (q 11 (.ld false 1 (.t 10))) (.tk (q 12 (.bin .eql (.t 11) (.c (i64 0)))) (.tk (q 13 (.fld 3 (.t 1))) (.tk (q 14 (.ld false 1 (.t 13))) (.tk (q 15 (.bin .eql (.t 14) (.c (str [])))) (.tk (q 16 (.fld 4 (.t 1))) (.tk (q 17 (.ld true 4 (.t 16))) (.tk (q 18 (.build [(i64 0), (i64 0), (i64 0), (str [])] [])) (.tk (q 19 (.eqa false [.i, .i, .i, .s] (.t 17) (.t 18))) (.tk (q 3 (.mv (.t 9))) (.tk (q 4 (.mv (.t 12))) (.tk (q 5 (.mv (.t 15))) (.tk (q 6 (.mv (.t 19))) .nil))))))))))))))))))
 (.seq (.seq (.ops [q 20 (.fld 0 (.t 1)), q 21 (.ld false 1 (.t 20))])
 (.block 0 (.seq (.ops [q 23 (.bin .eql (.t 21) (.c (i64 1))), q 22 (.mv (.t 23))])
 (.cond (.t 22) (.dops true (.tk (q 24 (.fld 1 (.t 1))) (.tk (q 25 (.ld false 1 (.t 24))) (.tk (q 27 (.fld 2 (.t 1))) (.tk (q 28 (.ld false 1 (.t 27))) (.tk (q 30 (.fld 3 (.t 1))) (.tk (q 31 (.ld false 1 (.t 30))) (.tk (q 32 (.slen (.t 31))) (.tk (q 33 (.bin .eql (.t 32) (.c (i64 32)))) (.sq (⟨(some 26), none, .call (.c (.func (.func 127) #[] #[])) [(.t 25), (.c (i64 1)), (.c (i64 20))]⟩) (.sq (⟨(some 29), none, .call (.c (.func (.func 127) #[] #[])) [(.t 28), (.c (i64 0)), (.c (i64 4))]⟩) (.tk (q 3 (.mv (.t 26))) (.tk (q 4 (.mv (.t 29))) (.tk (q 5 (.mv (.t 33))) .nil)))))))))))))) (.seq (.ops [q 35 (.bin .eql (.t 21) (.c (i64 2))), q 34 (.mv (.t 35))])
 (.cond (.t 34) (.ops [q 36 (.fld 4 (.t 1)), q 37 (.ld true 4 (.t 36)), ⟨(some 38), none, .call (.c (.func (.func 132) #[] #[])) [(.t 37), (.c (i64 8))]⟩, q 6 (.mv (.t 38))]) (.seq (.ops [q 40 (.bin .eql (.t 21) (.c (i64 9))), q 39 (.mv (.t 40))])
 (.cond (.t 39) (.ops [q 41 (.fld 1 (.t 1)), q 42 (.ld false 1 (.t 41)), ⟨(some 43), none, .call (.c (.func (.func 127) #[] #[])) [(.t 42), (.c (i64 1)), (.c (i64 24))]⟩, q 3 (.mv (.t 43))]) (.seq (.ops [q 45 (.bin .eql (.t 21) (.c (i64 7))), q 44 (.mv (.t 45))])
 (.cond (.t 44) (.ops [q 46 (.fld 1 (.t 1)), q 47 (.ld false 1 (.t 46)), ⟨(some 48), none, .call (.c (.func (.func 133) #[] #[])) [(.t 47)]⟩, q 3 (.mv (.t 48))]) .skip))))))))))
 (.seq (.ops [q 49 (.fld 0 (.t 1)), q 50 (.ld false 1 (.t 49)), ⟨(some 51), none, .call (.c (.func (.func 127) #[] #[])) [(.t 50), (.c (i64 1)), (.c (i64 11))]⟩, q 52 (.mv (.t 51)), qg 53 52 true (.mv (.t 3)), q 54 (.pick (.t 52) (.t 53) (.c (.bool false))), q 55 (.mv (.t 54)), qg 56 55 true (.mv (.t 4)), q 57 (.pick (.t 55) (.t 56) (.c (.bool false))), q 58 (.mv (.t 57)), qg 59 58 true (.mv (.t 5)), q 60 (.pick (.t 58) (.t 59) (.c (.bool false))), q 61 (.mv (.t 60)), qg 62 61 true (.mv (.t 6)), q 63 (.pick (.t 61) (.t 62) (.c (.bool false))), q 2 (.mv (.t 63))])
 .ret))))
theorem w_impl_isCmd {args : List Value} {h : H} {Q : Value → H → Prop} (hl : args.length ≤ 64) (hk : wpc Tryz.prog b_impl_isCmd (retw [.tmp 2] Q) (argsFr args) h) : AC Tryz.prog 56 args h Q :=
  AC.of_wpc mixedOrders Tryz.func56 (by kernel_rfl) (by kernel_rfl : prepF Tryz.prog Tryz.f56 = some ⟨64, [.tmp 2], b_impl_isCmd⟩) hl hk

theorem isCmd_pc (h : H) (c : UCmd) : PC Tryz.prog 56 [.agg c.cells.toArray] h (.bool (decide (cmdOk c))) := by
  obtain ⟨kind, a, b, digest, ⟨k, d, s, data⟩⟩ := c
  refine PC_of ?_
  refine w_impl_isCmd (by simp) ?_
  unfold b_impl_isCmd
  simp -implicitDefEqProofs only [go_sem]
  intro b1 hb_b1 n_b1
  simp -implicitDefEqProofs only [go_sem, hb_b1]
  by_cases h1 : kind = 1
  · subst h1
    simp -implicitDefEqProofs only [go_sem, hb_b1]
    repeat' first | (refine Br.of (fun hc => ?_) (fun hc => ?_) <;> simp -implicitDefEqProofs only [go_sem, *]) | (refine PC.use (within_pc _ _ _ _) ?_; simp -implicitDefEqProofs only [go_sem, *])
    all_goals first | exact ((Ext.refl _).set' n_b1 _) | exact ⟨((Ext.refl _).set' n_b1 _), by first | (simp_all [cmdOk]; done) | (simp_all [cmdOk]; intros; omega)⟩
  by_cases h2 : kind = 2
  · subst h2
    simp -implicitDefEqProofs only [go_sem, hb_b1]
    refine (isStep_pc _ ⟨k, d, s, data⟩ (by unfold in64; omega) (by omega)).use ?_
    simp -implicitDefEqProofs only [go_sem, hb_b1]
    repeat' first | (refine Br.of (fun hc => ?_) (fun hc => ?_) <;> simp -implicitDefEqProofs only [go_sem, *]) | (refine PC.use (within_pc _ _ _ _) ?_; simp -implicitDefEqProofs only [go_sem, *])
    all_goals first | exact ((Ext.refl _).set' n_b1 _) | exact ⟨((Ext.refl _).set' n_b1 _), by first | (simp_all [cmdOk]; done) | (simp_all [cmdOk]; intros; omega)⟩
  by_cases h9 : kind = 9
  · subst h9
    simp -implicitDefEqProofs only [go_sem, hb_b1]
    repeat' first | (refine Br.of (fun hc => ?_) (fun hc => ?_) <;> simp -implicitDefEqProofs only [go_sem, *]) | (refine PC.use (within_pc _ _ _ _) ?_; simp -implicitDefEqProofs only [go_sem, *])
    all_goals first | exact ((Ext.refl _).set' n_b1 _) | exact ⟨((Ext.refl _).set' n_b1 _), by first | (simp_all [cmdOk]; done) | (simp_all [cmdOk]; intros; omega)⟩
  by_cases h7 : kind = 7
  · subst h7
    simp -implicitDefEqProofs only [go_sem, hb_b1]
    refine (isTime_pc _ _).use ?_
    simp -implicitDefEqProofs only [go_sem, hb_b1]
    repeat' first | (refine Br.of (fun hc => ?_) (fun hc => ?_) <;> simp -implicitDefEqProofs only [go_sem, *]) | (refine PC.use (within_pc _ _ _ _) ?_; simp -implicitDefEqProofs only [go_sem, *])
    all_goals first | exact ((Ext.refl _).set' n_b1 _) | exact ⟨((Ext.refl _).set' n_b1 _), by first | (simp_all [cmdOk]; done) | (simp_all [cmdOk]; intros; omega)⟩
  · simp -implicitDefEqProofs only [go_sem, h1, h2, h9, h7, hb_b1]
    repeat' first | (refine Br.of (fun hc => ?_) (fun hc => ?_) <;> simp -implicitDefEqProofs only [go_sem, *]) | (refine PC.use (within_pc _ _ _ _) ?_; simp -implicitDefEqProofs only [go_sem, *])
    all_goals first | exact ((Ext.refl _).set' n_b1 _) | exact ⟨((Ext.refl _).set' n_b1 _), by first | (simp_all [cmdOk]; done) | (simp_all [cmdOk]; intros; omega)⟩
/-- spec.CmdRight -/
def b_spec_CmdRight : C := (.seq (.ops [⟨(some 1), none, .box (.t 0)⟩, q 2 (.mv (.c (.bool false)))])
 (.seq (.seq (.ops [q 5 (.fld 0 (.t 1)), q 6 (.ld false 1 (.t 5)), ⟨(some 7), none, .call (.c (.func (.func 116) #[] #[])) [(.t 6), (.c (i64 1)), (.c (i64 11))]⟩, q 8 (.un .not (.t 7))])
 (.cond (.t 8) (.seq (.ops [q 2 (.mv (.c (.bool false)))])
 .ret) .skip))
 (.seq (.dops true (.tk (q 9 (.fld 0 (.t 1))) (.tk (q 10 (.ld false 1 (.t 9))) (.tk (q 11 (.bin .eql (.t 10) (.c (i64 1)))) (.tk (q 12 (.fld 0 (.t 1))) (.tk (q 13 (.ld false 1 (.t 12))) (.tk (q 14 (.bin .eql (.t 13) (.c (i64 2)))) (.tk (q 3 (.mv (.t 11))) (.tk (q 4 (.mv (.t 14))) .nil)))))))))
 (.seq (.block 0 (.seq (.ops [q 16 (.mv (.t 3)), q 17 (.mv (.t 16)), qg 18 17 true (.fld 1 (.t 1)), qg 19 17 true (.ld false 1 (.t 18)), ⟨(some 20), (some (17, true)), .call (.c (.func (.func 116) #[] #[])) [(.t 19), (.c (i64 1)), (.c (i64 20))]⟩, qg 21 17 true (.un .not (.t 20)), qg 22 17 true (.mv (.t 21)), qg 23 22 false (.fld 2 (.t 1)), qg 24 22 false (.ld false 1 (.t 23)), ⟨(some 25), (some (22, false)), .call (.c (.func (.func 116) #[] #[])) [(.t 24), (.c (i64 0)), (.c (i64 4))]⟩, qg 26 22 false (.un .not (.t 25)), qg 27 17 true (.pick (.t 22) (.c (.bool true)) (.t 26)), qg 28 17 true (.mv (.t 27)), qg 29 28 false (.fld 3 (.t 1)), qg 30 28 false (.ld false 1 (.t 29)), qg 31 28 false (.slen (.t 30)), qg 32 28 false (.bin .neq (.t 31) (.c (i64 32))), qg 33 17 true (.pick (.t 28) (.c (.bool true)) (.t 32)), q 34 (.pick (.t 17) (.t 33) (.c (.bool false))), q 15 (.mv (.t 34))])
 (.cond (.t 15) (.seq (.ops [q 2 (.mv (.c (.bool false)))])
 .ret) (.seq (.ops [q 36 (.mv (.t 3)), q 37 (.un .not (.t 36)), q 38 (.mv (.t 37)), qg 39 38 true (.fld 2 (.t 1)), qg 40 38 true (.ld false 1 (.t 39)), qg 41 38 true (.bin .neq (.t 40) (.c (i64 0))), qg 42 38 true (.mv (.t 41)), qg 43 42 false (.fld 3 (.t 1)), qg 44 42 false (.ld false 1 (.t 43)), qg 45 42 false (.bin .neq (.t 44) (.c (str []))), qg 46 38 true (.pick (.t 42) (.c (.bool true)) (.t 45)), q 47 (.pick (.t 38) (.t 46) (.c (.bool false))), q 35 (.mv (.t 47))])
 (.cond (.t 35) (.seq (.ops [q 2 (.mv (.c (.bool false)))])
 .ret) (.seq (.ops [q 49 (.mv (.t 4)), q 50 (.mv (.t 49)), qg 51 50 true (.fld 4 (.t 1)), qg 52 50 true (.ld true 4 (.t 51)), ⟨(some 53), (some (50, true)), .call (.c (.func (.func 118) #[] #[])) [(.t 52), (.c (i64 8))]⟩, qg 54 50 true (.un .not (.t 53)), q 55 (.pick (.t 50) (.t 54) (.c (.bool false))), q 56 (.mv (.t 55)), qg 57 56 false (.mv (.t 4)), qg 58 56 false (.un .not (.t 57)), qg 59 56 false (.mv (.t 58)), qg 60 59 true (.fld 4 (.t 1)), qg 61 59 true (.ld true 4 (.t 60)), qg 62 59 true (.build [(i64 0), (i64 0), (i64 0), (str [])] []), qg 63 59 true (.eqa true [.i, .i, .i, .s] (.t 61) (.t 62)), qg 64 56 false (.pick (.t 59) (.t 63) (.c (.bool false))), q 65 (.pick (.t 56) (.c (.bool true)) (.t 64)), q 48 (.mv (.t 65))])
 (.cond (.t 48) (.seq (.ops [q 2 (.mv (.c (.bool false)))])
 .ret) .skip)))))))
 (.seq (.seq (.ops [q 66 (.fld 0 (.t 1)), q 67 (.ld false 1 (.t 66))])
 (.block 1 (.seq (.ops [q 69 (.bin .eql (.t 67) (.c (i64 1))), q 68 (.mv (.t 69))])
 (.cond (.t 68) (.seq (.ops [q 2 (.mv (.c (.bool true)))])
 .ret) (.seq (.ops [q 71 (.bin .eql (.t 67) (.c (i64 9))), q 70 (.mv (.t 71))])
 (.cond (.t 70) (.seq (.ops [q 72 (.fld 1 (.t 1)), q 73 (.ld false 1 (.t 72)), ⟨(some 74), none, .call (.c (.func (.func 116) #[] #[])) [(.t 73), (.c (i64 1)), (.c (i64 24))]⟩, q 2 (.mv (.t 74))])
 .ret) (.seq (.ops [q 76 (.bin .eql (.t 67) (.c (i64 7))), q 75 (.mv (.t 76))])
 (.cond (.t 75) (.seq (.ops [q 77 (.fld 1 (.t 1)), q 78 (.ld false 1 (.t 77)), ⟨(some 79), none, .call (.c (.func (.func 116) #[] #[])) [(.t 78), (.c (i64 0)), (.c (i64 1000000))]⟩, q 2 (.mv (.t 79))])
 .ret) .skip))))))))
 (.seq (.ops [q 80 (.fld 1 (.t 1)), q 81 (.ld false 1 (.t 80)), q 82 (.bin .eql (.t 81) (.c (i64 0))), q 2 (.mv (.t 82))])
 .ret))))))
theorem w_spec_CmdRight {args : List Value} {h : H} {Q : Value → H → Prop} (hl : args.length ≤ 83) (hk : wpc Tryz.prog b_spec_CmdRight (retw [.tmp 2] Q) (argsFr args) h) : AC Tryz.prog 49 args h Q :=
  AC.of_wpc mixedOrders Tryz.func49 (by kernel_rfl) (by kernel_rfl : prepF Tryz.prog Tryz.f49 = some ⟨83, [.tmp 2], b_spec_CmdRight⟩) hl hk

theorem specCmdRight_pc (h : H) (c : UCmd) : PC Tryz.prog 49 [.agg c.cells.toArray] h (.bool (decide (cmdOk c))) := by
  obtain ⟨kind, a, b, digest, ⟨k, d, s, data⟩⟩ := c
  refine PC_of ?_
  refine w_spec_CmdRight (by simp) ?_
  unfold b_spec_CmdRight
  simp -implicitDefEqProofs only [go_sem]
  intro b1 hb_b1 n_b1
  simp -implicitDefEqProofs only [go_sem, hb_b1]
  refine (l03Is_pc _ _ _ _).use ?_
  simp -implicitDefEqProofs only [go_sem, hb_b1]
  refine Br.of (fun hb => ?_) (fun hb => ?_)
  rotate_left
  · simp -implicitDefEqProofs only [go_sem, hb, hb_b1]
    all_goals first | exact ((Ext.refl _).set' n_b1 _) | exact ⟨((Ext.refl _).set' n_b1 _), by first | (simp_all [cmdOk]; done) | (simp_all [cmdOk]; intros; omega)⟩
  by_cases h1 : kind = 1
  · subst h1
    simp -implicitDefEqProofs only [go_sem, hb_b1]
    repeat' first | (refine Br.of (fun hc => ?_) (fun hc => ?_) <;> simp -implicitDefEqProofs only [go_sem, *]) | (refine PC.use (l03Is_pc _ _ _ _) ?_; simp -implicitDefEqProofs only [go_sem, *])
    all_goals first | exact ((Ext.refl _).set' n_b1 _) | exact ⟨((Ext.refl _).set' n_b1 _), by first | (simp_all [cmdOk]; done) | (simp_all [cmdOk]; intros; omega)⟩
  by_cases h2 : kind = 2
  · subst h2
    simp -implicitDefEqProofs only [go_sem, hb_b1]
    repeat' first | (refine Br.of (fun hc => ?_) (fun hc => ?_) <;> simp -implicitDefEqProofs only [go_sem, *]) | (refine PC.use (l03Is_pc _ _ _ _) ?_; simp -implicitDefEqProofs only [go_sem, *]) | (refine PC.use (specStepRight_pc _ ⟨k, d, s, data⟩) ?_; simp -implicitDefEqProofs only [go_sem, *])
    all_goals first | exact ((Ext.refl _).set' n_b1 _) | exact ⟨((Ext.refl _).set' n_b1 _), by first | (simp_all [cmdOk]; done) | (simp_all [cmdOk]; intros; omega)⟩
  by_cases h9 : kind = 9
  · subst h9
    simp -implicitDefEqProofs only [go_sem, hb_b1]
    repeat' first | (refine Br.of (fun hc => ?_) (fun hc => ?_) <;> simp -implicitDefEqProofs only [go_sem, *]) | (refine PC.use (l03Is_pc _ _ _ _) ?_; simp -implicitDefEqProofs only [go_sem, *])
    all_goals first | exact ((Ext.refl _).set' n_b1 _) | exact ⟨((Ext.refl _).set' n_b1 _), by first | (simp_all [cmdOk]; done) | (simp_all [cmdOk]; intros; omega)⟩
  by_cases h7 : kind = 7
  · subst h7
    simp -implicitDefEqProofs only [go_sem, hb_b1]
    repeat' first | (refine Br.of (fun hc => ?_) (fun hc => ?_) <;> simp -implicitDefEqProofs only [go_sem, *]) | (refine PC.use (l03Is_pc _ _ _ _) ?_; simp -implicitDefEqProofs only [go_sem, *])
    all_goals first | exact ((Ext.refl _).set' n_b1 _) | exact ⟨((Ext.refl _).set' n_b1 _), by first | (simp_all [cmdOk]; done) | (simp_all [cmdOk]; intros; omega)⟩
  · simp -implicitDefEqProofs only [go_sem, h1, h2, h9, h7, hb, hb_b1]
    repeat' first | (refine Br.of (fun hc => ?_) (fun hc => ?_) <;> simp -implicitDefEqProofs only [go_sem, *]) | (refine PC.use (l03Is_pc _ _ _ _) ?_; simp -implicitDefEqProofs only [go_sem, *])
    all_goals first | exact ((Ext.refl _).set' n_b1 _) | exact ⟨((Ext.refl _).set' n_b1 _), by first | (simp_all [cmdOk]; done) | (simp_all [cmdOk]; intros; omega)⟩
end Go.Proofs.YtdofcojbjcpikaaGreatDoor
