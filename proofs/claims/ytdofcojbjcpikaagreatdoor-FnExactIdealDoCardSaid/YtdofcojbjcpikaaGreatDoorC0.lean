/- A helper of this seat's claims (contracts of the functions): what it shows is shown for every input that its statements name, on no other condition. -/
import Derived.Test.YtdofcojbjcpikaaGreatDoorCA
import Derived.Test.YtdofcojbjcpikaaGreatDoorKD
set_option linter.unusedVariables false
set_option linter.unusedSimpArgs false
set_option maxRecDepth 100000
namespace Go.Proofs.YtdofcojbjcpikaaGreatDoor
open Go.KH

/-! ## The helpers of the laws -/
/-- laws.szStep -/
def b_laws_szStep : C := (.seq (.ops [⟨(some 2), none, .box (.t 0)⟩, q 4 (.mv (.c (i64 0)))])
 (.seq (.ops [q 5 (.mv (.t 1)), q 6 (.fld 3 (.t 2)), q 7 (.ld false 1 (.t 6)), q 8 (.slen (.t 7)), q 9 (.bin .sub (.t 5) (.t 8)), q 1 (.mv (.t 9))])
 (.seq (.seq (.ops [q 10 (.mv (.t 1)), q 11 (.bin .lss (.t 10) (.c (i64 0)))])
 (.cond (.t 11) (.seq (.ops [q 4 (.mv (.c (i64 (-1))))])
 .ret) .skip))
 (.seq (.ops [q 12 (.mv (.t 1)), q 4 (.mv (.t 12))])
 .ret))))
theorem w_laws_szStep {args : List Value} {h : H} {Q : Value → H → Prop} (hl : args.length ≤ 13) (hk : wpc Tryz.prog b_laws_szStep (retw [.tmp 4] Q) (argsFr args) h) : AC Tryz.prog 47 args h Q :=
  AC.of_wpc mixedOrders Tryz.func47 (by kernel_rfl) (by kernel_rfl : prepF Tryz.prog Tryz.f47 = some ⟨13, [.tmp 4], b_laws_szStep⟩) hl hk

theorem szStep_pc (h : H) (s : UStep) {left : Int} (hn : s.data.length ≤ maxLen) (hl : 0 ≤ left ∧ left ≤ 1048576) : PC Tryz.prog 47 [.agg s.cells.toArray, i64 left] h (i64 (lessn left s.data.length)) := by
  refine PC_of ?_
  have := show maxLen = 9223372036854775807 from rfl
  refine w_laws_szStep (by simp) ?_
  unfold b_laws_szStep
  simp -implicitDefEqProofs only [go_sem]
  intro b1 hb_b1 n_b1
  simp -implicitDefEqProofs only [go_sem, wrap_i64 (show -(9223372036854775808 : Int) ≤ (left - (s.data.length : Nat)) by omega) (show (left - (s.data.length : Nat)) < 9223372036854775808 by omega), hb_b1]
  unfold lessn
  repeat' (refine Br.of (fun hc => ?_) (fun hc => ?_) <;> simp -implicitDefEqProofs only [go_sem, hc, hb_b1])
  all_goals exact ((Ext.refl _).set' n_b1 _)
/-- laws.szStepS -/
def b_laws_szStepS : C := (.seq (.ops [q 4 (.mv (.c (i64 0)))])
 (.seq (.ops [q 6 (.mv (.t 1)), q 7 (.mv (.t 0)), q 8 (.len (.t 7)), q 9 (.bin .sub (.t 6) (.t 8)), q 1 (.mv (.t 9))])
 (.seq (.seq (.ops [q 10 (.mv (.t 1)), q 11 (.bin .lss (.t 10) (.c (i64 0)))])
 (.cond (.t 11) (.seq (.ops [q 4 (.mv (.c (i64 (-1))))])
 .ret) .skip))
 (.seq (.seq (.ops [q 5 (.mv (.c (i64 0)))])
 (.block 0 (.loop (.seq (.seq (.ops [q 12 (.mv (.t 5)), q 13 (.mv (.t 0)), q 14 (.len (.t 13)), q 15 (.bin .lss (.t 12) (.t 14))])
 (.cond (.t 15) .skip (.exit 0)))
 (.seq (.block 1 (.seq (.ops [q 18 (.mv (.t 0)), q 19 (.mv (.t 5)), q 20 (.idx 4 (.t 18) (.t 19)), q 21 (.ld true 4 (.t 20)), q 22 (.mv (.t 1)), ⟨(some 23), none, .call (.c (.func (.func 47) #[] #[])) [(.t 21), (.t 22)]⟩, q 1 (.mv (.t 23))])
 (.seq (.ops [q 24 (.mv (.t 1)), q 25 (.bin .lss (.t 24) (.c (i64 0)))])
 (.cond (.t 25) (.seq (.ops [q 4 (.mv (.c (i64 (-1))))])
 .ret) .skip))))
 (.ops [q 16 (.mv (.t 5)), q 17 (.bin .add (.t 16) (.c (i64 1))), q 5 (.mv (.t 17))]))))))
 (.seq (.ops [q 26 (.mv (.t 1)), q 4 (.mv (.t 26))])
 .ret)))))
theorem w_laws_szStepS {args : List Value} {h : H} {Q : Value → H → Prop} (hl : args.length ≤ 27) (hk : wpc Tryz.prog b_laws_szStepS (retw [.tmp 4] Q) (argsFr args) h) : AC Tryz.prog 46 args h Q :=
  AC.of_wpc mixedOrders Tryz.func46 (by kernel_rfl) (by kernel_rfl : prepF Tryz.prog Tryz.f46 = some ⟨27, [.tmp 4], b_laws_szStepS⟩) hl hk

theorem szStepS_pc {h : H} {v : Value} {l : List UStep} {left : Int} (hv : Sl h v 4 (l.map UStep.cells)) (hn : l.length ≤ maxLen) (hok : ∀ s ∈ l, s.ok) (hl : 0 ≤ left ∧ left ≤ 1048576) :
    PC Tryz.prog 46 [v, i64 left] h (i64 (lessn left (l.length + sumn (fun s : UStep => s.data.length) l : Nat))) :=
  w_laws_szStepS (by simp) (sz2_wpc hv hn hl (fun s left hs hl => szStep_pc h s (hok s hs).2.2.2 hl) ⟨rfl, rfl⟩)
/-- laws.toStep -/
def b_laws_toStep : C := (.seq (.ops [⟨(some 1), none, .box (.t 0)⟩, ⟨(some 2), none, .alloc [(i64 0), (i64 0), (i64 0), (str [])]⟩])
 (.seq (.ops [⟨(some 3), none, .alloc [(i64 0), (i64 0), (i64 0), (str [])]⟩])
 (.seq (.ops [q 4 (.fld 0 (.t 1)), q 5 (.ld false 1 (.t 4)), q 6 (.fld 0 (.t 3)), ⟨none, none, .st 1 (.t 6) (.t 5)⟩])
 (.seq (.ops [q 7 (.fld 1 (.t 1)), q 8 (.ld false 1 (.t 7)), q 9 (.fld 1 (.t 3)), ⟨none, none, .st 1 (.t 9) (.t 8)⟩])
 (.seq (.ops [q 10 (.fld 2 (.t 1)), q 11 (.ld false 1 (.t 10)), q 12 (.fld 2 (.t 3)), ⟨none, none, .st 1 (.t 12) (.t 11)⟩])
 (.seq (.ops [q 13 (.fld 3 (.t 1)), q 14 (.ld false 1 (.t 13)), q 15 (.fld 3 (.t 3)), ⟨none, none, .st 1 (.t 15) (.t 14)⟩])
 (.seq (.ops [q 16 (.ld true 4 (.t 3)), ⟨none, none, .st 4 (.t 2) (.t 16)⟩])
 .ret)))))))
theorem w_laws_toStep {args : List Value} {h : H} {Q : Value → H → Prop} (hl : args.length ≤ 17) (hk : wpc Tryz.prog b_laws_toStep (retw [.cell 2 true 4] Q) (argsFr args) h) : AC Tryz.prog 54 args h Q :=
  AC.of_wpc mixedOrders Tryz.func54 (by kernel_rfl) (by kernel_rfl : prepF Tryz.prog Tryz.f54 = some ⟨17, [.cell 2 true 4], b_laws_toStep⟩) hl hk

theorem toStep_pc (h : H) (m : UStep) : PC Tryz.prog 54 [.agg m.cells.toArray] h (.agg m.cells.toArray) := by
  refine PC_of ?_
  refine w_laws_toStep (by simp) ?_
  unfold b_laws_toStep
  simp -implicitDefEqProofs only [go_sem]
  intro b1 hb_b1 n_b1
  simp -implicitDefEqProofs only [go_sem, hb_b1]
  intro b2 hb_b2 m0_b2
  obtain ⟨z_b2_b1, y_b2_b1, n_b2⟩ := fne m0_b2
  simp only [H.set_base] at hb_b2
  simp -implicitDefEqProofs only [go_sem, hb_b1, hb_b2, z_b2_b1, y_b2_b1]
  intro b3 hb_b3 m0_b3
  obtain ⟨z_b3_b2, y_b3_b2, m1_b3⟩ := fne m0_b3
  obtain ⟨z_b3_b1, y_b3_b1, n_b3⟩ := fne m1_b3
  simp only [H.set_base] at hb_b3
  simp -implicitDefEqProofs only [go_sem, hb_b1, hb_b2, z_b2_b1, y_b2_b1, hb_b3, z_b3_b2, y_b3_b2, z_b3_b1, y_b3_b1]
  exact ((((Ext.refl _).set' n_b1 _).set' n_b2 _).set' n_b3 _)
/-- laws.toStepS -/
def b_laws_toStepS : C := (.seq (.ops [q 2 (.mv (.c nils))])
 (.seq (.ops [q 5 (.mv (.t 0)), q 6 (.len (.t 5)), ⟨(some 7), none, .mks 4 40 [(i64 0), (i64 0), (i64 0), (str [])] (.t 6) (.t 6)⟩, q 3 (.mv (.t 7))])
 (.seq (.seq (.ops [q 4 (.mv (.c (i64 0)))])
 (.block 0 (.loop (.seq (.seq (.ops [q 8 (.mv (.t 4)), q 9 (.mv (.t 0)), q 10 (.len (.t 9)), q 11 (.bin .lss (.t 8) (.t 10))])
 (.cond (.t 11) .skip (.exit 0)))
 (.seq (.block 1 (.ops [q 14 (.mv (.t 3)), q 15 (.mv (.t 4)), q 16 (.mv (.t 0)), q 17 (.mv (.t 4)), q 18 (.idx 4 (.t 16) (.t 17)), q 19 (.ld true 4 (.t 18)), ⟨(some 20), none, .call (.c (.func (.func 54) #[] #[])) [(.t 19)]⟩, q 21 (.idx 4 (.t 14) (.t 15)), ⟨none, none, .st 4 (.t 21) (.t 20)⟩]))
 (.ops [q 12 (.mv (.t 4)), q 13 (.bin .add (.t 12) (.c (i64 1))), q 4 (.mv (.t 13))]))))))
 (.seq (.ops [q 22 (.mv (.t 3)), q 2 (.mv (.t 22))])
 .ret))))
theorem w_laws_toStepS {args : List Value} {h : H} {Q : Value → H → Prop} (hl : args.length ≤ 23) (hk : wpc Tryz.prog b_laws_toStepS (retw [.tmp 2] Q) (argsFr args) h) : AC Tryz.prog 53 args h Q :=
  AC.of_wpc mixedOrders Tryz.func53 (by kernel_rfl) (by kernel_rfl : prepF Tryz.prog Tryz.f53 = some ⟨23, [.tmp 2], b_laws_toStepS⟩) hl hk

theorem toStepS_ac {h : H} {v : Value} {l : List UStep} (hv : Sl h v 4 (l.map UStep.cells)) (hn : l.length ≤ 1048576) : AC Tryz.prog 53 [v] h fun v' h' => Ext h h' ∧ Fre h h' v' 4 (l.map UStep.cells) :=
  w_laws_toStepS (by simp) (to_wpc hv (Wid.map fun _ => rfl) rfl (by omega) (by simpa using hn)
    (fun r hr => by obtain ⟨m, _, rfl⟩ := List.mem_map.1 hr; rfl)
    (fun h r hr => by obtain ⟨m, _, rfl⟩ := List.mem_map.1 hr; exact toStep_pc h m) fun _ _ e o => ⟨e, o⟩)
/-- laws.eqStep -/
def b_laws_eqStep : C := (.seq (.ops [⟨(some 2), none, .box (.t 0)⟩, ⟨(some 3), none, .box (.t 1)⟩, q 4 (.mv (.c (.bool false)))])
 (.seq (.seq (.ops [q 5 (.fld 0 (.t 2)), q 6 (.ld false 1 (.t 5)), q 7 (.fld 0 (.t 3)), q 8 (.ld false 1 (.t 7)), q 9 (.bin .neq (.t 6) (.t 8))])
 (.cond (.t 9) (.seq (.ops [q 4 (.mv (.c (.bool false)))])
 .ret) .skip))
 (.seq (.seq (.ops [q 10 (.fld 1 (.t 2)), q 11 (.ld false 1 (.t 10)), q 12 (.fld 1 (.t 3)), q 13 (.ld false 1 (.t 12)), q 14 (.bin .neq (.t 11) (.t 13))])
 (.cond (.t 14) (.seq (.ops [q 4 (.mv (.c (.bool false)))])
 .ret) .skip))
 (.seq (.seq (.ops [q 15 (.fld 2 (.t 2)), q 16 (.ld false 1 (.t 15)), q 17 (.fld 2 (.t 3)), q 18 (.ld false 1 (.t 17)), q 19 (.bin .neq (.t 16) (.t 18))])
 (.cond (.t 19) (.seq (.ops [q 4 (.mv (.c (.bool false)))])
 .ret) .skip))
 (.seq (.seq (.ops [q 20 (.fld 3 (.t 2)), q 21 (.ld false 1 (.t 20)), q 22 (.fld 3 (.t 3)), q 23 (.ld false 1 (.t 22)), q 24 (.bin .neq (.t 21) (.t 23))])
 (.cond (.t 24) (.seq (.ops [q 4 (.mv (.c (.bool false)))])
 .ret) .skip))
 (.seq (.ops [q 4 (.mv (.c (.bool true)))])
 .ret))))))
theorem w_laws_eqStep {args : List Value} {h : H} {Q : Value → H → Prop} (hl : args.length ≤ 25) (hk : wpc Tryz.prog b_laws_eqStep (retw [.tmp 4] Q) (argsFr args) h) : AC Tryz.prog 142 args h Q :=
  AC.of_wpc mixedOrders Tryz.func142 (by kernel_rfl) (by kernel_rfl : prepF Tryz.prog Tryz.f142 = some ⟨25, [.tmp 4], b_laws_eqStep⟩) hl hk

theorem eqStep_pc (h : H) (a b : UStep) : PC Tryz.prog 142 [.agg a.cells.toArray, .agg b.cells.toArray] h (.bool (decide (a = b))) := by
  obtain ⟨x1, x2, x3, x4⟩ := a
  obtain ⟨u1, u2, u3, u4⟩ := b
  refine PC_of ?_
  refine w_laws_eqStep (by simp) ?_
  unfold b_laws_eqStep
  simp -implicitDefEqProofs only [go_sem]
  intro b1 hb_b1 n_b1
  simp -implicitDefEqProofs only [go_sem, hb_b1]
  intro b2 hb_b2 m0_b2
  obtain ⟨z_b2_b1, y_b2_b1, n_b2⟩ := fne m0_b2
  simp only [H.set_base] at hb_b2
  simp -implicitDefEqProofs only [go_sem, hb_b1, hb_b2, z_b2_b1, y_b2_b1]
  repeat' (refine Br.of (fun hc => ?_) (fun hc => ?_) <;> simp -implicitDefEqProofs only [go_sem, hc, hb_b1, hb_b2, z_b2_b1, y_b2_b1])
  all_goals exact ⟨(((Ext.refl _).set' n_b1 _).set' n_b2 _), by simp_all⟩
/-- laws.eqStepS -/
def b_laws_eqStepS : C := (.seq (.ops [q 4 (.mv (.c (.bool false)))])
 (.seq (.seq (.ops [q 6 (.mv (.t 0)), q 7 (.len (.t 6)), q 8 (.mv (.t 1)), q 9 (.len (.t 8)), q 10 (.bin .neq (.t 7) (.t 9))])
 (.cond (.t 10) (.seq (.ops [q 4 (.mv (.c (.bool false)))])
 .ret) .skip))
 (.seq (.seq (.ops [q 5 (.mv (.c (i64 0)))])
 (.block 0 (.loop (.seq (.seq (.ops [q 11 (.mv (.t 5)), q 12 (.mv (.t 0)), q 13 (.len (.t 12)), q 14 (.bin .lss (.t 11) (.t 13))])
 (.cond (.t 14) .skip (.exit 0)))
 (.seq (.block 1 (.seq (.dops true (.tk (q 17 (.mv (.t 0))) (.tk (q 18 (.mv (.t 5))) (.tk (q 19 (.idx 4 (.t 17) (.t 18))) (.tk (q 20 (.ld true 4 (.t 19))) (.tk (q 21 (.mv (.t 1))) (.tk (q 22 (.mv (.t 5))) (.tk (q 23 (.idx 4 (.t 21) (.t 22))) (.tk (q 24 (.ld true 4 (.t 23))) (.sq (⟨(some 25), none, .call (.c (.func (.func 142) #[] #[])) [(.t 20), (.t 24)]⟩) (.tk (q 26 (.un .not (.t 25))) .nil)))))))))))
 (.cond (.t 26) (.seq (.ops [q 4 (.mv (.c (.bool false)))])
 .ret) .skip)))
 (.ops [q 15 (.mv (.t 5)), q 16 (.bin .add (.t 15) (.c (i64 1))), q 5 (.mv (.t 16))]))))))
 (.seq (.ops [q 4 (.mv (.c (.bool true)))])
 .ret))))
theorem w_laws_eqStepS {args : List Value} {h : H} {Q : Value → H → Prop} (hl : args.length ≤ 27) (hk : wpc Tryz.prog b_laws_eqStepS (retw [.tmp 4] Q) (argsFr args) h) : AC Tryz.prog 61 args h Q :=
  AC.of_wpc mixedOrders Tryz.func61 (by kernel_rfl) (by kernel_rfl : prepF Tryz.prog Tryz.f61 = some ⟨27, [.tmp 4], b_laws_eqStepS⟩) hl hk

theorem eqStepS_pc {h : H} {v1 v2 : Value} {l1 l2 : List UStep} (hv : Sl h v1 4 (l1.map UStep.cells)) (hu : Sl h v2 4 (l2.map UStep.cells)) (hn : l1.length ≤ maxLen) : PC Tryz.prog 61 [v1, v2] h (.bool (decide (l1 = l2))) :=
  w_laws_eqStepS (by simp) (eq_wpc hv hu hn (fun a b _ _ => eqStep_pc h a b) ⟨rfl, rfl⟩)
/-- laws.szCmd -/
def b_laws_szCmd : C := (.seq (.ops [⟨(some 2), none, .box (.t 0)⟩, q 4 (.mv (.c (i64 0)))])
 (.seq (.ops [q 5 (.mv (.t 1)), q 6 (.fld 3 (.t 2)), q 7 (.ld false 1 (.t 6)), q 8 (.slen (.t 7)), q 9 (.bin .sub (.t 5) (.t 8)), q 1 (.mv (.t 9))])
 (.seq (.seq (.ops [q 10 (.mv (.t 1)), q 11 (.bin .lss (.t 10) (.c (i64 0)))])
 (.cond (.t 11) (.seq (.ops [q 4 (.mv (.c (i64 (-1))))])
 .ret) .skip))
 (.seq (.ops [q 12 (.fld 4 (.t 2)), q 13 (.ld true 4 (.t 12)), q 14 (.mv (.t 1)), ⟨(some 15), none, .call (.c (.func (.func 47) #[] #[])) [(.t 13), (.t 14)]⟩, q 1 (.mv (.t 15))])
 (.seq (.seq (.ops [q 16 (.mv (.t 1)), q 17 (.bin .lss (.t 16) (.c (i64 0)))])
 (.cond (.t 17) (.seq (.ops [q 4 (.mv (.c (i64 (-1))))])
 .ret) .skip))
 (.seq (.ops [q 18 (.mv (.t 1)), q 4 (.mv (.t 18))])
 .ret))))))
theorem w_laws_szCmd {args : List Value} {h : H} {Q : Value → H → Prop} (hl : args.length ≤ 19) (hk : wpc Tryz.prog b_laws_szCmd (retw [.tmp 4] Q) (argsFr args) h) : AC Tryz.prog 8 args h Q :=
  AC.of_wpc mixedOrders Tryz.func8 (by kernel_rfl) (by kernel_rfl : prepF Tryz.prog Tryz.f8 = some ⟨19, [.tmp 4], b_laws_szCmd⟩) hl hk

theorem szCmd_pc (h : H) (c : UCmd) {left : Int} (hn : c.digest.length ≤ maxLen) (hn2 : c.step.data.length ≤ maxLen) (hl : 0 ≤ left ∧ left ≤ 1048576) : PC Tryz.prog 8 [.agg c.cells.toArray, i64 left] h (i64 (lessn left (c.digest.length + c.step.data.length : Nat))) := by
  obtain ⟨kind, a, b, digest, ⟨k, d, s, data⟩⟩ := c
  simp only at hn hn2 ⊢
  refine PC_of ?_
  have := show maxLen = 9223372036854775807 from rfl
  refine w_laws_szCmd (by simp) ?_
  unfold b_laws_szCmd
  simp -implicitDefEqProofs only [go_sem]
  intro b1 hb_b1 n_b1
  simp -implicitDefEqProofs only [go_sem, wrap_i64 (show -(9223372036854775808 : Int) ≤ (left - (digest.length : Nat)) by omega) (show (left - (digest.length : Nat)) < 9223372036854775808 by omega), hb_b1]
  refine Br.of (fun h1 => ?_) (fun h1 => ?_)
  · simp -implicitDefEqProofs only [go_sem, h1, hb_b1]
    exact ⟨((Ext.refl _).set' n_b1 _), by unfold lessn; rw [if_pos (by omega)]⟩
  · simp -implicitDefEqProofs only [go_sem, h1, hb_b1]
    refine (szStep_pc _ ⟨k, d, s, data⟩ hn2 (by omega)).use ?_
    simp -implicitDefEqProofs only [go_sem, hb_b1]
    refine Br.of (fun h2 => ?_) (fun h2 => ?_)
    · simp -implicitDefEqProofs only [go_sem, h2, hb_b1]
      exact ⟨((Ext.refl _).set' n_b1 _), by unfold lessn at h2 ⊢; rw [if_pos]; split at h2 <;> omega⟩
    · simp -implicitDefEqProofs only [go_sem, h2, hb_b1]
      exact ⟨((Ext.refl _).set' n_b1 _), by have h3 := lessn_nn h2; rw [h3.2]; unfold lessn; rw [if_neg (by omega)]; congr 1; omega⟩
/-- laws.toCmd -/
def b_laws_toCmd : C := (.seq (.ops [⟨(some 1), none, .box (.t 0)⟩, ⟨(some 2), none, .alloc [(i64 0), (i64 0), (i64 0), (str []), (i64 0), (i64 0), (i64 0), (str [])]⟩])
 (.seq (.ops [⟨(some 3), none, .alloc [(i64 0), (i64 0), (i64 0), (str []), (i64 0), (i64 0), (i64 0), (str [])]⟩])
 (.seq (.ops [q 4 (.fld 0 (.t 1)), q 5 (.ld false 1 (.t 4)), q 6 (.fld 0 (.t 3)), ⟨none, none, .st 1 (.t 6) (.t 5)⟩])
 (.seq (.ops [q 7 (.fld 1 (.t 1)), q 8 (.ld false 1 (.t 7)), q 9 (.fld 1 (.t 3)), ⟨none, none, .st 1 (.t 9) (.t 8)⟩])
 (.seq (.ops [q 10 (.fld 2 (.t 1)), q 11 (.ld false 1 (.t 10)), q 12 (.fld 2 (.t 3)), ⟨none, none, .st 1 (.t 12) (.t 11)⟩])
 (.seq (.ops [q 13 (.fld 3 (.t 1)), q 14 (.ld false 1 (.t 13)), q 15 (.fld 3 (.t 3)), ⟨none, none, .st 1 (.t 15) (.t 14)⟩])
 (.seq (.ops [q 16 (.fld 4 (.t 1)), q 17 (.ld true 4 (.t 16)), ⟨(some 18), none, .call (.c (.func (.func 54) #[] #[])) [(.t 17)]⟩, q 19 (.fld 4 (.t 3)), ⟨none, none, .st 4 (.t 19) (.t 18)⟩])
 (.seq (.ops [q 20 (.ld true 8 (.t 3)), ⟨none, none, .st 8 (.t 2) (.t 20)⟩])
 .ret))))))))
theorem w_laws_toCmd {args : List Value} {h : H} {Q : Value → H → Prop} (hl : args.length ≤ 21) (hk : wpc Tryz.prog b_laws_toCmd (retw [.cell 2 true 8] Q) (argsFr args) h) : AC Tryz.prog 11 args h Q :=
  AC.of_wpc mixedOrders Tryz.func11 (by kernel_rfl) (by kernel_rfl : prepF Tryz.prog Tryz.f11 = some ⟨21, [.cell 2 true 8], b_laws_toCmd⟩) hl hk

theorem toCmd_pc (h : H) (c : UCmd) : PC Tryz.prog 11 [.agg c.cells.toArray] h (.agg c.cells.toArray) := by
  refine PC_of ?_
  refine w_laws_toCmd (by simp) ?_
  unfold b_laws_toCmd
  simp -implicitDefEqProofs only [go_sem]
  intro b1 hb_b1 n_b1
  simp -implicitDefEqProofs only [go_sem, hb_b1]
  intro b2 hb_b2 m0_b2
  obtain ⟨z_b2_b1, y_b2_b1, n_b2⟩ := fne m0_b2
  simp only [H.set_base] at hb_b2
  simp -implicitDefEqProofs only [go_sem, hb_b1, hb_b2, z_b2_b1, y_b2_b1]
  intro b3 hb_b3 m0_b3
  obtain ⟨z_b3_b2, y_b3_b2, m1_b3⟩ := fne m0_b3
  obtain ⟨z_b3_b1, y_b3_b1, n_b3⟩ := fne m1_b3
  simp only [H.set_base] at hb_b3
  simp -implicitDefEqProofs only [go_sem, hb_b1, hb_b2, z_b2_b1, y_b2_b1, hb_b3, z_b3_b2, y_b3_b2, z_b3_b1, y_b3_b1]
  refine (toStep_pc _ c.step).use ?_
  simp -implicitDefEqProofs only [go_sem, hb_b1, hb_b2, z_b2_b1, y_b2_b1, hb_b3, z_b3_b2, y_b3_b2, z_b3_b1, y_b3_b1]
  exact ((((Ext.refl _).set' n_b1 _).set' n_b2 _).set' n_b3 _)
/-- impl.within -/
def b_impl_within : C := (.seq (.ops [q 6 (.mv (.c (.bool false)))])
 (.seq (.ops [q 7 (.mv (.t 0)), q 8 (.mv (.t 1)), q 9 (.bin .geq (.t 7) (.t 8)), q 10 (.mv (.t 9)), qg 11 10 true (.mv (.t 0)), qg 12 10 true (.mv (.t 2)), qg 13 10 true (.bin .leq (.t 11) (.t 12)), q 14 (.pick (.t 10) (.t 13) (.c (.bool false))), q 6 (.mv (.t 14))])
 .ret))
theorem w_impl_within {args : List Value} {h : H} {Q : Value → H → Prop} (hl : args.length ≤ 15) (hk : wpc Tryz.prog b_impl_within (retw [.tmp 6] Q) (argsFr args) h) : AC Tryz.prog 127 args h Q :=
  AC.of_wpc mixedOrders Tryz.func127 (by kernel_rfl) (by kernel_rfl : prepF Tryz.prog Tryz.f127 = some ⟨15, [.tmp 6], b_impl_within⟩) hl hk

theorem within_pc (h : H) (n a b : Int) : PC Tryz.prog 127 [i64 n, i64 a, i64 b] h (.bool (decide (a ≤ n ∧ n ≤ b))) := by
  refine w_impl_within (by simp) ?_
  unfold b_impl_within
  simp -implicitDefEqProofs only [go_sem]
  repeat' (refine Br.of (fun hc => ?_) (fun hc => ?_) <;> simp -implicitDefEqProofs only [go_sem, hc])
  all_goals simp_all
/-- impl.size[impl.Move] -/
def b_impl_size_impl_Move : C := (.seq (.ops [q 2 (.mv (.c (i64 0)))])
 (.seq (.ops [q 3 (.mv (.t 0)), q 4 (.len (.t 3)), q 2 (.mv (.t 4))])
 .ret))
theorem w_impl_size_impl_Move {args : List Value} {h : H} {Q : Value → H → Prop} (hl : args.length ≤ 5) (hk : wpc Tryz.prog b_impl_size_impl_Move (retw [.tmp 2] Q) (argsFr args) h) : AC Tryz.prog 131 args h Q :=
  AC.of_wpc mixedOrders Tryz.func131 (by kernel_rfl) (by kernel_rfl : prepF Tryz.prog Tryz.f131 = some ⟨5, [.tmp 2], b_impl_size_impl_Move⟩) hl hk

theorem sizeMove_pc {h : H} {v : Value} {rows : List (List Value)} {w : Nat} (hv : Sl h v w rows) : PC Tryz.prog 131 [v] h (i64 rows.length) := by
  obtain ⟨a, c, b, o, rfl, hcap, h2, h3⟩ := hv
  refine w_impl_size_impl_Move (by simp) ?_
  unfold b_impl_size_impl_Move
  simp -implicitDefEqProofs only [go_sem]
/-- spec.l03Is -/
def b_spec_l03Is : C := (.seq (.ops [q 6 (.mv (.c (.bool false)))])
 (.seq (.ops [q 7 (.mv (.t 0)), q 8 (.mv (.t 1)), q 9 (.bin .geq (.t 7) (.t 8)), q 10 (.mv (.t 9)), qg 11 10 true (.mv (.t 0)), qg 12 10 true (.mv (.t 2)), qg 13 10 true (.bin .leq (.t 11) (.t 12)), q 14 (.pick (.t 10) (.t 13) (.c (.bool false))), q 6 (.mv (.t 14))])
 .ret))
theorem w_spec_l03Is {args : List Value} {h : H} {Q : Value → H → Prop} (hl : args.length ≤ 15) (hk : wpc Tryz.prog b_spec_l03Is (retw [.tmp 6] Q) (argsFr args) h) : AC Tryz.prog 116 args h Q :=
  AC.of_wpc mixedOrders Tryz.func116 (by kernel_rfl) (by kernel_rfl : prepF Tryz.prog Tryz.f116 = some ⟨15, [.tmp 6], b_spec_l03Is⟩) hl hk

theorem l03Is_pc (h : H) (n a b : Int) : PC Tryz.prog 116 [i64 n, i64 a, i64 b] h (.bool (decide (a ≤ n ∧ n ≤ b))) := by
  refine w_spec_l03Is (by simp) ?_
  unfold b_spec_l03Is
  simp -implicitDefEqProofs only [go_sem]
  repeat' (refine Br.of (fun hc => ?_) (fun hc => ?_) <;> simp -implicitDefEqProofs only [go_sem, hc])
  all_goals simp_all
end Go.Proofs.YtdofcojbjcpikaaGreatDoor
