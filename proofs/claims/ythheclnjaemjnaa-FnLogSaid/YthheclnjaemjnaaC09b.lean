/- A helper of this seat's claims (contracts of the functions): what it shows is shown for every input that its statements name, on no other condition. -/
import Derived.Test.YthheclnjaemjnaaC13a
set_option linter.unusedVariables false
set_option linter.unusedSimpArgs false
set_option maxRecDepth 100000
namespace Go.Proofs.Ythheclnjaemjnaa
open Go.KH

/-! ## Records -/
def stepB (s : UStep) : List UInt8 := putNum s.kind ++ putNum s.dst ++ putNum s.src ++ putText s.data
def recordB (n : Int) (s : UStep) : List UInt8 := sealB (putNum n ++ stepB s)
def recordBytes (n : Int) (s : UStep) : List UInt8 := if (0 ≤ n ∧ n ≤ 1000000) ∧ stepOk s 8 then recordB n s else []
theorem stepOk_data {s : UStep} {b : Int} (h : stepOk s b) : s.data.length ≤ 8 := by
  have := h.2.2.2
  split at this
  · omega
  · rw [this]; simp
theorem stepB_le {s : UStep} (hs : s.ok) (hd : s.data.length ≤ 8000) : (stepB s).length ≤ 8040 := by
  have l1 := putNum_le hs.1
  have l2 := putNum_le hs.2.1
  have l3 := putNum_le hs.2.2.1
  have l4 := putText_le (t := s.data) (by omega)
  unfold stepB
  simp only [List.length_append]; omega
theorem sl3 {h : H} {b : Nat} {x y z : Int} (hb : h.get b = some ⟨[i64 x, i64 y, i64 z], 3⟩) : Sl h (sl b 0 3 3) 1 ([x, y, z].map fun n => [i64 n]) :=
  ⟨_, _, b, 0, rfl, Nat.le_refl _, rfl, fun i r hr => by
    match i, hr with
    | 0, hr => simp only [List.map_cons, List.map_nil, List.getElem?_cons_zero, Option.some.injEq] at hr; subst hr; simp [ldc, hb]
    | 1, hr => simp only [List.map_cons, List.map_nil, List.getElem?_cons_succ, List.getElem?_cons_zero, Option.some.injEq] at hr; subst hr; simp [ldc, hb]
    | 2, hr => simp only [List.map_cons, List.map_nil, List.getElem?_cons_succ, List.getElem?_cons_zero, Option.some.injEq] at hr; subst hr; simp [ldc, hb]
    | i + 3, hr => simp at hr⟩
/-- impl.stepBytes -/
def b_impl_stepBytes : C := (.seq (.ops [⟨(some 1), none, .box (.t 0)⟩, q 2 (.mv (.c (str [])))])
 (.seq (.dops true (.tk (q 3 (.fld 0 (.t 1))) (.tk (q 4 (.ld false 1 (.t 3))) (.tk (q 5 (.fld 1 (.t 1))) (.tk (q 6 (.ld false 1 (.t 5))) (.tk (q 7 (.fld 2 (.t 1))) (.tk (q 8 (.ld false 1 (.t 7))) (.tk (q 11 (.fld 3 (.t 1))) (.tk (q 12 (.ld false 1 (.t 11))) (.sq (⟨(some 9), none, .bsl 3 [(i64 0), (i64 0), (i64 0)] [(0, 1, (.t 4)), (1, 1, (.t 6)), (2, 1, (.t 8))]⟩) (.sq (⟨(some 10), none, .call (.c (.func (.func 153) #[] #[])) [(.t 9)]⟩) (.sq (⟨(some 13), none, .call (.c (.func (.func 154) #[] #[])) [(.t 12)]⟩) (.tk (q 14 (.bin .add (.t 10) (.t 13))) (.tk (q 2 (.mv (.t 14))) .nil))))))))))))))
 .ret))
theorem w_impl_stepBytes {args : List Value} {h : H} {Q : Value → H → Prop} (hl : args.length ≤ 15) (hk : wpc Try.prog b_impl_stepBytes (retw [.tmp 2] Q) (argsFr args) h) : AC Try.prog 135 args h Q :=
  AC.of_wpc mixedOrders Try.func135 (by kernel_rfl) (by kernel_rfl : prepF Try.prog Try.f135 = some ⟨15, [.tmp 2], b_impl_stepBytes⟩) hl hk

theorem stepBytes_pc (h : H) (s : UStep) (hs : s.ok) (hd : s.data.length ≤ 8000) : PC Try.prog 135 [.agg s.cells.toArray] h (str (stepB s)) := by
  have l1 := putNum_le hs.1
  have l2 := putNum_le hs.2.1
  have l3 := putNum_le hs.2.2.1
  have l4 := putText_le (t := s.data) (by omega)
  refine PC_of ?_
  refine w_impl_stepBytes (by simp) ?_
  unfold b_impl_stepBytes
  simp -implicitDefEqProofs only [go_sem]
  intro b1 hb_b1 n_b1
  simp -implicitDefEqProofs only [go_sem, hb_b1]
  intro b2 hb_b2 m0_b2
  obtain ⟨z_b2_b1, y_b2_b1, n_b2⟩ := fne m0_b2
  simp only [H.set_base] at hb_b2
  refine ⟨Sub.set (Sub.refl _) (by rw [H.set_get_ne _ _ _ _ (of_eq_false z_b2_b1)]; exact n_b2) _, ?_⟩
  simp -implicitDefEqProofs only [go_sem, hb_b1, hb_b2, z_b2_b1, y_b2_b1]
  refine (putNums_pc (sl3 (H.set_get_same _ _ _)) (by simp) (by intro x hx; simp at hx; rcases hx with rfl | rfl | rfl; exact hs.1; exact hs.2.1; exact hs.2.2.1)).use ?_
  refine ⟨Sub.set (Sub.refl _) (by rw [H.set_get_ne _ _ _ _ (of_eq_false z_b2_b1)]; exact n_b2) _, ?_⟩
  simp -implicitDefEqProofs only [go_sem, hb_b1, hb_b2, z_b2_b1, y_b2_b1]
  refine (putText_pc _ _ (by omega)).use ?_
  refine ⟨Sub.set (Sub.refl _) (by rw [H.set_get_ne _ _ _ _ (of_eq_false z_b2_b1)]; exact n_b2) _, ?_⟩
  simp -implicitDefEqProofs only [go_sem, hb_b1, hb_b2, z_b2_b1, y_b2_b1]
  have e : [s.kind, s.dst, s.src].flatMap putNum = putNum s.kind ++ putNum s.dst ++ putNum s.src := by simp
  rw [e]
  refine Req.of (by simp only [List.length_append]; omega) ?_
  simp -implicitDefEqProofs only [go_sem, hb_b1, hb_b2, z_b2_b1, y_b2_b1]
  exact ⟨(((Ext.refl _).set' n_b1 _).set' n_b2 _), rfl⟩
/-- spec.l06Bytes -/
def b_spec_l06Bytes : C := (.seq (.ops [⟨(some 1), none, .box (.t 0)⟩, q 2 (.mv (.c (str [])))])
 (.seq (.dops true (.tk (q 3 (.fld 0 (.t 1))) (.tk (q 4 (.ld false 1 (.t 3))) (.tk (q 6 (.fld 1 (.t 1))) (.tk (q 7 (.ld false 1 (.t 6))) (.tk (q 10 (.fld 2 (.t 1))) (.tk (q 11 (.ld false 1 (.t 10))) (.tk (q 14 (.fld 3 (.t 1))) (.tk (q 15 (.ld false 1 (.t 14))) (.sq (⟨(some 5), none, .call (.c (.func (.func 81) #[] #[])) [(.t 4)]⟩) (.sq (⟨(some 8), none, .call (.c (.func (.func 81) #[] #[])) [(.t 7)]⟩) (.tk (q 9 (.bin .add (.t 5) (.t 8))) (.sq (⟨(some 12), none, .call (.c (.func (.func 81) #[] #[])) [(.t 11)]⟩) (.tk (q 13 (.bin .add (.t 9) (.t 12))) (.sq (⟨(some 16), none, .call (.c (.func (.func 143) #[] #[])) [(.t 15)]⟩) (.tk (q 17 (.bin .add (.t 13) (.t 16))) (.tk (q 2 (.mv (.t 17))) .nil)))))))))))))))))
 .ret))
theorem w_spec_l06Bytes {args : List Value} {h : H} {Q : Value → H → Prop} (hl : args.length ≤ 18) (hk : wpc Try.prog b_spec_l06Bytes (retw [.tmp 2] Q) (argsFr args) h) : AC Try.prog 82 args h Q :=
  AC.of_wpc mixedOrders Try.func82 (by kernel_rfl) (by kernel_rfl : prepF Try.prog Try.f82 = some ⟨18, [.tmp 2], b_spec_l06Bytes⟩) hl hk

theorem l06Bytes_pc (h : H) (s : UStep) (hs : s.ok) (hd : s.data.length ≤ 8000) : PC Try.prog 82 [.agg s.cells.toArray] h (str (stepB s)) := by
  have l1 := putNum_le hs.1
  have l2 := putNum_le hs.2.1
  have l3 := putNum_le hs.2.2.1
  have l4 := putText_le (t := s.data) (by omega)
  refine PC_of ?_
  refine w_spec_l06Bytes (by simp) ?_
  unfold b_spec_l06Bytes
  simp -implicitDefEqProofs only [go_sem]
  intro b1 hb_b1 n_b1
  simp -implicitDefEqProofs only [go_sem, hb_b1]
  refine (specPutNum_pc _ _ hs.1).use ?_
  simp -implicitDefEqProofs only [go_sem, hb_b1]
  refine (specPutNum_pc _ _ hs.2.1).use ?_
  simp -implicitDefEqProofs only [go_sem, hb_b1]
  refine Req.of (by omega) ?_
  simp -implicitDefEqProofs only [go_sem, hb_b1]
  refine (specPutNum_pc _ _ hs.2.2.1).use ?_
  simp -implicitDefEqProofs only [go_sem, hb_b1]
  refine Req.of (by simp only [List.length_append]; omega) ?_
  simp -implicitDefEqProofs only [go_sem, hb_b1]
  refine (specPutText_pc _ _ (by omega)).use ?_
  simp -implicitDefEqProofs only [go_sem, hb_b1]
  refine Req.of (by simp only [List.length_append]; omega) ?_
  simp -implicitDefEqProofs only [go_sem, hb_b1]
  exact ⟨((Ext.refl _).set' n_b1 _), rfl⟩
/-- impl.recordBytes -/
def b_impl_recordBytes : C := (.seq (.ops [⟨(some 3), none, .box (.t 1)⟩, q 4 (.mv (.c (str [])))])
 (.seq (.dops true (.tk (q 5 (.mv (.t 0))) (.tk (q 7 (.ld true 4 (.t 3))) (.sq (⟨(some 6), none, .call (.c (.func (.func 134) #[] #[])) [(.t 5)]⟩) (.sq (⟨(some 8), none, .call (.c (.func (.func 135) #[] #[])) [(.t 7)]⟩) (.tk (q 9 (.bin .add (.t 6) (.t 8))) (.sq (⟨(some 10), none, .call (.c (.func (.func 133) #[] #[])) [(.t 9)]⟩) (.tk (q 4 (.mv (.t 10))) .nil))))))))
 .ret))
theorem w_impl_recordBytes {args : List Value} {h : H} {Q : Value → H → Prop} (hl : args.length ≤ 11) (hk : wpc Try.prog b_impl_recordBytes (retw [.tmp 4] Q) (argsFr args) h) : AC Try.prog 71 args h Q :=
  AC.of_wpc mixedOrders Try.func71 (by kernel_rfl) (by kernel_rfl : prepF Try.prog Try.f71 = some ⟨11, [.tmp 4], b_impl_recordBytes⟩) hl hk

theorem implRecordB_pc (h : H) (n : Int) (s : UStep) (hn : in64 n) (hs : s.ok) (hd : s.data.length ≤ 8000) : PC Try.prog 71 [i64 n, .agg s.cells.toArray] h (str (recordB n s)) := by
  have l1 := putNum_le hn
  have l2 := stepB_le hs hd
  refine PC_of ?_
  refine w_impl_recordBytes (by simp) ?_
  unfold b_impl_recordBytes
  simp -implicitDefEqProofs only [go_sem]
  intro b1 hb_b1 n_b1
  simp -implicitDefEqProofs only [go_sem, hb_b1]
  refine (putNum_pc _ _ hn).use ?_
  simp -implicitDefEqProofs only [go_sem, hb_b1]
  refine (stepBytes_pc _ s hs hd).use ?_
  simp -implicitDefEqProofs only [go_sem, hb_b1]
  refine Req.of (by omega) ?_
  simp -implicitDefEqProofs only [go_sem, hb_b1]
  refine (seal_pc _ _ (by simp only [List.length_append]; omega)).use ?_
  simp -implicitDefEqProofs only [go_sem, hb_b1]
  exact ⟨((Ext.refl _).set' n_b1 _), rfl⟩
/-- impl.RecordBytes -/
def b_impl_RecordBytes : C := (.seq (.ops [⟨(some 3), none, .box (.t 1)⟩, q 4 (.mv (.c (str [])))])
 (.seq (.seq (.ops [q 5 (.mv (.t 0)), ⟨(some 6), none, .call (.c (.func (.func 69) #[] #[])) [(.t 5)]⟩, q 7 (.un .not (.t 6)), q 8 (.mv (.t 7)), qg 9 8 false (.ld true 4 (.t 3)), ⟨(some 10), (some (8, false)), .call (.c (.func (.func 70) #[] #[])) [(.t 9), (.c (i64 8))]⟩, qg 11 8 false (.un .not (.t 10)), q 12 (.pick (.t 8) (.c (.bool true)) (.t 11))])
 (.cond (.t 12) (.seq (.ops [q 4 (.mv (.c (str [])))])
 .ret) .skip))
 (.seq (.ops [q 13 (.mv (.t 0)), q 14 (.ld true 4 (.t 3)), ⟨(some 15), none, .call (.c (.func (.func 71) #[] #[])) [(.t 13), (.t 14)]⟩, q 4 (.mv (.t 15))])
 .ret)))
theorem w_impl_RecordBytes {args : List Value} {h : H} {Q : Value → H → Prop} (hl : args.length ≤ 16) (hk : wpc Try.prog b_impl_RecordBytes (retw [.tmp 4] Q) (argsFr args) h) : AC Try.prog 11 args h Q :=
  AC.of_wpc mixedOrders Try.func11 (by kernel_rfl) (by kernel_rfl : prepF Try.prog Try.f11 = some ⟨16, [.tmp 4], b_impl_RecordBytes⟩) hl hk

theorem implRecordBytes_pc (h : H) (n : Int) (s : UStep) (hn : in64 n) (hs : s.ok) : PC Try.prog 11 [i64 n, .agg s.cells.toArray] h (str (recordBytes n s)) := by
  refine PC_of ?_
  unfold recordBytes
  refine w_impl_RecordBytes (by simp) ?_
  unfold b_impl_RecordBytes
  simp -implicitDefEqProofs only [go_sem]
  intro b1 hb_b1 n_b1
  simp -implicitDefEqProofs only [go_sem, hb_b1]
  refine (isTime_pc _ _).use ?_
  simp -implicitDefEqProofs only [go_sem, hb_b1]
  refine Br.of (fun h1 => ?_) (fun h1 => ?_)
  · simp -implicitDefEqProofs only [go_sem, h1, hb_b1]
    refine (isStep_pc _ s (by unfold in64; omega) (by omega)).use ?_
    simp -implicitDefEqProofs only [go_sem, h1, hb_b1]
    refine Br.of (fun h2 => ?_) (fun h2 => ?_)
    · simp -implicitDefEqProofs only [go_sem, h1, h2, hb_b1]
      refine (implRecordB_pc _ _ s hn hs (by have := stepOk_data h2; omega)).use ?_
      simp -implicitDefEqProofs only [go_sem, hb_b1]
      rw [if_pos ⟨h1, h2⟩]
      exact ⟨((Ext.refl _).set' n_b1 _), rfl⟩
    · simp -implicitDefEqProofs only [go_sem, h1, h2, hb_b1]
      exact ((Ext.refl _).set' n_b1 _)
  · simp -implicitDefEqProofs only [go_sem, h1, hb_b1]
    exact ((Ext.refl _).set' n_b1 _)
/-- spec.RecordBytes -/
def b_spec_RecordBytes : C := (.seq (.ops [⟨(some 3), none, .box (.t 1)⟩, q 4 (.mv (.c (str [])))])
 (.seq (.seq (.ops [q 5 (.mv (.t 0)), ⟨(some 6), none, .call (.c (.func (.func 79) #[] #[])) [(.t 5), (.c (i64 0)), (.c (i64 1000000))]⟩, q 7 (.un .not (.t 6)), q 8 (.mv (.t 7)), qg 9 8 false (.ld true 4 (.t 3)), ⟨(some 10), (some (8, false)), .call (.c (.func (.func 80) #[] #[])) [(.t 9), (.c (i64 8))]⟩, qg 11 8 false (.un .not (.t 10)), q 12 (.pick (.t 8) (.c (.bool true)) (.t 11))])
 (.cond (.t 12) (.seq (.ops [q 4 (.mv (.c (str [])))])
 .ret) .skip))
 (.seq (.dops true (.tk (q 13 (.mv (.t 0))) (.tk (q 15 (.ld true 4 (.t 3))) (.sq (⟨(some 14), none, .call (.c (.func (.func 81) #[] #[])) [(.t 13)]⟩) (.sq (⟨(some 16), none, .call (.c (.func (.func 82) #[] #[])) [(.t 15)]⟩) (.tk (q 17 (.bin .add (.t 14) (.t 16))) (.sq (⟨(some 18), none, .call (.c (.func (.func 73) #[] #[])) [(.t 17)]⟩) (.tk (q 4 (.mv (.t 18))) .nil))))))))
 .ret)))
theorem w_spec_RecordBytes {args : List Value} {h : H} {Q : Value → H → Prop} (hl : args.length ≤ 19) (hk : wpc Try.prog b_spec_RecordBytes (retw [.tmp 4] Q) (argsFr args) h) : AC Try.prog 17 args h Q :=
  AC.of_wpc mixedOrders Try.func17 (by kernel_rfl) (by kernel_rfl : prepF Try.prog Try.f17 = some ⟨19, [.tmp 4], b_spec_RecordBytes⟩) hl hk

theorem specRecordBytes_pc (h : H) (n : Int) (s : UStep) (hn : in64 n) (hs : s.ok) : PC Try.prog 17 [i64 n, .agg s.cells.toArray] h (str (recordBytes n s)) := by
  have l1 := putNum_le hn
  refine PC_of ?_
  unfold recordBytes
  refine w_spec_RecordBytes (by simp) ?_
  unfold b_spec_RecordBytes
  simp -implicitDefEqProofs only [go_sem]
  intro b1 hb_b1 n_b1
  simp -implicitDefEqProofs only [go_sem, hb_b1]
  refine (l03Is_pc _ _ _ _).use ?_
  simp -implicitDefEqProofs only [go_sem, hb_b1]
  refine Br.of (fun h1 => ?_) (fun h1 => ?_)
  · simp -implicitDefEqProofs only [go_sem, h1, hb_b1]
    refine (specStepRight_pc _ s).use ?_
    simp -implicitDefEqProofs only [go_sem, h1, hb_b1]
    refine Br.of (fun h2 => ?_) (fun h2 => ?_)
    · have h3 := h2
      have hd := stepOk_data h3
      have l2 := stepB_le hs (by omega)
      have l3 : (stepB s).length ≤ 60 := by
        have l1 := putNum_le hs.1
        have l2 := putNum_le hs.2.1
        have l3 := putNum_le hs.2.2.1
        have l4 := putText_le (t := s.data) (by omega)
        unfold stepB
        simp only [List.length_append]; omega
      simp -implicitDefEqProofs only [go_sem, h1, h2, hb_b1]
      refine (specPutNum_pc _ _ hn).use ?_
      simp -implicitDefEqProofs only [go_sem, hb_b1]
      refine (l06Bytes_pc _ s hs (by omega)).use ?_
      simp -implicitDefEqProofs only [go_sem, hb_b1]
      refine Req.of (by omega) ?_
      simp -implicitDefEqProofs only [go_sem, hb_b1]
      refine (specSeal_pc _ _ (by simp only [List.length_append]; omega)).use ?_
      simp -implicitDefEqProofs only [go_sem, hb_b1]
      rw [if_pos ⟨h1, h3⟩]
      exact ⟨((Ext.refl _).set' n_b1 _), rfl⟩
    · simp -implicitDefEqProofs only [go_sem, h1, h2, hb_b1]
      exact ((Ext.refl _).set' n_b1 _)
  · simp -implicitDefEqProofs only [go_sem, h1, hb_b1]
    exact ((Ext.refl _).set' n_b1 _)
end Go.Proofs.Ythheclnjaemjnaa
