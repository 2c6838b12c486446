/- A helper of this seat's claims (contracts of the functions): what it shows is shown for every input that its statements name, on no other condition. -/
import Derived.Test.YtiokibikhanfcaaGreatC01
import Derived.Test.YtiokibikhanfcaaGreatC06
set_option linter.unusedVariables false
set_option linter.unusedSimpArgs false
set_option maxRecDepth 100000
namespace Go.Proofs.YtiokibikhanfcaaGreat
open Go.KH

/-! ## Notes -/
theorem putText_le {t : List UInt8} (h : t.length ≤ 1099511627776) : (putText t).length ≤ t.length + 10 := by
  have := putNum_le (n := (t.length : Int)) ⟨by omega, by omega⟩
  unfold putText; rw [List.length_append]; omega
end Go.Proofs.YtiokibikhanfcaaGreat

set_option linter.unusedVariables false
set_option linter.unusedSimpArgs false
set_option maxRecDepth 100000
namespace Go.Proofs.YtiokibikhanfcaaGreat
open Go.KH

/-! ## Records -/
def stepB (s : UStep) : List UInt8 := putNum s.kind ++ putNum s.dst ++ putNum s.src ++ putText s.data
def recordB (n : Int) (s : UStep) : List UInt8 := sealB (putNum n ++ stepB s)
def recordBytes (n : Int) (s : UStep) : List UInt8 := if (0 ≤ n ∧ n ≤ 1000000) ∧ stepOk s 8 then recordB n s else []
theorem stepOk_data {s : UStep} {b : Int} (h : stepOk s b) : s.data.length ≤ 8 := by
  have := h.2.2.2
  split at this
  · omega
  · rw [this]; simp
theorem stepB_le {s : UStep} (hs : s.ok) (hd : s.data.length ≤ 8000) : (stepB s).length ≤ 8040 := by
  have l1 := putNum_le hs.1
  have l2 := putNum_le hs.2.1
  have l3 := putNum_le hs.2.2.1
  have l4 := putText_le (t := s.data) (by omega)
  unfold stepB
  simp only [List.length_append]; omega
/-- spec.l06Bytes -/
def b_spec_l06Bytes : C := (.seq (.ops [⟨(some 1), none, .box (.t 0)⟩, q 2 (.mv (.c (str [])))])
 (.seq (.dops true (.tk (q 3 (.fld 0 (.t 1))) (.tk (q 4 (.ld false 1 (.t 3))) (.tk (q 6 (.fld 1 (.t 1))) (.tk (q 7 (.ld false 1 (.t 6))) (.tk (q 10 (.fld 2 (.t 1))) (.tk (q 11 (.ld false 1 (.t 10))) (.tk (q 14 (.fld 3 (.t 1))) (.tk (q 15 (.ld false 1 (.t 14))) (.sq (⟨(some 5), none, .call (.c (.func (.func 215) #[] #[])) [(.t 4)]⟩) (.sq (⟨(some 8), none, .call (.c (.func (.func 215) #[] #[])) [(.t 7)]⟩) (.tk (q 9 (.bin .add (.t 5) (.t 8))) (.sq (⟨(some 12), none, .call (.c (.func (.func 215) #[] #[])) [(.t 11)]⟩) (.tk (q 13 (.bin .add (.t 9) (.t 12))) (.sq (⟨(some 16), none, .call (.c (.func (.func 217) #[] #[])) [(.t 15)]⟩) (.tk (q 17 (.bin .add (.t 13) (.t 16))) (.tk (q 2 (.mv (.t 17))) .nil)))))))))))))))))
 .ret))
theorem w_spec_l06Bytes {args : List Value} {h : H} {Q : Value → H → Prop} (hl : args.length ≤ 18) (hk : wpc Tryz.prog b_spec_l06Bytes (retw [.tmp 2] Q) (argsFr args) h) : AC Tryz.prog 239 args h Q :=
  AC.of_wpc mixedOrders Tryz.func239 (by kernel_rfl) (by kernel_rfl : prepF Tryz.prog Tryz.f239 = some ⟨18, [.tmp 2], b_spec_l06Bytes⟩) hl hk

theorem l06Bytes_pc (h : H) (s : UStep) (hs : s.ok) (hd : s.data.length ≤ 8000) : PC Tryz.prog 239 [.agg s.cells.toArray] h (str (stepB s)) := by
  have l1 := putNum_le hs.1
  have l2 := putNum_le hs.2.1
  have l3 := putNum_le hs.2.2.1
  have l4 := putText_le (t := s.data) (by omega)
  refine PC_of ?_
  refine w_spec_l06Bytes (by simp) ?_
  unfold b_spec_l06Bytes
  simp -implicitDefEqProofs only [go_sem]
  intro b1 hb_b1 n_b1
  simp -implicitDefEqProofs only [go_sem, hb_b1]
  refine (specPutNum_pc _ _ hs.1).use ?_
  simp -implicitDefEqProofs only [go_sem, hb_b1]
  refine (specPutNum_pc _ _ hs.2.1).use ?_
  simp -implicitDefEqProofs only [go_sem, hb_b1]
  refine Req.of (by omega) ?_
  simp -implicitDefEqProofs only [go_sem, hb_b1]
  refine (specPutNum_pc _ _ hs.2.2.1).use ?_
  simp -implicitDefEqProofs only [go_sem, hb_b1]
  refine Req.of (by simp only [List.length_append]; omega) ?_
  simp -implicitDefEqProofs only [go_sem, hb_b1]
  refine (specPutText_pc _ _ (by omega)).use ?_
  simp -implicitDefEqProofs only [go_sem, hb_b1]
  refine Req.of (by simp only [List.length_append]; omega) ?_
  simp -implicitDefEqProofs only [go_sem, hb_b1]
  exact ⟨((Ext.refl _).set' n_b1 _), rfl⟩
/-- spec.RecordBytes -/
def b_spec_RecordBytes : C := (.seq (.ops [⟨(some 3), none, .box (.t 1)⟩, q 4 (.mv (.c (str [])))])
 (.seq (.seq (.ops [q 5 (.mv (.t 0)), ⟨(some 6), none, .call (.c (.func (.func 76) #[] #[])) [(.t 5), (.c (i64 0)), (.c (i64 1000000))]⟩, q 7 (.un .not (.t 6)), q 8 (.mv (.t 7)), qg 9 8 false (.ld true 4 (.t 3)), ⟨(some 10), (some (8, false)), .call (.c (.func (.func 203) #[] #[])) [(.t 9), (.c (i64 8))]⟩, qg 11 8 false (.un .not (.t 10)), q 12 (.pick (.t 8) (.c (.bool true)) (.t 11))])
 (.cond (.t 12) (.seq (.ops [q 4 (.mv (.c (str [])))])
 .ret) .skip))
 (.seq (.dops true (.tk (q 13 (.mv (.t 0))) (.tk (q 15 (.ld true 4 (.t 3))) (.sq (⟨(some 14), none, .call (.c (.func (.func 215) #[] #[])) [(.t 13)]⟩) (.sq (⟨(some 16), none, .call (.c (.func (.func 239) #[] #[])) [(.t 15)]⟩) (.tk (q 17 (.bin .add (.t 14) (.t 16))) (.sq (⟨(some 18), none, .call (.c (.func (.func 220) #[] #[])) [(.t 17)]⟩) (.tk (q 4 (.mv (.t 18))) .nil))))))))
 .ret)))
theorem w_spec_RecordBytes {args : List Value} {h : H} {Q : Value → H → Prop} (hl : args.length ≤ 19) (hk : wpc Tryz.prog b_spec_RecordBytes (retw [.tmp 4] Q) (argsFr args) h) : AC Tryz.prog 230 args h Q :=
  AC.of_wpc mixedOrders Tryz.func230 (by kernel_rfl) (by kernel_rfl : prepF Tryz.prog Tryz.f230 = some ⟨19, [.tmp 4], b_spec_RecordBytes⟩) hl hk

theorem specRecordBytes_pc (h : H) (n : Int) (s : UStep) (hn : in64 n) (hs : s.ok) : PC Tryz.prog 230 [i64 n, .agg s.cells.toArray] h (str (recordBytes n s)) := by
  have l1 := putNum_le hn
  refine PC_of ?_
  unfold recordBytes
  refine w_spec_RecordBytes (by simp) ?_
  unfold b_spec_RecordBytes
  simp -implicitDefEqProofs only [go_sem]
  intro b1 hb_b1 n_b1
  simp -implicitDefEqProofs only [go_sem, hb_b1]
  refine (l03Is_pc _ _ _ _).use ?_
  simp -implicitDefEqProofs only [go_sem, hb_b1]
  refine Br.of (fun h1 => ?_) (fun h1 => ?_)
  · simp -implicitDefEqProofs only [go_sem, h1, hb_b1]
    refine (specStepRight_pc _ s).use ?_
    simp -implicitDefEqProofs only [go_sem, h1, hb_b1]
    refine Br.of (fun h2 => ?_) (fun h2 => ?_)
    · have h3 := h2
      have hd := stepOk_data h3
      have l2 := stepB_le hs (by omega)
      have l3 : (stepB s).length ≤ 60 := by
        have l1 := putNum_le hs.1
        have l2 := putNum_le hs.2.1
        have l3 := putNum_le hs.2.2.1
        have l4 := putText_le (t := s.data) (by omega)
        unfold stepB
        simp only [List.length_append]; omega
      simp -implicitDefEqProofs only [go_sem, h1, h2, hb_b1]
      refine (specPutNum_pc _ _ hn).use ?_
      simp -implicitDefEqProofs only [go_sem, hb_b1]
      refine (l06Bytes_pc _ s hs (by omega)).use ?_
      simp -implicitDefEqProofs only [go_sem, hb_b1]
      refine Req.of (by omega) ?_
      simp -implicitDefEqProofs only [go_sem, hb_b1]
      refine (specSeal_pc _ _ (by simp only [List.length_append]; omega)).use ?_
      simp -implicitDefEqProofs only [go_sem, hb_b1]
      rw [if_pos ⟨h1, h3⟩]
      exact ⟨((Ext.refl _).set' n_b1 _), rfl⟩
    · simp -implicitDefEqProofs only [go_sem, h1, h2, hb_b1]
      exact ((Ext.refl _).set' n_b1 _)
  · simp -implicitDefEqProofs only [go_sem, h1, hb_b1]
    exact ((Ext.refl _).set' n_b1 _)
end Go.Proofs.YtiokibikhanfcaaGreat
