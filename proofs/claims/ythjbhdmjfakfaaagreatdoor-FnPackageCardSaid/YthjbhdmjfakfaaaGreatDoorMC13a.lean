/- A helper of this seat's claims (contracts of the functions): what it shows is shown for every input that its statements name, on no other condition. -/
import Derived.Test.YthjbhdmjfakfaaaGreatDoorC01
import Derived.Test.YthjbhdmjfakfaaaGreatDoorC06
set_option linter.unusedVariables false
set_option linter.unusedSimpArgs false
set_option maxRecDepth 100000
namespace Go.Proofs.YthjbhdmjfakfaaaGreatDoor
open Go.KH

/-! ## Notes -/
def noteB (n at_ : Int) (data : List UInt8) : List UInt8 := sealB (putNum n ++ putNum at_ ++ putText data)
def noteBytes (n at_ : Int) (data : List UInt8) : List UInt8 := if (0 ≤ n ∧ n ≤ 1000000) ∧ (0 ≤ at_ ∧ at_ ≤ 39) ∧ data.length = 8 then noteB n at_ data else []
theorem putText_le {t : List UInt8} (h : t.length ≤ 1099511627776) : (putText t).length ≤ t.length + 10 := by
  have := putNum_le (n := (t.length : Int)) ⟨by omega, by omega⟩
  unfold putText; rw [List.length_append]; omega
/-- impl.noteBytes -/
def b_impl_noteBytes : C := (.seq (.ops [q 6 (.mv (.c (str [])))])
 (.seq (.ops [q 7 (.mv (.t 0)), q 8 (.mv (.t 1)), ⟨(some 9), none, .bsl 2 [(i64 0), (i64 0)] [(0, 1, (.t 7)), (1, 1, (.t 8))]⟩, ⟨(some 10), none, .call (.c (.func (.func 181) #[] #[])) [(.t 9)]⟩, q 11 (.mv (.t 2)), ⟨(some 12), none, .call (.c (.func (.func 95) #[] #[])) [(.t 11)]⟩, q 13 (.bin .add (.t 10) (.t 12)), ⟨(some 14), none, .call (.c (.func (.func 98) #[] #[])) [(.t 13)]⟩, q 6 (.mv (.t 14))])
 .ret))
theorem w_impl_noteBytes {args : List Value} {h : H} {Q : Value → H → Prop} (hl : args.length ≤ 15) (hk : wpc Tryz.prog b_impl_noteBytes (retw [.tmp 6] Q) (argsFr args) h) : AC Tryz.prog 212 args h Q :=
  AC.of_wpc mixedOrders Tryz.func212 (by kernel_rfl) (by kernel_rfl : prepF Tryz.prog Tryz.f212 = some ⟨15, [.tmp 6], b_impl_noteBytes⟩) hl hk

theorem implNoteB_pc (h : H) (n at_ : Int) (data : List UInt8) (hn : in64 n) (ha : in64 at_) (hd : data.length ≤ 8000) : PC Tryz.prog 212 [i64 n, i64 at_, str data] h (str (noteB n at_ data)) := by
  have l1 := putNum_le hn
  have l2 := putNum_le ha
  have l3 := putText_le (t := data) (by omega)
  refine PC_of ?_
  refine w_impl_noteBytes (by simp) ?_
  unfold b_impl_noteBytes
  simp -implicitDefEqProofs only [go_sem]
  intro b1 hb_b1 n_b1
  simp -implicitDefEqProofs only [go_sem, hb_b1]
  have hs : Sl (h.set b1 ⟨[i64 n, i64 at_], 2⟩) (sl b1 0 2 2) 1 ([n, at_].map fun n => [i64 n]) :=
    ⟨_, _, b1, 0, rfl, Nat.le_refl _, rfl, fun i r hr => by
      match i, hr with
      | 0, hr => simp only [List.map_cons, List.map_nil, List.getElem?_cons_zero, Option.some.injEq] at hr; subst hr; simp [ldc]
      | 1, hr => simp only [List.map_cons, List.map_nil, List.getElem?_cons_succ, List.getElem?_cons_zero, Option.some.injEq] at hr; subst hr; simp [ldc]
      | i + 2, hr => simp at hr⟩
  refine (putNums_pc hs (by simp) (by intro x hx; simp at hx; rcases hx with rfl | rfl; exact hn; exact ha)).use ?_
  simp -implicitDefEqProofs only [go_sem, hb_b1]
  refine (putText_pc _ _ (by omega)).use ?_
  simp -implicitDefEqProofs only [go_sem, hb_b1]
  have e : [n, at_].flatMap putNum = putNum n ++ putNum at_ := by simp
  rw [e]
  refine Req.of (by simp only [List.length_append]; omega) ?_
  simp -implicitDefEqProofs only [go_sem, hb_b1]
  refine (seal_pc _ _ (by simp only [List.length_append]; omega)).use ?_
  simp -implicitDefEqProofs only [go_sem, hb_b1]
  exact ⟨((Ext.refl _).set' n_b1 _), rfl⟩
end Go.Proofs.YthjbhdmjfakfaaaGreatDoor

set_option linter.unusedVariables false
set_option linter.unusedSimpArgs false
set_option maxRecDepth 100000
namespace Go.Proofs.YthjbhdmjfakfaaaGreatDoor
open Go.KH

/-! ## Records -/
def stepB (s : UStep) : List UInt8 := putNum s.kind ++ putNum s.dst ++ putNum s.src ++ putText s.data
def recordB (n : Int) (s : UStep) : List UInt8 := sealB (putNum n ++ stepB s)
def recordBytes (n : Int) (s : UStep) : List UInt8 := if (0 ≤ n ∧ n ≤ 1000000) ∧ stepOk s 8 then recordB n s else []
theorem stepOk_data {s : UStep} {b : Int} (h : stepOk s b) : s.data.length ≤ 8 := by
  have := h.2.2.2
  split at this
  · omega
  · rw [this]; simp
theorem stepB_le {s : UStep} (hs : s.ok) (hd : s.data.length ≤ 8000) : (stepB s).length ≤ 8040 := by
  have l1 := putNum_le hs.1
  have l2 := putNum_le hs.2.1
  have l3 := putNum_le hs.2.2.1
  have l4 := putText_le (t := s.data) (by omega)
  unfold stepB
  simp only [List.length_append]; omega
theorem sl3 {h : H} {b : Nat} {x y z : Int} (hb : h.get b = some ⟨[i64 x, i64 y, i64 z], 3⟩) : Sl h (sl b 0 3 3) 1 ([x, y, z].map fun n => [i64 n]) :=
  ⟨_, _, b, 0, rfl, Nat.le_refl _, rfl, fun i r hr => by
    match i, hr with
    | 0, hr => simp only [List.map_cons, List.map_nil, List.getElem?_cons_zero, Option.some.injEq] at hr; subst hr; simp [ldc, hb]
    | 1, hr => simp only [List.map_cons, List.map_nil, List.getElem?_cons_succ, List.getElem?_cons_zero, Option.some.injEq] at hr; subst hr; simp [ldc, hb]
    | 2, hr => simp only [List.map_cons, List.map_nil, List.getElem?_cons_succ, List.getElem?_cons_zero, Option.some.injEq] at hr; subst hr; simp [ldc, hb]
    | i + 3, hr => simp at hr⟩
/-- impl.stepBytes -/
def b_impl_stepBytes : C := (.seq (.ops [⟨(some 1), none, .box (.t 0)⟩, q 2 (.mv (.c (str [])))])
 (.seq (.dops true (.tk (q 3 (.fld 0 (.t 1))) (.tk (q 4 (.ld false 1 (.t 3))) (.tk (q 5 (.fld 1 (.t 1))) (.tk (q 6 (.ld false 1 (.t 5))) (.tk (q 7 (.fld 2 (.t 1))) (.tk (q 8 (.ld false 1 (.t 7))) (.tk (q 11 (.fld 3 (.t 1))) (.tk (q 12 (.ld false 1 (.t 11))) (.sq (⟨(some 9), none, .bsl 3 [(i64 0), (i64 0), (i64 0)] [(0, 1, (.t 4)), (1, 1, (.t 6)), (2, 1, (.t 8))]⟩) (.sq (⟨(some 10), none, .call (.c (.func (.func 181) #[] #[])) [(.t 9)]⟩) (.sq (⟨(some 13), none, .call (.c (.func (.func 95) #[] #[])) [(.t 12)]⟩) (.tk (q 14 (.bin .add (.t 10) (.t 13))) (.tk (q 2 (.mv (.t 14))) .nil))))))))))))))
 .ret))
theorem w_impl_stepBytes {args : List Value} {h : H} {Q : Value → H → Prop} (hl : args.length ≤ 15) (hk : wpc Tryz.prog b_impl_stepBytes (retw [.tmp 2] Q) (argsFr args) h) : AC Tryz.prog 97 args h Q :=
  AC.of_wpc mixedOrders Tryz.func97 (by kernel_rfl) (by kernel_rfl : prepF Tryz.prog Tryz.f97 = some ⟨15, [.tmp 2], b_impl_stepBytes⟩) hl hk

theorem stepBytes_pc (h : H) (s : UStep) (hs : s.ok) (hd : s.data.length ≤ 8000) : PC Tryz.prog 97 [.agg s.cells.toArray] h (str (stepB s)) := by
  have l1 := putNum_le hs.1
  have l2 := putNum_le hs.2.1
  have l3 := putNum_le hs.2.2.1
  have l4 := putText_le (t := s.data) (by omega)
  refine PC_of ?_
  refine w_impl_stepBytes (by simp) ?_
  unfold b_impl_stepBytes
  simp -implicitDefEqProofs only [go_sem]
  intro b1 hb_b1 n_b1
  simp -implicitDefEqProofs only [go_sem, hb_b1]
  intro b2 hb_b2 m0_b2
  obtain ⟨z_b2_b1, y_b2_b1, n_b2⟩ := fne m0_b2
  simp only [H.set_base] at hb_b2
  refine ⟨Sub.set (Sub.refl _) (by rw [H.set_get_ne _ _ _ _ (of_eq_false z_b2_b1)]; exact n_b2) _, ?_⟩
  simp -implicitDefEqProofs only [go_sem, hb_b1, hb_b2, z_b2_b1, y_b2_b1]
  refine (putNums_pc (sl3 (H.set_get_same _ _ _)) (by simp) (by intro x hx; simp at hx; rcases hx with rfl | rfl | rfl; exact hs.1; exact hs.2.1; exact hs.2.2.1)).use ?_
  refine ⟨Sub.set (Sub.refl _) (by rw [H.set_get_ne _ _ _ _ (of_eq_false z_b2_b1)]; exact n_b2) _, ?_⟩
  simp -implicitDefEqProofs only [go_sem, hb_b1, hb_b2, z_b2_b1, y_b2_b1]
  refine (putText_pc _ _ (by omega)).use ?_
  refine ⟨Sub.set (Sub.refl _) (by rw [H.set_get_ne _ _ _ _ (of_eq_false z_b2_b1)]; exact n_b2) _, ?_⟩
  simp -implicitDefEqProofs only [go_sem, hb_b1, hb_b2, z_b2_b1, y_b2_b1]
  have e : [s.kind, s.dst, s.src].flatMap putNum = putNum s.kind ++ putNum s.dst ++ putNum s.src := by simp
  rw [e]
  refine Req.of (by simp only [List.length_append]; omega) ?_
  simp -implicitDefEqProofs only [go_sem, hb_b1, hb_b2, z_b2_b1, y_b2_b1]
  exact ⟨(((Ext.refl _).set' n_b1 _).set' n_b2 _), rfl⟩
/-- spec.l06Bytes -/
def b_spec_l06Bytes : C := (.seq (.ops [⟨(some 1), none, .box (.t 0)⟩, q 2 (.mv (.c (str [])))])
 (.seq (.dops true (.tk (q 3 (.fld 0 (.t 1))) (.tk (q 4 (.ld false 1 (.t 3))) (.tk (q 6 (.fld 1 (.t 1))) (.tk (q 7 (.ld false 1 (.t 6))) (.tk (q 10 (.fld 2 (.t 1))) (.tk (q 11 (.ld false 1 (.t 10))) (.tk (q 14 (.fld 3 (.t 1))) (.tk (q 15 (.ld false 1 (.t 14))) (.sq (⟨(some 5), none, .call (.c (.func (.func 55) #[] #[])) [(.t 4)]⟩) (.sq (⟨(some 8), none, .call (.c (.func (.func 55) #[] #[])) [(.t 7)]⟩) (.tk (q 9 (.bin .add (.t 5) (.t 8))) (.sq (⟨(some 12), none, .call (.c (.func (.func 55) #[] #[])) [(.t 11)]⟩) (.tk (q 13 (.bin .add (.t 9) (.t 12))) (.sq (⟨(some 16), none, .call (.c (.func (.func 56) #[] #[])) [(.t 15)]⟩) (.tk (q 17 (.bin .add (.t 13) (.t 16))) (.tk (q 2 (.mv (.t 17))) .nil)))))))))))))))))
 .ret))
theorem w_spec_l06Bytes {args : List Value} {h : H} {Q : Value → H → Prop} (hl : args.length ≤ 18) (hk : wpc Tryz.prog b_spec_l06Bytes (retw [.tmp 2] Q) (argsFr args) h) : AC Tryz.prog 57 args h Q :=
  AC.of_wpc mixedOrders Tryz.func57 (by kernel_rfl) (by kernel_rfl : prepF Tryz.prog Tryz.f57 = some ⟨18, [.tmp 2], b_spec_l06Bytes⟩) hl hk

theorem l06Bytes_pc (h : H) (s : UStep) (hs : s.ok) (hd : s.data.length ≤ 8000) : PC Tryz.prog 57 [.agg s.cells.toArray] h (str (stepB s)) := by
  have l1 := putNum_le hs.1
  have l2 := putNum_le hs.2.1
  have l3 := putNum_le hs.2.2.1
  have l4 := putText_le (t := s.data) (by omega)
  refine PC_of ?_
  refine w_spec_l06Bytes (by simp) ?_
  unfold b_spec_l06Bytes
  simp -implicitDefEqProofs only [go_sem]
  intro b1 hb_b1 n_b1
  simp -implicitDefEqProofs only [go_sem, hb_b1]
  refine (specPutNum_pc _ _ hs.1).use ?_
  simp -implicitDefEqProofs only [go_sem, hb_b1]
  refine (specPutNum_pc _ _ hs.2.1).use ?_
  simp -implicitDefEqProofs only [go_sem, hb_b1]
  refine Req.of (by omega) ?_
  simp -implicitDefEqProofs only [go_sem, hb_b1]
  refine (specPutNum_pc _ _ hs.2.2.1).use ?_
  simp -implicitDefEqProofs only [go_sem, hb_b1]
  refine Req.of (by simp only [List.length_append]; omega) ?_
  simp -implicitDefEqProofs only [go_sem, hb_b1]
  refine (specPutText_pc _ _ (by omega)).use ?_
  simp -implicitDefEqProofs only [go_sem, hb_b1]
  refine Req.of (by simp only [List.length_append]; omega) ?_
  simp -implicitDefEqProofs only [go_sem, hb_b1]
  exact ⟨((Ext.refl _).set' n_b1 _), rfl⟩
/-- impl.recordBytes -/
def b_impl_recordBytes : C := (.seq (.ops [⟨(some 3), none, .box (.t 1)⟩, q 4 (.mv (.c (str [])))])
 (.seq (.dops true (.tk (q 5 (.mv (.t 0))) (.tk (q 7 (.ld true 4 (.t 3))) (.sq (⟨(some 6), none, .call (.c (.func (.func 94) #[] #[])) [(.t 5)]⟩) (.sq (⟨(some 8), none, .call (.c (.func (.func 97) #[] #[])) [(.t 7)]⟩) (.tk (q 9 (.bin .add (.t 6) (.t 8))) (.sq (⟨(some 10), none, .call (.c (.func (.func 98) #[] #[])) [(.t 9)]⟩) (.tk (q 4 (.mv (.t 10))) .nil))))))))
 .ret))
theorem w_impl_recordBytes {args : List Value} {h : H} {Q : Value → H → Prop} (hl : args.length ≤ 11) (hk : wpc Tryz.prog b_impl_recordBytes (retw [.tmp 4] Q) (argsFr args) h) : AC Tryz.prog 210 args h Q :=
  AC.of_wpc mixedOrders Tryz.func210 (by kernel_rfl) (by kernel_rfl : prepF Tryz.prog Tryz.f210 = some ⟨11, [.tmp 4], b_impl_recordBytes⟩) hl hk

theorem implRecordB_pc (h : H) (n : Int) (s : UStep) (hn : in64 n) (hs : s.ok) (hd : s.data.length ≤ 8000) : PC Tryz.prog 210 [i64 n, .agg s.cells.toArray] h (str (recordB n s)) := by
  have l1 := putNum_le hn
  have l2 := stepB_le hs hd
  refine PC_of ?_
  refine w_impl_recordBytes (by simp) ?_
  unfold b_impl_recordBytes
  simp -implicitDefEqProofs only [go_sem]
  intro b1 hb_b1 n_b1
  simp -implicitDefEqProofs only [go_sem, hb_b1]
  refine (putNum_pc _ _ hn).use ?_
  simp -implicitDefEqProofs only [go_sem, hb_b1]
  refine (stepBytes_pc _ s hs hd).use ?_
  simp -implicitDefEqProofs only [go_sem, hb_b1]
  refine Req.of (by omega) ?_
  simp -implicitDefEqProofs only [go_sem, hb_b1]
  refine (seal_pc _ _ (by simp only [List.length_append]; omega)).use ?_
  simp -implicitDefEqProofs only [go_sem, hb_b1]
  exact ⟨((Ext.refl _).set' n_b1 _), rfl⟩
end Go.Proofs.YthjbhdmjfakfaaaGreatDoor
