/- A helper of this seat's claims (contracts of the functions): what it shows is shown for every input that its statements name, on no other condition. -/
import Derived.Test.YtdofcojbjcpikaaC12h
import Derived.Test.YtdofcojbjcpikaaC13a
set_option linter.unusedVariables false
set_option linter.unusedSimpArgs false
set_option maxRecDepth 100000
namespace Go.Proofs.Ytdofcojbjcpikaa
open Go.KH

/-! ## The bytes of states -/
theorem sl_ints {h : H} {b z c : Nat} {l : List Int} (hb : h.get b = some ⟨l.map i64, z⟩) (hc : l.length ≤ c) : Sl h (sl b 0 l.length c) 1 (ints l) :=
  ⟨_, _, b, 0, by rw [List.length_map], by rw [List.length_map]; exact hc, by rw [List.length_map]; rfl, fun i r hr => by
    simp only [List.getElem?_map, Option.map_eq_some_iff] at hr
    obtain ⟨n, hn, rfl⟩ := hr
    have hi := (List.getElem?_eq_some_iff.1 hn).1
    rw [ldc_get hb, Nat.zero_add, Nat.mul_one]
    simp only [List.length_map]
    rw [if_pos (by omega), List.drop_eq_getElem_cons (by simpa using hi)]
    obtain ⟨h1, h2⟩ := List.getElem?_eq_some_iff.1 hn
    simp [h2]⟩
def stateB (s : UState) : List UInt8 := putNum s.phase ++ putNum s.tries ++ putNum s.need ++ putNum s.stash ++ putNum s.done ++ putNum (bitsN s.held) ++ putNum (bitsN s.mine) ++ putText s.digest
def stateBytes (s : UState) : List UInt8 := if stateOk s then stateB s else []
theorem stateOk_digest {s : UState} (h : stateOk s) : s.digest.length ≤ 32 := by
  have := h.2.2.2.2
  split at this
  · rw [this.2.2.2.2.1]; simp
  · omega
theorem stateOk_in {s : UState} (h : stateOk s) : in64 s.phase ∧ in64 s.tries ∧ in64 s.need ∧ in64 s.stash ∧ in64 s.done ∧ in64 (bitsN s.held) ∧ in64 (bitsN s.mine) := by
  have h1 := bits24 h.2.1
  have h2 := bits24 h.2.2.1
  have h3 := h.1
  have := h.2.2.2.2
  unfold in64
  split at this <;> omega
theorem stateB_le {s : UState} (h : stateOk s) : (stateB s).length ≤ 112 := by
  obtain ⟨i1, i2, i3, i4, i5, i6, i7⟩ := stateOk_in h
  have hd := stateOk_digest h
  have l1 := putNum_le i1
  have l2 := putNum_le i2
  have l3 := putNum_le i3
  have l4 := putNum_le i4
  have l5 := putNum_le i5
  have l6 := putNum_le i6
  have l7 := putNum_le i7
  have l8 := putText_le (t := s.digest) (by omega)
  unfold stateB
  simp only [List.length_append]; omega
/-- impl.stateBytes -/
def b_impl_stateBytes : C := (.seq (.ops [⟨(some 1), none, .box (.t 0)⟩, q 2 (.mv (.c (str [])))])
 (.seq (.dops true (.tk (q 3 (.fld 0 (.t 1))) (.tk (q 4 (.ld false 1 (.t 3))) (.tk (q 5 (.fld 1 (.t 1))) (.tk (q 6 (.ld false 1 (.t 5))) (.tk (q 7 (.fld 2 (.t 1))) (.tk (q 8 (.ld false 1 (.t 7))) (.tk (q 9 (.fld 3 (.t 1))) (.tk (q 10 (.ld false 1 (.t 9))) (.tk (q 11 (.fld 4 (.t 1))) (.tk (q 12 (.ld false 1 (.t 11))) (.tk (q 13 (.fld 6 (.t 1))) (.tk (q 14 (.ld false 1 (.t 13))) (.tk (q 16 (.fld 7 (.t 1))) (.tk (q 17 (.ld false 1 (.t 16))) (.tk (q 21 (.fld 5 (.t 1))) (.tk (q 22 (.ld false 1 (.t 21))) (.sq (⟨(some 15), none, .call (.c (.func (.func 42) #[] #[])) [(.t 14)]⟩) (.sq (⟨(some 18), none, .call (.c (.func (.func 42) #[] #[])) [(.t 17)]⟩) (.sq (⟨(some 19), none, .bsl 7 [(i64 0), (i64 0), (i64 0), (i64 0), (i64 0), (i64 0), (i64 0)] [(0, 1, (.t 4)), (1, 1, (.t 6)), (2, 1, (.t 8)), (3, 1, (.t 10)), (4, 1, (.t 12)), (5, 1, (.t 15)), (6, 1, (.t 18))]⟩) (.sq (⟨(some 20), none, .call (.c (.func (.func 44) #[] #[])) [(.t 19)]⟩) (.sq (⟨(some 23), none, .call (.c (.func (.func 45) #[] #[])) [(.t 22)]⟩) (.tk (q 24 (.bin .add (.t 20) (.t 23))) (.tk (q 2 (.mv (.t 24))) .nil))))))))))))))))))))))))
 .ret))
theorem w_impl_stateBytes {args : List Value} {h : H} {Q : Value → H → Prop} (hl : args.length ≤ 25) (hk : wpc Try.prog b_impl_stateBytes (retw [.tmp 2] Q) (argsFr args) h) : AC Try.prog 19 args h Q :=
  AC.of_wpc mixedOrders Try.func19 (by kernel_rfl) (by kernel_rfl : prepF Try.prog Try.f19 = some ⟨25, [.tmp 2], b_impl_stateBytes⟩) hl hk

theorem stateBytes_pc {h : H} (s : UState) {vh vm : Value} (hh : Sl h vh 1 (ints s.held)) (hm : Sl h vm 1 (ints s.mine)) (hok : stateOk s) : PC Try.prog 19 [.agg (s.cells vh vm).toArray] h (str (stateB s)) := by
  obtain ⟨i1, i2, i3, i4, i5, i6, i7⟩ := stateOk_in hok
  have hd := stateOk_digest hok
  have hB := stateB_le hok
  refine PC_of ?_
  refine w_impl_stateBytes (by simp) ?_
  unfold b_impl_stateBytes
  simp -implicitDefEqProofs only [go_sem]
  intro b1 hb_b1 n_b1
  simp -implicitDefEqProofs only [go_sem, hb_b1]
  refine (bitsOf_pc (hh.ext ((Ext.refl _).set' n_b1 _)) hok.2.1).use ?_
  simp -implicitDefEqProofs only [go_sem, hb_b1]
  refine (bitsOf_pc (hm.ext ((Ext.refl _).set' n_b1 _)) hok.2.2.1).use ?_
  simp -implicitDefEqProofs only [go_sem, hb_b1]
  intro b2 hb_b2 m0_b2
  obtain ⟨z_b2_b1, y_b2_b1, n_b2⟩ := fne m0_b2
  simp only [H.set_base] at hb_b2
  refine ⟨Sub.set (Sub.refl _) (by rw [H.set_get_ne _ _ _ _ (of_eq_false z_b2_b1)]; exact n_b2) _, ?_⟩
  simp -implicitDefEqProofs only [go_sem, hb_b1, hb_b2, z_b2_b1, y_b2_b1]
  refine (putNums_pc (l := [s.phase, s.tries, s.need, s.stash, s.done, (bitsN s.held : Int), (bitsN s.mine : Int)]) (sl_ints (H.set_get_same _ _ _) (Nat.le_refl _)) (by simp) (by intro x hx; simp at hx; rcases hx with rfl | rfl | rfl | rfl | rfl | rfl | rfl <;> assumption)).use ?_
  refine ⟨Sub.set (Sub.refl _) (by rw [H.set_get_ne _ _ _ _ (of_eq_false z_b2_b1)]; exact n_b2) _, ?_⟩
  simp -implicitDefEqProofs only [go_sem, hb_b1, hb_b2, z_b2_b1, y_b2_b1]
  refine (putText_pc _ _ (by omega)).use ?_
  refine ⟨Sub.set (Sub.refl _) (by rw [H.set_get_ne _ _ _ _ (of_eq_false z_b2_b1)]; exact n_b2) _, ?_⟩
  simp -implicitDefEqProofs only [go_sem, hb_b1, hb_b2, z_b2_b1, y_b2_b1]
  have e : [s.phase, s.tries, s.need, s.stash, s.done, (bitsN s.held : Int), (bitsN s.mine : Int)].flatMap putNum ++ putText s.digest = stateB s := by simp [stateB]
  refine Req.of (by rw [← e] at hB; simp only [List.length_append] at hB; omega) ?_
  rw [e]
  simp -implicitDefEqProofs only [go_sem, hb_b1, hb_b2, z_b2_b1, y_b2_b1]
  exact (((Ext.refl _).set' n_b1 _).set' n_b2 _)
/-- spec.l12Bytes -/
def b_spec_l12Bytes : C := (.seq (.ops [⟨(some 1), none, .box (.t 0)⟩, q 2 (.mv (.c (str [])))])
 (.seq (.dops true (.tk (q 3 (.fld 0 (.t 1))) (.tk (q 4 (.ld false 1 (.t 3))) (.tk (q 6 (.fld 1 (.t 1))) (.tk (q 7 (.ld false 1 (.t 6))) (.tk (q 10 (.fld 2 (.t 1))) (.tk (q 11 (.ld false 1 (.t 10))) (.tk (q 14 (.fld 3 (.t 1))) (.tk (q 15 (.ld false 1 (.t 14))) (.tk (q 18 (.fld 4 (.t 1))) (.tk (q 19 (.ld false 1 (.t 18))) (.tk (q 22 (.fld 6 (.t 1))) (.tk (q 23 (.ld false 1 (.t 22))) (.tk (q 27 (.fld 7 (.t 1))) (.tk (q 28 (.ld false 1 (.t 27))) (.tk (q 32 (.fld 5 (.t 1))) (.tk (q 33 (.ld false 1 (.t 32))) (.sq (⟨(some 5), none, .call (.c (.func (.func 50) #[] #[])) [(.t 4)]⟩) (.sq (⟨(some 8), none, .call (.c (.func (.func 50) #[] #[])) [(.t 7)]⟩) (.tk (q 9 (.bin .add (.t 5) (.t 8))) (.sq (⟨(some 12), none, .call (.c (.func (.func 50) #[] #[])) [(.t 11)]⟩) (.tk (q 13 (.bin .add (.t 9) (.t 12))) (.sq (⟨(some 16), none, .call (.c (.func (.func 50) #[] #[])) [(.t 15)]⟩) (.tk (q 17 (.bin .add (.t 13) (.t 16))) (.sq (⟨(some 20), none, .call (.c (.func (.func 50) #[] #[])) [(.t 19)]⟩) (.tk (q 21 (.bin .add (.t 17) (.t 20))) (.sq (⟨(some 24), none, .call (.c (.func (.func 51) #[] #[])) [(.t 23)]⟩) (.sq (⟨(some 25), none, .call (.c (.func (.func 50) #[] #[])) [(.t 24)]⟩) (.tk (q 26 (.bin .add (.t 21) (.t 25))) (.sq (⟨(some 29), none, .call (.c (.func (.func 51) #[] #[])) [(.t 28)]⟩) (.sq (⟨(some 30), none, .call (.c (.func (.func 50) #[] #[])) [(.t 29)]⟩) (.tk (q 31 (.bin .add (.t 26) (.t 30))) (.sq (⟨(some 34), none, .call (.c (.func (.func 52) #[] #[])) [(.t 33)]⟩) (.tk (q 35 (.bin .add (.t 31) (.t 34))) (.tk (q 2 (.mv (.t 35))) .nil)))))))))))))))))))))))))))))))))))
 .ret))
theorem w_spec_l12Bytes {args : List Value} {h : H} {Q : Value → H → Prop} (hl : args.length ≤ 36) (hk : wpc Try.prog b_spec_l12Bytes (retw [.tmp 2] Q) (argsFr args) h) : AC Try.prog 25 args h Q :=
  AC.of_wpc mixedOrders Try.func25 (by kernel_rfl) (by kernel_rfl : prepF Try.prog Try.f25 = some ⟨36, [.tmp 2], b_spec_l12Bytes⟩) hl hk

theorem l12Bytes_pc {h : H} (s : UState) {vh vm : Value} (hh : Sl h vh 1 (ints s.held)) (hm : Sl h vm 1 (ints s.mine)) (hok : stateOk s) : PC Try.prog 25 [.agg (s.cells vh vm).toArray] h (str (stateB s)) := by
  obtain ⟨i1, i2, i3, i4, i5, i6, i7⟩ := stateOk_in hok
  have hd := stateOk_digest hok
  have hB := stateB_le hok
  unfold stateB at hB
  simp only [List.length_append] at hB
  refine PC_of ?_
  refine w_spec_l12Bytes (by simp) ?_
  unfold b_spec_l12Bytes
  simp -implicitDefEqProofs only [go_sem]
  intro b1 hb_b1 n_b1
  simp -implicitDefEqProofs only [go_sem, hb_b1]
  refine (specPutNum_pc _ _ i1).use ?_
  simp -implicitDefEqProofs only [go_sem, hb_b1]
  refine (specPutNum_pc _ _ i2).use ?_
  simp -implicitDefEqProofs only [go_sem, hb_b1]
  refine Req.of (by omega) ?_
  simp -implicitDefEqProofs only [go_sem, hb_b1]
  refine (specPutNum_pc _ _ i3).use ?_
  simp -implicitDefEqProofs only [go_sem, hb_b1]
  refine Req.of (by simp only [List.length_append]; omega) ?_
  simp -implicitDefEqProofs only [go_sem, hb_b1]
  refine (specPutNum_pc _ _ i4).use ?_
  simp -implicitDefEqProofs only [go_sem, hb_b1]
  refine Req.of (by simp only [List.length_append]; omega) ?_
  simp -implicitDefEqProofs only [go_sem, hb_b1]
  refine (specPutNum_pc _ _ i5).use ?_
  simp -implicitDefEqProofs only [go_sem, hb_b1]
  refine Req.of (by simp only [List.length_append]; omega) ?_
  simp -implicitDefEqProofs only [go_sem, hb_b1]
  refine (specBitsOf_pc (hh.ext ((Ext.refl _).set' n_b1 _)) hok.2.1).use ?_
  simp -implicitDefEqProofs only [go_sem, hb_b1]
  refine (specPutNum_pc _ _ i6).use ?_
  simp -implicitDefEqProofs only [go_sem, hb_b1]
  refine Req.of (by simp only [List.length_append]; omega) ?_
  simp -implicitDefEqProofs only [go_sem, hb_b1]
  refine (specBitsOf_pc (hm.ext ((Ext.refl _).set' n_b1 _)) hok.2.2.1).use ?_
  simp -implicitDefEqProofs only [go_sem, hb_b1]
  refine (specPutNum_pc _ _ i7).use ?_
  simp -implicitDefEqProofs only [go_sem, hb_b1]
  refine Req.of (by simp only [List.length_append]; omega) ?_
  simp -implicitDefEqProofs only [go_sem, hb_b1]
  refine (specPutText_pc _ _ (by omega)).use ?_
  simp -implicitDefEqProofs only [go_sem, hb_b1]
  refine Req.of (by simp only [List.length_append]; omega) ?_
  simp -implicitDefEqProofs only [go_sem, hb_b1]
  exact ⟨((Ext.refl _).set' n_b1 _), rfl⟩
/-- impl.StateBytes -/
def b_impl_StateBytes : C := (.seq (.ops [⟨(some 1), none, .box (.t 0)⟩, q 2 (.mv (.c (str [])))])
 (.seq (.seq (.ops [q 3 (.ld true 8 (.t 1)), ⟨(some 4), none, .call (.c (.func (.func 18) #[] #[])) [(.t 3)]⟩, q 5 (.un .not (.t 4))])
 (.cond (.t 5) (.seq (.ops [q 2 (.mv (.c (str [])))])
 .ret) .skip))
 (.seq (.ops [q 6 (.ld true 8 (.t 1)), ⟨(some 7), none, .call (.c (.func (.func 19) #[] #[])) [(.t 6)]⟩, q 2 (.mv (.t 7))])
 .ret)))
theorem w_impl_StateBytes {args : List Value} {h : H} {Q : Value → H → Prop} (hl : args.length ≤ 8) (hk : wpc Try.prog b_impl_StateBytes (retw [.tmp 2] Q) (argsFr args) h) : AC Try.prog 5 args h Q :=
  AC.of_wpc mixedOrders Try.func5 (by kernel_rfl) (by kernel_rfl : prepF Try.prog Try.f5 = some ⟨8, [.tmp 2], b_impl_StateBytes⟩) hl hk

theorem implStateBytes_pc {h : H} (s : UState) {vh vm : Value} (hh : Sl h vh 1 (ints s.held)) (hm : Sl h vm 1 (ints s.mine)) (hs : s.small) : PC Try.prog 5 [.agg (s.cells vh vm).toArray] h (str (stateBytes s)) := by
  refine PC_of ?_
  unfold stateBytes
  refine w_impl_StateBytes (by simp) ?_
  unfold b_impl_StateBytes
  simp -implicitDefEqProofs only [go_sem]
  intro b1 hb_b1 n_b1
  simp -implicitDefEqProofs only [go_sem, hb_b1]
  refine (isState_pc s (hh.ext ((Ext.refl _).set' n_b1 _)) (hm.ext ((Ext.refl _).set' n_b1 _)) hs).use ?_
  simp -implicitDefEqProofs only [go_sem, hb_b1]
  refine Br.of (fun h1 => ?_) (fun h1 => ?_)
  · simp -implicitDefEqProofs only [go_sem, h1, hb_b1]
    refine (stateBytes_pc s (hh.ext ((Ext.refl _).set' n_b1 _)) (hm.ext ((Ext.refl _).set' n_b1 _)) h1).use ?_
    simp -implicitDefEqProofs only [go_sem, h1, hb_b1]
    exact ((Ext.refl _).set' n_b1 _)
  · simp -implicitDefEqProofs only [go_sem, h1, hb_b1]
    exact ((Ext.refl _).set' n_b1 _)
/-- spec.StateBytes -/
def b_spec_StateBytes : C := (.seq (.ops [⟨(some 1), none, .box (.t 0)⟩, q 2 (.mv (.c (str [])))])
 (.seq (.seq (.ops [q 3 (.ld true 8 (.t 1)), ⟨(some 4), none, .call (.c (.func (.func 14) #[] #[])) [(.t 3)]⟩, q 5 (.un .not (.t 4))])
 (.cond (.t 5) (.seq (.ops [q 2 (.mv (.c (str [])))])
 .ret) .skip))
 (.seq (.ops [q 6 (.ld true 8 (.t 1)), ⟨(some 7), none, .call (.c (.func (.func 25) #[] #[])) [(.t 6)]⟩, q 2 (.mv (.t 7))])
 .ret)))
theorem w_spec_StateBytes {args : List Value} {h : H} {Q : Value → H → Prop} (hl : args.length ≤ 8) (hk : wpc Try.prog b_spec_StateBytes (retw [.tmp 2] Q) (argsFr args) h) : AC Try.prog 9 args h Q :=
  AC.of_wpc mixedOrders Try.func9 (by kernel_rfl) (by kernel_rfl : prepF Try.prog Try.f9 = some ⟨8, [.tmp 2], b_spec_StateBytes⟩) hl hk

theorem specStateBytes_pc {h : H} (s : UState) {vh vm : Value} (hh : Sl h vh 1 (ints s.held)) (hm : Sl h vm 1 (ints s.mine)) (hs : s.small) : PC Try.prog 9 [.agg (s.cells vh vm).toArray] h (str (stateBytes s)) := by
  refine PC_of ?_
  unfold stateBytes
  refine w_spec_StateBytes (by simp) ?_
  unfold b_spec_StateBytes
  simp -implicitDefEqProofs only [go_sem]
  intro b1 hb_b1 n_b1
  simp -implicitDefEqProofs only [go_sem, hb_b1]
  refine (specStateRight_pc s (hh.ext ((Ext.refl _).set' n_b1 _)) (hm.ext ((Ext.refl _).set' n_b1 _)) hs).use ?_
  simp -implicitDefEqProofs only [go_sem, hb_b1]
  refine Br.of (fun h1 => ?_) (fun h1 => ?_)
  · simp -implicitDefEqProofs only [go_sem, h1, hb_b1]
    refine (l12Bytes_pc s (hh.ext ((Ext.refl _).set' n_b1 _)) (hm.ext ((Ext.refl _).set' n_b1 _)) h1).use ?_
    simp -implicitDefEqProofs only [go_sem, h1, hb_b1]
    exact ((Ext.refl _).set' n_b1 _)
  · simp -implicitDefEqProofs only [go_sem, h1, hb_b1]
    exact ((Ext.refl _).set' n_b1 _)
end Go.Proofs.Ytdofcojbjcpikaa
