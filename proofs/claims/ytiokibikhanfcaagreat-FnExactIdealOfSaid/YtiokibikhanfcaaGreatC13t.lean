/- A helper of this seat's claims (contracts of the functions): what it shows is shown for every input that its statements name, on no other condition. -/
import Derived.Test.YtiokibikhanfcaaGreatC13s
set_option linter.unusedVariables false
set_option linter.unusedSimpArgs false
set_option maxRecDepth 100000
namespace Go.Proofs.YtiokibikhanfcaaGreat
open Go.KH

/-! ## Machines that can be started: what is read -/
theorem stI_ok {t : List UInt8} {s : UState} (h : stI t = some s) : stateOk s := by
  unfold stI at h
  simp only at h
  split at h
  · rename_i hc
    simp only [Option.some.injEq] at h
    rw [← h]; exact hc.2.2.2.2
  · cases h
theorem stM_ok {m : UMach} {s : UState} (h : stM m = some s) : machFit m ∧ stateOk s := by
  unfold stM at h
  split at h
  · rename_i hc; exact ⟨hc.1, stI_ok h⟩
  · cases h
def areaOf (m : UMach) (n : Int) : List UInt8 := flashGet m.flash (3 + m.blocks + n)
theorem areaOf_len {m : UMach} (hf : machFit m) (n : Int) : (areaOf m n).length ≤ 96 := flashGet_len hf.2.1 _
/-- (impl.Machine).areaAt -/
def b_impl_Machine_areaAt : C := (.seq (.ops [⟨(some 2), none, .box (.t 0)⟩, q 4 (.mv (.c (i64 0)))])
 (.seq (.ops [q 5 (.fld 0 (.t 2)), q 6 (.ld false 1 (.t 5)), q 7 (.bin .add (.c (i64 3)) (.t 6)), q 8 (.mv (.t 1)), q 9 (.bin .add (.t 7) (.t 8)), q 4 (.mv (.t 9))])
 .ret))
theorem w_impl_Machine_areaAt {args : List Value} {h : H} {Q : Value → H → Prop} (hl : args.length ≤ 10) (hk : wpc Tryz.prog b_impl_Machine_areaAt (retw [.tmp 4] Q) (argsFr args) h) : AC Tryz.prog 115 args h Q :=
  AC.of_wpc mixedOrders Tryz.func115 (by kernel_rfl) (by kernel_rfl : prepF Tryz.prog Tryz.f115 = some ⟨10, [.tmp 4], b_impl_Machine_areaAt⟩) hl hk

theorem areaAt_pc {h : H} {cs : List Value} {m : UMach} {n : Int} (hv : RepR h (spMach m) cs) (hb : 1 ≤ m.blocks ∧ m.blocks ≤ 8) (hn : 0 ≤ n ∧ n ≤ 100) : PC Tryz.prog 115 [.agg cs.toArray, i64 n] h (i64 (3 + m.blocks + n)) := by
  obtain ⟨vs, vd, rfl, r⟩ := mach_r.1 hv
  have o1 := r.1.one
  have o2 := r.2.one
  refine PC_of ?_
  skip
  refine w_impl_Machine_areaAt (by simp) ?_
  unfold b_impl_Machine_areaAt
  simp -implicitDefEqProofs only [go_sem, o1, o2]
  intro b1 hb_b1 n_b1
  simp -implicitDefEqProofs only [go_sem, wrap_i64 (show -(9223372036854775808 : Int) ≤ (3 + m.blocks) by omega) (show (3 + m.blocks) < 9223372036854775808 by omega), wrap_i64 (show -(9223372036854775808 : Int) ≤ (3 + m.blocks + n) by omega) (show (3 + m.blocks + n) < 9223372036854775808 by omega), o1, o2, hb_b1]
  exact ((Ext.refl _).set' n_b1 _)
/-- spec.l13Area -/
def b_spec_l13Area : C := (.seq (.ops [⟨(some 2), none, .box (.t 0)⟩, q 4 (.mv (.c (i64 0)))])
 (.seq (.ops [q 5 (.fld 0 (.t 2)), q 6 (.ld false 1 (.t 5)), q 7 (.bin .add (.c (i64 3)) (.t 6)), q 8 (.mv (.t 1)), q 9 (.bin .add (.t 7) (.t 8)), q 4 (.mv (.t 9))])
 .ret))
theorem w_spec_l13Area {args : List Value} {h : H} {Q : Value → H → Prop} (hl : args.length ≤ 10) (hk : wpc Tryz.prog b_spec_l13Area (retw [.tmp 4] Q) (argsFr args) h) : AC Tryz.prog 133 args h Q :=
  AC.of_wpc mixedOrders Tryz.func133 (by kernel_rfl) (by kernel_rfl : prepF Tryz.prog Tryz.f133 = some ⟨10, [.tmp 4], b_spec_l13Area⟩) hl hk

theorem l13Area_pc {h : H} {cs : List Value} {m : UMach} {n : Int} (hv : RepR h (spMach m) cs) (hb : 1 ≤ m.blocks ∧ m.blocks ≤ 8) (hn : 0 ≤ n ∧ n ≤ 100) : PC Tryz.prog 133 [.agg cs.toArray, i64 n] h (i64 (3 + m.blocks + n)) := by
  obtain ⟨vs, vd, rfl, r⟩ := mach_r.1 hv
  have o1 := r.1.one
  have o2 := r.2.one
  refine PC_of ?_
  skip
  refine w_spec_l13Area (by simp) ?_
  unfold b_spec_l13Area
  simp -implicitDefEqProofs only [go_sem, o1, o2]
  intro b1 hb_b1 n_b1
  simp -implicitDefEqProofs only [go_sem, wrap_i64 (show -(9223372036854775808 : Int) ≤ (3 + m.blocks) by omega) (show (3 + m.blocks) < 9223372036854775808 by omega), wrap_i64 (show -(9223372036854775808 : Int) ≤ (3 + m.blocks + n) by omega) (show (3 + m.blocks + n) < 9223372036854775808 by omega), o1, o2, hb_b1]
  exact ((Ext.refl _).set' n_b1 _)
/-- (impl.Machine).area -/
def b_impl_Machine_area : C := (.seq (.ops [⟨(some 2), none, .box (.t 0)⟩, q 4 (.mv (.c (str [])))])
 (.seq (.dops true (.tk (q 5 (.fld 1 (.t 2))) (.tk (q 6 (.ld true 2 (.t 5))) (.tk (q 7 (.ld true 3 (.t 2))) (.tk (q 8 (.mv (.t 1))) (.sq (⟨(some 9), none, .call (.c (.func (.func 115) #[] #[])) [(.t 7), (.t 8)]⟩) (.sq (⟨(some 10), none, .call (.c (.func (.func 99) #[] #[])) [(.t 6), (.t 9)]⟩) (.tk (q 4 (.mv (.t 10))) .nil))))))))
 .ret))
theorem w_impl_Machine_area {args : List Value} {h : H} {Q : Value → H → Prop} (hl : args.length ≤ 11) (hk : wpc Tryz.prog b_impl_Machine_area (retw [.tmp 4] Q) (argsFr args) h) : AC Tryz.prog 114 args h Q :=
  AC.of_wpc mixedOrders Tryz.func114 (by kernel_rfl) (by kernel_rfl : prepF Tryz.prog Tryz.f114 = some ⟨11, [.tmp 4], b_impl_Machine_area⟩) hl hk

theorem area_pc {h : H} {cs : List Value} {m : UMach} {n : Int} (hv : RepR h (spMach m) cs) (hf : machFit m) (hn : 0 ≤ n ∧ n ≤ 23) : PC Tryz.prog 114 [.agg cs.toArray, i64 n] h (str (areaOf m n)) := by
  have hv0 := hv
  obtain ⟨vs, vd, rfl, r⟩ := mach_r.1 hv
  have o1 := r.1.one
  have o2 := r.2.one
  have hd := flashOk_small hf.2.1
  have h27 := hf.2.2
  have hb := hf.1
  refine PC_of ?_
  skip
  refine w_impl_Machine_area (by simp) ?_
  unfold b_impl_Machine_area
  simp -implicitDefEqProofs only [go_sem, o1, o2]
  intro b1 hb_b1 n_b1
  simp -implicitDefEqProofs only [go_sem, o1, o2, hb_b1]
  refine (areaAt_pc (hv0.ext ((Ext.refl _).set' n_b1 _)) hb (by omega)).use ?_
  simp -implicitDefEqProofs only [go_sem, Sub.refl, o1, o2, hb_b1]
  refine (read_pc (r.ext ((Ext.refl _).set' n_b1 _)) (by omega) (by omega)).use ?_
  simp -implicitDefEqProofs only [go_sem, Sub.refl, o1, o2, hb_b1]
  exact ⟨((Ext.refl _).set' n_b1 _), rfl⟩
/-- spec.l13Stash -/
def b_spec_l13Stash : C := (.seq (.ops [⟨(some 3), none, .box (.t 0)⟩, ⟨(some 4), none, .box (.t 1)⟩, q 6 (.mv (.c (str [])))])
 (.seq (.dops true (.tk (q 7 (.fld 1 (.t 3))) (.tk (q 8 (.ld true 2 (.t 7))) (.tk (q 9 (.ld true 3 (.t 3))) (.tk (q 10 (.fld 7 (.t 4))) (.tk (q 11 (.ld false 1 (.t 10))) (.tk (q 12 (.mv (.t 2))) (.tk (q 13 (.idx 1 (.t 11) (.t 12))) (.tk (q 14 (.ld false 1 (.t 13))) (.sq (⟨(some 15), none, .call (.c (.func (.func 133) #[] #[])) [(.t 9), (.t 14)]⟩) (.sq (⟨(some 16), none, .call (.c (.func (.func 95) #[] #[])) [(.t 8), (.t 15)]⟩) (.tk (q 6 (.mv (.t 16))) .nil))))))))))))
 .ret))
theorem w_spec_l13Stash {args : List Value} {h : H} {Q : Value → H → Prop} (hl : args.length ≤ 17) (hk : wpc Tryz.prog b_spec_l13Stash (retw [.tmp 6] Q) (argsFr args) h) : AC Tryz.prog 189 args h Q :=
  AC.of_wpc mixedOrders Tryz.func189 (by kernel_rfl) (by kernel_rfl : prepF Tryz.prog Tryz.f189 = some ⟨17, [.tmp 6], b_spec_l13Stash⟩) hl hk

theorem l13Stash_pc {h : H} {cs c2 : List Value} {m : UMach} {s : UState} {k : Nat} (hv : RepR h (spMach m) cs) (hf : machFit m) (hst : StR h c2 s) (hok : stateOk s) (hk : k < s.mine.length) : PC Tryz.prog 189 [.agg cs.toArray, .agg c2.toArray, i64 k] h (str (areaOf m s.mine[k])) := by
  have hv0 := hv
  have hm := listOk_mem hok.2.2.1 _ (List.getElem_mem hk)
  obtain ⟨vs, vd, rfl, r⟩ := mach_r.1 hv
  obtain ⟨uh, um, rfl, sh, ⟨_, c, b, o, rfl, hc, r2, r3⟩⟩ := hst
  have l2 : (ints s.mine).length = s.mine.length := by simp
  rw [l2] at r2
  have o1 := r.1.one
  have o2 := r.2.one
  have o3 := sh.one
  have hd := flashOk_small hf.2.1
  have h27 := hf.2.2
  have hb := hf.1
  have d1 := r3 k [i64 s.mine[k]] (by simp [hk])
  refine PC_of ?_
  skip
  refine w_spec_l13Stash (by simp) ?_
  unfold b_spec_l13Stash
  simp -implicitDefEqProofs only [go_sem, o1, o2, o3, l2]
  intro b1 hb_b1 n_b1
  simp -implicitDefEqProofs only [go_sem, o1, o2, o3, l2, hb_b1]
  intro b2 hb_b2 m0_b2
  obtain ⟨z_b2_b1, y_b2_b1, n_b2⟩ := fne m0_b2
  simp only [H.set_base] at hb_b2
  have d2 : ∀ x y, ldc ((h.set b1 x).set b2 y) b (o + k * 1) 1 = some [i64 s.mine[k]] := fun x y => ldc_sub (Ext.set' (Ext.set' (Ext.refl h) n_b1 x) n_b2 y).2 d1
  simp -implicitDefEqProofs only [go_sem, r2, d2, Int.natCast_nonneg, Int.ofNat_lt, hk, o1, o2, o3, l2, hb_b1, hb_b2, z_b2_b1, y_b2_b1]
  refine (l13Area_pc (hv0.ext (((Ext.refl _).set' n_b1 _).set' n_b2 _)) hb (by omega)).use ?_
  simp -implicitDefEqProofs only [go_sem, Sub.refl, o1, o2, o3, l2, hb_b1, hb_b2, z_b2_b1, y_b2_b1]
  refine (l03Get_pc (r.ext (((Ext.refl _).set' n_b1 _).set' n_b2 _)) (by omega) (by omega)).use ?_
  simp -implicitDefEqProofs only [go_sem, Sub.refl, o1, o2, o3, l2, hb_b1, hb_b2, z_b2_b1, y_b2_b1]
  exact ⟨(((Ext.refl _).set' n_b1 _).set' n_b2 _), rfl⟩
theorem stateOk_stash {s : UState} (hok : stateOk s) : 0 ≤ s.stash ∧ s.stash ≤ 4 := by
  have h5 := hok.2.2.2.2
  by_cases p : s.phase = 1
  · rw [if_pos p] at h5; omega
  · rw [if_neg p] at h5; omega
end Go.Proofs.YtiokibikhanfcaaGreat
