/- A helper of this seat's claims (contracts of the functions): what it shows is shown for every input that its statements name, on no other condition. -/
import Derived.Test.YtiokibikhanfcaaGreatC12
import Derived.Test.YtiokibikhanfcaaGreatMC13a
set_option linter.unusedVariables false
set_option linter.unusedSimpArgs false
set_option maxRecDepth 100000
namespace Go.Proofs.YtiokibikhanfcaaGreat
open Go.KH

/-! ## The laws' helpers for states -/
/-- The cells of a state whose lists are slices. -/
def StR (h : H) (cs : List Value) (s : UState) : Prop := ∃ vh vm, cs = s.cells vh vm ∧ Sl h vh 1 (ints s.held) ∧ Sl h vm 1 (ints s.mine)
/-- The same, of the call's own memory. -/
def StF (h0 h : H) (cs : List Value) (s : UState) : Prop := ∃ vh vm, cs = s.cells vh vm ∧ Fre h0 h vh 1 (ints s.held) ∧ Fre h0 h vm 1 (ints s.mine) ∧ Dj vh vm
theorem StF.r {h0 h : H} {cs : List Value} {s : UState} (f : StF h0 h cs s) : StR h cs s := by obtain ⟨vh, vm, rfl, a, b, _⟩ := f; exact ⟨vh, vm, rfl, a.sl, b.sl⟩
theorem StR.ext {h h' : H} {cs : List Value} {s : UState} (f : StR h cs s) (e : Ext h h') : StR h' cs s := by obtain ⟨vh, vm, rfl, a, b⟩ := f; exact ⟨vh, vm, rfl, a.ext e, b.ext e⟩
theorem StF.ext {h0 h h' : H} {cs : List Value} {s : UState} (f : StF h0 h cs s) (e : Ext h h') : StF h0 h' cs s := by obtain ⟨vh, vm, rfl, a, b, d⟩ := f; exact ⟨vh, vm, rfl, a.ext e, b.ext e, d⟩
theorem StR.len {h : H} {cs : List Value} {s : UState} (r : StR h cs s) : cs.length = 8 := by obtain ⟨vh, vm, rfl, _, _⟩ := r; rfl
theorem StR.one {h : H} {cs : List Value} {s : UState} (r : StR h cs s) : cs.all Value.oneCell' = true := by
  obtain ⟨vh, vm, rfl, a, b⟩ := r
  simp [UState.cells, a.one, b.one, oneCell_int, oneCell_str]
theorem StR.known {h : H} {cs : List Value} {s : UState} (r : StR h cs s) : KnownL h cs := by
  obtain ⟨vh, vm, rfl, a, b⟩ := r
  intro v hv
  simp only [UState.cells, List.mem_cons, List.not_mem_nil, or_false] at hv
  rcases hv with rfl | rfl | rfl | rfl | rfl | rfl | rfl | rfl <;> first | exact a.known | exact b.known | exact Known.of_none rfl
theorem StF.new {h0 h : H} {cs : List Value} {s : UState} (r : StF h0 h cs s) : NewL h0 cs := by
  obtain ⟨vh, vm, rfl, a, b, _⟩ := r
  intro v hv
  simp only [UState.cells, List.mem_cons, List.not_mem_nil, or_false] at hv
  rcases hv with rfl | rfl | rfl | rfl | rfl | rfl | rfl | rfl <;> first | exact a.new | exact b.new | exact New.of_none rfl
theorem StR.keep {h h' : H} {cs ds : List Value} {s : UState} (r : StR h cs s) (k : Keep (blks ds) h h') (d : DjL cs ds) : StR h' cs s := by
  obtain ⟨vh, vm, rfl, a, b⟩ := r
  exact ⟨vh, vm, rfl, a.keep k (d.not (by simp)), b.keep k (d.not (by simp))⟩
theorem StF.keep {h0 h h' : H} {cs ds : List Value} {s : UState} (r : StF h0 h cs s) (k : Keep (blks ds) h h') (d : DjL cs ds) : StF h0 h' cs s := by
  obtain ⟨vh, vm, rfl, a, b, e⟩ := r
  exact ⟨vh, vm, rfl, a.keep k (d.not (by simp)), b.keep k (d.not (by simp)), e⟩
/-- A marked state. -/
def StM (h : H) (cs : List Value) (s : UState) (k0 : Int) : Prop := ∃ vh vm, cs = s.cells vh vm ∧ Sl h vh 1 (mks gInt 1 k0 s.held.length) ∧ Sl h vm 1 (mks gInt 1 (k0 + s.held.length) s.mine.length)
theorem StM.ext {h h' : H} {cs : List Value} {s : UState} {k0 : Int} (r : StM h cs s k0) (e : Ext h h') : StM h' cs s k0 := by obtain ⟨vh, vm, rfl, a, b⟩ := r; exact ⟨vh, vm, rfl, a.ext e, b.ext e⟩
def UState.ok (s : UState) : Prop := in64 s.phase ∧ in64 s.tries ∧ in64 s.need ∧ in64 s.stash ∧ in64 s.done ∧ s.digest.length ≤ maxLen ∧ s.held.length ≤ maxLen ∧ s.mine.length ≤ maxLen
end Go.Proofs.YtiokibikhanfcaaGreat

set_option linter.unusedVariables false
set_option linter.unusedSimpArgs false
set_option maxRecDepth 100000
namespace Go.Proofs.YtiokibikhanfcaaGreat
open Go.KH

/-! ## The bytes of states -/
def stateB (s : UState) : List UInt8 := putNum s.phase ++ putNum s.tries ++ putNum s.need ++ putNum s.stash ++ putNum s.done ++ putNum (bitsN s.held) ++ putNum (bitsN s.mine) ++ putText s.digest
def stateBytes (s : UState) : List UInt8 := if stateOk s then stateB s else []
theorem stateOk_digest {s : UState} (h : stateOk s) : s.digest.length ≤ 32 := by
  have := h.2.2.2.2
  split at this
  · rw [this.2.2.2.2.1]; simp
  · omega
theorem stateOk_in {s : UState} (h : stateOk s) : in64 s.phase ∧ in64 s.tries ∧ in64 s.need ∧ in64 s.stash ∧ in64 s.done ∧ in64 (bitsN s.held) ∧ in64 (bitsN s.mine) := by
  have h1 := bits24 h.2.1
  have h2 := bits24 h.2.2.1
  have h3 := h.1
  have := h.2.2.2.2
  unfold in64
  split at this <;> omega
theorem stateB_le {s : UState} (h : stateOk s) : (stateB s).length ≤ 112 := by
  obtain ⟨i1, i2, i3, i4, i5, i6, i7⟩ := stateOk_in h
  have hd := stateOk_digest h
  have l1 := putNum_le i1
  have l2 := putNum_le i2
  have l3 := putNum_le i3
  have l4 := putNum_le i4
  have l5 := putNum_le i5
  have l6 := putNum_le i6
  have l7 := putNum_le i7
  have l8 := putText_le (t := s.digest) (by omega)
  unfold stateB
  simp only [List.length_append]; omega
/-- spec.l12Bytes -/
def b_spec_l12Bytes : C := (.seq (.ops [⟨(some 1), none, .box (.t 0)⟩, q 2 (.mv (.c (str [])))])
 (.seq (.dops true (.tk (q 3 (.fld 0 (.t 1))) (.tk (q 4 (.ld false 1 (.t 3))) (.tk (q 6 (.fld 1 (.t 1))) (.tk (q 7 (.ld false 1 (.t 6))) (.tk (q 10 (.fld 2 (.t 1))) (.tk (q 11 (.ld false 1 (.t 10))) (.tk (q 14 (.fld 3 (.t 1))) (.tk (q 15 (.ld false 1 (.t 14))) (.tk (q 18 (.fld 4 (.t 1))) (.tk (q 19 (.ld false 1 (.t 18))) (.tk (q 22 (.fld 6 (.t 1))) (.tk (q 23 (.ld false 1 (.t 22))) (.tk (q 27 (.fld 7 (.t 1))) (.tk (q 28 (.ld false 1 (.t 27))) (.tk (q 32 (.fld 5 (.t 1))) (.tk (q 33 (.ld false 1 (.t 32))) (.sq (⟨(some 5), none, .call (.c (.func (.func 215) #[] #[])) [(.t 4)]⟩) (.sq (⟨(some 8), none, .call (.c (.func (.func 215) #[] #[])) [(.t 7)]⟩) (.tk (q 9 (.bin .add (.t 5) (.t 8))) (.sq (⟨(some 12), none, .call (.c (.func (.func 215) #[] #[])) [(.t 11)]⟩) (.tk (q 13 (.bin .add (.t 9) (.t 12))) (.sq (⟨(some 16), none, .call (.c (.func (.func 215) #[] #[])) [(.t 15)]⟩) (.tk (q 17 (.bin .add (.t 13) (.t 16))) (.sq (⟨(some 20), none, .call (.c (.func (.func 215) #[] #[])) [(.t 19)]⟩) (.tk (q 21 (.bin .add (.t 17) (.t 20))) (.sq (⟨(some 24), none, .call (.c (.func (.func 216) #[] #[])) [(.t 23)]⟩) (.sq (⟨(some 25), none, .call (.c (.func (.func 215) #[] #[])) [(.t 24)]⟩) (.tk (q 26 (.bin .add (.t 21) (.t 25))) (.sq (⟨(some 29), none, .call (.c (.func (.func 216) #[] #[])) [(.t 28)]⟩) (.sq (⟨(some 30), none, .call (.c (.func (.func 215) #[] #[])) [(.t 29)]⟩) (.tk (q 31 (.bin .add (.t 26) (.t 30))) (.sq (⟨(some 34), none, .call (.c (.func (.func 217) #[] #[])) [(.t 33)]⟩) (.tk (q 35 (.bin .add (.t 31) (.t 34))) (.tk (q 2 (.mv (.t 35))) .nil)))))))))))))))))))))))))))))))))))
 .ret))
theorem w_spec_l12Bytes {args : List Value} {h : H} {Q : Value → H → Prop} (hl : args.length ≤ 36) (hk : wpc Tryz.prog b_spec_l12Bytes (retw [.tmp 2] Q) (argsFr args) h) : AC Tryz.prog 175 args h Q :=
  AC.of_wpc mixedOrders Tryz.func175 (by kernel_rfl) (by kernel_rfl : prepF Tryz.prog Tryz.f175 = some ⟨36, [.tmp 2], b_spec_l12Bytes⟩) hl hk

theorem l12Bytes_pc {h : H} (s : UState) {vh vm : Value} (hh : Sl h vh 1 (ints s.held)) (hm : Sl h vm 1 (ints s.mine)) (hok : stateOk s) : PC Tryz.prog 175 [.agg (s.cells vh vm).toArray] h (str (stateB s)) := by
  obtain ⟨i1, i2, i3, i4, i5, i6, i7⟩ := stateOk_in hok
  have hd := stateOk_digest hok
  have hB := stateB_le hok
  unfold stateB at hB
  simp only [List.length_append] at hB
  refine PC_of ?_
  refine w_spec_l12Bytes (by simp) ?_
  unfold b_spec_l12Bytes
  simp -implicitDefEqProofs only [go_sem]
  intro b1 hb_b1 n_b1
  simp -implicitDefEqProofs only [go_sem, hb_b1]
  refine (specPutNum_pc _ _ i1).use ?_
  simp -implicitDefEqProofs only [go_sem, hb_b1]
  refine (specPutNum_pc _ _ i2).use ?_
  simp -implicitDefEqProofs only [go_sem, hb_b1]
  refine Req.of (by omega) ?_
  simp -implicitDefEqProofs only [go_sem, hb_b1]
  refine (specPutNum_pc _ _ i3).use ?_
  simp -implicitDefEqProofs only [go_sem, hb_b1]
  refine Req.of (by simp only [List.length_append]; omega) ?_
  simp -implicitDefEqProofs only [go_sem, hb_b1]
  refine (specPutNum_pc _ _ i4).use ?_
  simp -implicitDefEqProofs only [go_sem, hb_b1]
  refine Req.of (by simp only [List.length_append]; omega) ?_
  simp -implicitDefEqProofs only [go_sem, hb_b1]
  refine (specPutNum_pc _ _ i5).use ?_
  simp -implicitDefEqProofs only [go_sem, hb_b1]
  refine Req.of (by simp only [List.length_append]; omega) ?_
  simp -implicitDefEqProofs only [go_sem, hb_b1]
  refine (specBitsOf_pc (hh.ext ((Ext.refl _).set' n_b1 _)) hok.2.1).use ?_
  simp -implicitDefEqProofs only [go_sem, hb_b1]
  refine (specPutNum_pc _ _ i6).use ?_
  simp -implicitDefEqProofs only [go_sem, hb_b1]
  refine Req.of (by simp only [List.length_append]; omega) ?_
  simp -implicitDefEqProofs only [go_sem, hb_b1]
  refine (specBitsOf_pc (hm.ext ((Ext.refl _).set' n_b1 _)) hok.2.2.1).use ?_
  simp -implicitDefEqProofs only [go_sem, hb_b1]
  refine (specPutNum_pc _ _ i7).use ?_
  simp -implicitDefEqProofs only [go_sem, hb_b1]
  refine Req.of (by simp only [List.length_append]; omega) ?_
  simp -implicitDefEqProofs only [go_sem, hb_b1]
  refine (specPutText_pc _ _ (by omega)).use ?_
  simp -implicitDefEqProofs only [go_sem, hb_b1]
  refine Req.of (by simp only [List.length_append]; omega) ?_
  simp -implicitDefEqProofs only [go_sem, hb_b1]
  exact ⟨((Ext.refl _).set' n_b1 _), rfl⟩
/-- spec.StateBytes -/
def b_spec_StateBytes : C := (.seq (.ops [⟨(some 1), none, .box (.t 0)⟩, q 2 (.mv (.c (str [])))])
 (.seq (.seq (.ops [q 3 (.ld true 8 (.t 1)), ⟨(some 4), none, .call (.c (.func (.func 202) #[] #[])) [(.t 3)]⟩, q 5 (.un .not (.t 4))])
 (.cond (.t 5) (.seq (.ops [q 2 (.mv (.c (str [])))])
 .ret) .skip))
 (.seq (.ops [q 6 (.ld true 8 (.t 1)), ⟨(some 7), none, .call (.c (.func (.func 175) #[] #[])) [(.t 6)]⟩, q 2 (.mv (.t 7))])
 .ret)))
theorem w_spec_StateBytes {args : List Value} {h : H} {Q : Value → H → Prop} (hl : args.length ≤ 8) (hk : wpc Tryz.prog b_spec_StateBytes (retw [.tmp 2] Q) (argsFr args) h) : AC Tryz.prog 144 args h Q :=
  AC.of_wpc mixedOrders Tryz.func144 (by kernel_rfl) (by kernel_rfl : prepF Tryz.prog Tryz.f144 = some ⟨8, [.tmp 2], b_spec_StateBytes⟩) hl hk

theorem specStateBytes_pc {h : H} (s : UState) {vh vm : Value} (hh : Sl h vh 1 (ints s.held)) (hm : Sl h vm 1 (ints s.mine)) (hs : s.small) : PC Tryz.prog 144 [.agg (s.cells vh vm).toArray] h (str (stateBytes s)) := by
  refine PC_of ?_
  unfold stateBytes
  refine w_spec_StateBytes (by simp) ?_
  unfold b_spec_StateBytes
  simp -implicitDefEqProofs only [go_sem]
  intro b1 hb_b1 n_b1
  simp -implicitDefEqProofs only [go_sem, hb_b1]
  refine (specStateRight_pc s (hh.ext ((Ext.refl _).set' n_b1 _)) (hm.ext ((Ext.refl _).set' n_b1 _)) hs).use ?_
  simp -implicitDefEqProofs only [go_sem, hb_b1]
  refine Br.of (fun h1 => ?_) (fun h1 => ?_)
  · simp -implicitDefEqProofs only [go_sem, h1, hb_b1]
    refine (l12Bytes_pc s (hh.ext ((Ext.refl _).set' n_b1 _)) (hm.ext ((Ext.refl _).set' n_b1 _)) h1).use ?_
    simp -implicitDefEqProofs only [go_sem, h1, hb_b1]
    exact ((Ext.refl _).set' n_b1 _)
  · simp -implicitDefEqProofs only [go_sem, h1, hb_b1]
    exact ((Ext.refl _).set' n_b1 _)
end Go.Proofs.YtiokibikhanfcaaGreat
