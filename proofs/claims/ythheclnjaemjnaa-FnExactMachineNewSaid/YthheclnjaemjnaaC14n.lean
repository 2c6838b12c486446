/- A helper of this seat's claims (contracts of the functions): what it shows is shown for every input that its statements name, on no other condition. -/
import Derived.Test.YthheclnjaemjnaaC04k
import Derived.Test.YthheclnjaemjnaaC12b
set_option linter.unusedVariables false
set_option linter.unusedSimpArgs false
set_option maxRecDepth 100000
namespace Go.Proofs.Ythheclnjaemjnaa
open Go.KH

/-! ## New machines -/
def idle0 : UState := ⟨1, 0, 0, 0, 0, [], [], []⟩
theorem idle0_ok : stateOk idle0 := by decide
def sec0 (l : List (List UInt8)) : List (List UInt8) := List.replicate 3 [] ++ l ++ List.replicate 24 []
def flash0 (l : List (List UInt8)) : UFlash := ⟨sec0 l, []⟩
def machNew (l : List (List UInt8)) : UMach := ⟨l.length, actsDo (flash0 l) (metaActsOf (flash0 l) (stateB idle0))⟩
def mach0 : UMach := ⟨0, ⟨[], []⟩⟩
def newOut (l : List (List UInt8)) : UMach × Int := if 400 < l.length then (mach0, 2) else if imageOk l then (machNew l, 0) else (mach0, 1)
theorem sec0_len (l : List (List UInt8)) : (sec0 l).length = 27 + l.length := by simp [sec0]; omega
theorem flash0_ok {l : List (List UInt8)} (h : imageOk l) : flashOk (flash0 l) := by
  have h1 := h.1
  refine ⟨by show 1 ≤ (sec0 l).length ∧ (sec0 l).length ≤ 40; rw [sec0_len]; omega, by simp [flash0], fun s hs => ?_, fun i hi => by simp [flash0] at hi⟩
  simp only [flash0, sec0, List.mem_append, List.mem_replicate] at hs
  rcases hs with (⟨_, rfl⟩ | hs) | ⟨_, rfl⟩
  · simp
  · rw [h.2 s hs]; omega
  · simp
theorem sec0_cells (l : List (List UInt8)) : splice (List.replicate (27 + l.length) [str []]).flatten 3 (strs l).flatten = (sects (sec0 l)).flatten := by
  have e1 : (List.replicate (27 + l.length) [str []]).flatten = List.replicate (27 + l.length) (str []) := by
    induction (27 + l.length) with
    | zero => rfl
    | succ n ih => rw [List.replicate_succ, List.flatten_cons, ih, List.replicate_succ]; rfl
  have e2 : ∀ t : List (List UInt8), (strs t).flatten = t.map str := fun t => by
    induction t with
    | nil => rfl
    | cons a t ih => show ([str a] ++ (strs t).flatten) = _; rw [ih]; rfl
  rw [e1, e2, e2]
  unfold splice sec0
  rw [List.length_map, List.take_replicate, List.drop_replicate, show min 3 (27 + l.length) = 3 by omega, show 27 + l.length - (3 + l.length) = 24 by omega]
  simp
/-- impl.machineNew -/
def b_impl_machineNew : C := (.seq (.ops [⟨(some 2), none, .alloc [(i64 0), nils, nils]⟩])
 (.seq (.ops [q 4 (.mv (.t 0)), ⟨(some 5), none, .call (.c (.func (.func 167) #[] #[])) [(.t 4)]⟩, q 6 (.build [(i64 0), nils, nils] [(0, 1, (.t 5))]), ⟨(some 3), none, .alloc [(i64 0), nils, nils]⟩, ⟨none, none, .st 3 (.t 3) (.t 6)⟩])
 (.seq (.ops [q 7 (.fld 0 (.t 3)), q 8 (.ld false 1 (.t 7)), q 9 (.bin .add (.c (i64 3)) (.t 8)), q 10 (.bin .add (.t 9) (.c (i64 24))), ⟨(some 11), none, .mks 1 16 [(str [])] (.t 10) (.t 10)⟩, q 12 (.fld 1 (.t 3)), q 13 (.fld 0 (.t 12)), ⟨none, none, .st 1 (.t 13) (.t 11)⟩])
 (.seq (.ops [q 14 (.fld 1 (.t 3)), q 15 (.fld 0 (.t 14)), q 16 (.ld false 1 (.t 15)), q 17 (.lsl 1 (.t 16) (some (.c (i64 3))) none), q 18 (.mv (.t 0)), ⟨(some 19), none, .cpy 1 (.t 17) (.t 18)⟩])
 (.seq (.dops true (.tk (q 20 (.fld 1 (.t 3))) (.tk (q 21 (.ld true 2 (.t 20))) (.tk (q 22 (.fld 1 (.t 3))) (.tk (q 23 (.ld true 2 (.t 22))) (.tk (q 24 (.build [(i64 0), (i64 0), (i64 0), (i64 0), (i64 0), (str []), nils, nils] [(0, 1, (.c (i64 1)))])) (.sq (⟨(some 25), none, .call (.c (.func (.func 88) #[] #[])) [(.t 24)]⟩) (.sq (⟨(some 26), none, .call (.c (.func (.func 194) #[] #[])) [(.t 23), (.t 25)]⟩) (.sq (⟨(some 27), none, .call (.c (.func (.func 193) #[] #[])) [(.t 21), (.t 26)]⟩) (.tk (q 28 (.fld 1 (.t 3))) (.lt (⟨none, none, .st 2 (.t 28) (.t 27)⟩) .nil)))))))))))
 (.seq (.ops [q 29 (.ld true 3 (.t 3)), ⟨none, none, .st 3 (.t 2) (.t 29)⟩])
 .ret))))))
theorem w_impl_machineNew {args : List Value} {h : H} {Q : Value → H → Prop} (hl : args.length ≤ 30) (hk : wpc Try.prog b_impl_machineNew (retw [.cell 2 true 3] Q) (argsFr args) h) : AC Try.prog 124 args h Q :=
  AC.of_wpc mixedOrders Try.func124 (by kernel_rfl) (by kernel_rfl : prepF Try.prog Try.f124 = some ⟨30, [.cell 2 true 3], b_impl_machineNew⟩) hl hk

set_option maxHeartbeats 1600000 in
theorem machineNew_ac {h : H} {v : Value} {l : List (List UInt8)} (hv : Sl h v 1 (strs l)) (hi : imageOk l) : AC Try.prog 124 [v] h fun r h' => Ext h h' ∧ ∃ cs, r = .agg cs.toArray ∧ RepF h h' (spMach (machNew l)) cs := by
  have h18 := hi.1
  have ho := flash0_ok hi
  refine w_impl_machineNew (by simp) ?_
  unfold b_impl_machineNew
  simp -implicitDefEqProofs only [go_sem, ↓reduceIte, reduceCtorEq, Int.reduceEq, Int.reduceLT, Int.reduceLE, Nat.reduceEqDiff, Nat.reduceAdd, Nat.reduceMul, Nat.reduceLeDiff, Nat.reduceSub, Int.reduceNeg]
  intro b2 hb_b2 n_b2
  simp -implicitDefEqProofs only [go_sem, ↓reduceIte, reduceCtorEq, Int.reduceEq, Int.reduceLT, Int.reduceLE, Nat.reduceEqDiff, Nat.reduceAdd, Nat.reduceMul, Nat.reduceLeDiff, Nat.reduceSub, Int.reduceNeg, hb_b2]
  refine (sizeStr_pc (hv.ext ((Ext.refl _).set' n_b2 _))).use ?_
  simp -implicitDefEqProofs only [go_sem, ↓reduceIte, reduceCtorEq, Int.reduceEq, Int.reduceLT, Int.reduceLE, Nat.reduceEqDiff, Nat.reduceAdd, Nat.reduceMul, Nat.reduceLeDiff, Nat.reduceSub, Int.reduceNeg, hb_b2]
  intro b3 hb_b3 m0_b3
  obtain ⟨z_b3_b2, y_b3_b2, n_b3⟩ := fne m0_b3
  simp only [H.set_base] at hb_b3
  have w1 : IntKind.i64.wrap (3 + (l.length : Int)) = 3 + (l.length : Int) := wrap_i64 (by omega) (by omega)
  have w2 : IntKind.i64.wrap (3 + (l.length : Int) + 24) = ((27 + l.length : Nat) : Int) := by rw [wrap_i64 (by omega) (by omega)]; omega
  simp -implicitDefEqProofs only [go_sem, ↓reduceIte, reduceCtorEq, Int.reduceEq, Int.reduceLT, Int.reduceLE, Nat.reduceEqDiff, Nat.reduceAdd, Nat.reduceMul, Nat.reduceLeDiff, Nat.reduceSub, Int.reduceNeg, w1, w2, Int.natCast_nonneg, Int.le_refl, show ((27 + l.length : Nat) : Int) < 1099511627776 by omega, show ((16 : Nat) : Int) * ((27 + l.length : Nat) : Int) ≤ 140737488355328 by omega, Int.toNat_natCast, hb_b2, hb_b3, z_b3_b2, y_b3_b2]
  intro b4 hb_b4 m0_b4
  obtain ⟨z_b4_b3, y_b4_b3, m1_b4⟩ := fne m0_b4
  obtain ⟨z_b4_b2, y_b4_b2, n_b4⟩ := fne m1_b4
  simp only [H.set_base] at hb_b4
  have hsrc : ∀ x y z, srcOf (((h.set b2 x).set b3 y).set b4 z) 1 v = some ((strs l).length, (strs l).flatten) := fun x y z => (hv.ext (Ext.set' (Ext.set' (Ext.set' (Ext.refl h) n_b2 x) n_b3 y) n_b4 z)).src (strs_wid _) (by decide)
  have ll : (strs l).length = l.length := by simp
  have fl := flat_length (strs_wid l)
  rw [ll] at fl
  have rl : (List.replicate (27 + l.length) [str []]).flatten.length = 27 + l.length := by rw [flat_length (w := 1) (Wid.rep (z := [str []]) rfl _)]; simp
  simp -implicitDefEqProofs only [go_sem, ↓reduceIte, reduceCtorEq, Int.reduceEq, Int.reduceLT, Int.reduceLE, Nat.reduceEqDiff, Nat.reduceAdd, Nat.reduceMul, Nat.reduceLeDiff, Nat.reduceSub, Int.reduceNeg, hsrc, ll, fl, rl, strs_one l, sec0_cells l, show 3 + l.length ≤ 27 + l.length by omega, show (3 : Int) ≤ ((27 + l.length : Nat) : Int) by omega, show Int.toNat 3 = 3 from rfl, show (27 + l.length = 3) = False from eq_false (by omega), show Nat.min l.length (27 + l.length - 3) = l.length from Nat.min_eq_left (by omega), Nat.mul_one, show List.take l.length (strs l).flatten = (strs l).flatten from List.take_of_length_le (by omega), hb_b2, hb_b3, z_b3_b2, y_b3_b2, hb_b4, z_b4_b3, y_b4_b3, z_b4_b2, y_b4_b2]
  have zb := z_b4_b3
  have E0 := (Ext.set' (Ext.set' (Ext.set' (Ext.refl h) n_b2 ⟨[i64 0, nils, nils], 3⟩) n_b3 ⟨[i64 l.length, sl b4 0 (27 + l.length) (27 + l.length), nils], 3⟩) n_b4 ⟨(sects (sec0 l)).flatten, 27 + l.length⟩)
  have g2 : (((h.set b2 ⟨[i64 0, nils, nils], 3⟩).set b3 ⟨[i64 l.length, sl b4 0 (27 + l.length) (27 + l.length), nils], 3⟩).set b4 ⟨(sects (sec0 l)).flatten, 27 + l.length⟩).get b2 = some ⟨[i64 0, nils, nils], 3⟩ := by simp -implicitDefEqProofs only [go_sem, ↓reduceIte, reduceCtorEq, Int.reduceEq, Int.reduceLT, Int.reduceLE, Nat.reduceEqDiff, Nat.reduceAdd, Nat.reduceMul, Nat.reduceLeDiff, Nat.reduceSub, Int.reduceNeg, hb_b2, hb_b3, z_b3_b2, y_b3_b2, hb_b4, z_b4_b3, y_b4_b3, z_b4_b2, y_b4_b2]
  have g3 : (((h.set b2 ⟨[i64 0, nils, nils], 3⟩).set b3 ⟨[i64 l.length, sl b4 0 (27 + l.length) (27 + l.length), nils], 3⟩).set b4 ⟨(sects (sec0 l)).flatten, 27 + l.length⟩).get b3 = some ⟨[i64 l.length, sl b4 0 (27 + l.length) (27 + l.length), nils], 3⟩ := by simp -implicitDefEqProofs only [go_sem, ↓reduceIte, reduceCtorEq, Int.reduceEq, Int.reduceLT, Int.reduceLE, Nat.reduceEqDiff, Nat.reduceAdd, Nat.reduceMul, Nat.reduceLeDiff, Nat.reduceSub, Int.reduceNeg, hb_b2, hb_b3, z_b3_b2, y_b3_b2, hb_b4, z_b4_b3, y_b4_b3, z_b4_b2, y_b4_b2]
  generalize hX : (((h.set b2 ⟨[i64 0, nils, nils], 3⟩).set b3 ⟨[i64 l.length, sl b4 0 (27 + l.length) (27 + l.length), nils], 3⟩).set b4 ⟨(sects (sec0 l)).flatten, 27 + l.length⟩) = hx at E0 g2 g3 ⊢
  have hbx : hx.base = h.base := E0.1
  have sv : Sl hx (sl b4 0 (27 + l.length) (27 + l.length)) 1 (sects (sec0 l)) := by
    have := Sl.of_get (h := hx) (b := b4) (c := 27 + l.length) (z := 27 + l.length) (w := 1) (rows := sects (sec0 l)) (by rw [← hX]; exact H.set_get_same _ _ _) (by rw [List.length_map, sec0_len]; exact Nat.le_refl _) (sects_wid _)
    rw [List.length_map, sec0_len] at this
    exact this
  have fr : FlR hx (flash0 l) (sl b4 0 (27 + l.length) (27 + l.length)) nils := ⟨sv, Sl.nil _ _⟩
  refine (stateBytes_pc idle0 (Sl.nil _ _) (Sl.nil _ _) idle0_ok).use ?_
  have h2 : 2 ≤ (flash0 l).sec.length := by show 2 ≤ (sec0 l).length; rw [sec0_len]; omega
  have h46 := stateB_46 idle0_ok
  refine ⟨Sub.refl _, ?_⟩
  skip
  simp -implicitDefEqProofs only [go_sem, ↓reduceIte, reduceCtorEq, Int.reduceEq, Int.reduceLT, Int.reduceLE, Nat.reduceEqDiff, Nat.reduceAdd, Nat.reduceMul, Nat.reduceLeDiff, Nat.reduceSub, Int.reduceNeg]
  refine AC_of (metaActs_ac fr ho h2 (by omega)) ?_
  rintro va h5 - ⟨e5, o5⟩
  refine ⟨e5.2, ?_⟩
  have hlen := metaActs_len (flash0 l) (stateB idle0)
  simp -implicitDefEqProofs only [go_sem, ↓reduceIte, reduceCtorEq, Int.reduceEq, Int.reduceLT, Int.reduceLE, Nat.reduceEqDiff, Nat.reduceAdd, Nat.reduceMul, Nat.reduceLeDiff, Nat.reduceSub, Int.reduceNeg]
  refine AC_of (acted_ac (fr.ext e5) o5.sl ho (metaActs_ok h2 (by omega)) (by omega)) ?_
  rintro _ h6 - ⟨e6, us, ud, rfl, f6⟩
  have p1 := f6.1.sl.one
  have p2 := f6.2.1.sl.one
  have e56 := e5.trans e6
  have g26 := e56.2.g b2 _ g2
  have g36 := e56.2.g b3 _ g3
  have hb6 : h6.base = h.base := by rw [e56.1, hbx]
  refine ⟨e56.2, ?_⟩
  simp -implicitDefEqProofs only [go_sem, ↓reduceIte, reduceCtorEq, Int.reduceEq, Int.reduceLT, Int.reduceLE, Nat.reduceEqDiff, Nat.reduceAdd, Nat.reduceMul, Nat.reduceLeDiff, Nat.reduceSub, Int.reduceNeg, stc_get g36, hb6, hb_b3, p1, p2, z_b3_b2, y_b3_b2, stc_get g26, hb_b2]
  exact ⟨((E0.trans e56).set' n_b2 _).set' n_b3 _, _, rfl, mach_f.2 ⟨us, ud, rfl, FlF.back (FlF.set (FlF.set f6 (e5.2.g b2 _ g2) _) (e5.2.g b3 _ g3) _) (E0.trans e5)⟩⟩
/-- impl.MachineNew -/
def b_impl_MachineNew : C := (.seq (.ops [⟨(some 2), none, .alloc [(i64 0), nils, nils, (i64 0)]⟩])
 (.seq (.block 0 (.seq (.ops [q 4 (.mv (.t 0)), q 5 (.len (.t 4)), q 6 (.bin .gtr (.t 5) (.c (i64 400))), q 3 (.mv (.t 6))])
 (.cond (.t 3) (.seq (.ops [q 7 (.build [(i64 0), nils, nils, (i64 0)] [(3, 1, (.c (i64 2)))]), ⟨none, none, .st 4 (.t 2) (.t 7)⟩])
 .ret) (.seq (.ops [q 9 (.mv (.t 0)), ⟨(some 10), none, .call (.c (.func (.func 123) #[] #[])) [(.t 9)]⟩, q 11 (.un .not (.t 10)), q 8 (.mv (.t 11))])
 (.cond (.t 8) (.seq (.ops [q 12 (.build [(i64 0), nils, nils, (i64 0)] [(3, 1, (.c (i64 1)))]), ⟨none, none, .st 4 (.t 2) (.t 12)⟩])
 .ret) .skip)))))
 (.seq (.ops [q 13 (.mv (.t 0)), ⟨(some 14), none, .call (.c (.func (.func 124) #[] #[])) [(.t 13)]⟩, q 15 (.build [(i64 0), nils, nils, (i64 0)] [(0, 3, (.t 14))]), ⟨none, none, .st 4 (.t 2) (.t 15)⟩])
 .ret)))
theorem w_impl_MachineNew {args : List Value} {h : H} {Q : Value → H → Prop} (hl : args.length ≤ 16) (hk : wpc Try.prog b_impl_MachineNew (retw [.cell 2 true 4] Q) (argsFr args) h) : AC Try.prog 52 args h Q :=
  AC.of_wpc mixedOrders Try.func52 (by kernel_rfl) (by kernel_rfl : prepF Try.prog Try.f52 = some ⟨16, [.cell 2 true 4], b_impl_MachineNew⟩) hl hk

theorem mach0_f (h0 h : H) (c : Int) : RepF h0 h (spMachO (mach0, c)) [i64 0, nils, nils, i64 c] := machO_f.2 ⟨nils, nils, rfl, .inl ⟨none, 0, rfl, rfl⟩, .inl ⟨none, 0, rfl, rfl⟩, fun _ h => by cases h⟩
theorem implMachineNew_ac {h : H} {v : Value} {l : List (List UInt8)} (hv : Sl h v 1 (strs l)) (hn : l.length ≤ 1048576) : AC Try.prog 52 [v] h fun r h' => Ext h h' ∧ ∃ cs, r = .agg cs.toArray ∧ RepF h h' (spMachO (newOut l)) cs := by
  obtain ⟨a, c, rfl⟩ := hv.shape
  have hl : (strs l).length = l.length := by simp
  rw [hl] at hv
  unfold newOut
  skip
  refine w_impl_MachineNew (by simp) ?_
  unfold b_impl_MachineNew
  simp -implicitDefEqProofs only [go_sem, ↓reduceIte, reduceCtorEq, Int.reduceEq, Int.reduceLT, Int.reduceLE, Nat.reduceEqDiff, Nat.reduceAdd, Nat.reduceMul, Nat.reduceLeDiff, Nat.reduceSub, Int.reduceNeg, hl]
  intro b2 hb_b2 n_b2
  by_cases h4 : 400 < l.length
  · rw [if_pos h4]
    simp -implicitDefEqProofs only [go_sem, ↓reduceIte, reduceCtorEq, Int.reduceEq, Int.reduceLT, Int.reduceLE, Nat.reduceEqDiff, Nat.reduceAdd, Nat.reduceMul, Nat.reduceLeDiff, Nat.reduceSub, Int.reduceNeg, show (400 : Int) < (l.length : Int) by omega, hl, hb_b2]
    exact ⟨((Ext.refl _).set' n_b2 _), _, rfl, mach0_f _ _ _⟩
  rw [if_neg h4]
  simp -implicitDefEqProofs only [go_sem, ↓reduceIte, reduceCtorEq, Int.reduceEq, Int.reduceLT, Int.reduceLE, Nat.reduceEqDiff, Nat.reduceAdd, Nat.reduceMul, Nat.reduceLeDiff, Nat.reduceSub, Int.reduceNeg, show ¬ (400 : Int) < (l.length : Int) by omega, hl, hb_b2]
  refine (isImage_pc (hv.ext ((Ext.refl _).set' n_b2 _)) hn).use ?_
  by_cases hi : imageOk l
  rotate_left
  · rw [if_neg hi]
    simp -implicitDefEqProofs only [go_sem, ↓reduceIte, reduceCtorEq, Int.reduceEq, Int.reduceLT, Int.reduceLE, Nat.reduceEqDiff, Nat.reduceAdd, Nat.reduceMul, Nat.reduceLeDiff, Nat.reduceSub, Int.reduceNeg, hi, hl, hb_b2]
    exact ⟨((Ext.refl _).set' n_b2 _), _, rfl, mach0_f _ _ _⟩
  rw [if_pos hi]
  simp -implicitDefEqProofs only [go_sem, ↓reduceIte, reduceCtorEq, Int.reduceEq, Int.reduceLT, Int.reduceLE, Nat.reduceEqDiff, Nat.reduceAdd, Nat.reduceMul, Nat.reduceLeDiff, Nat.reduceSub, Int.reduceNeg, hi, hl, hb_b2]
  refine AC_of (machineNew_ac (hv.ext ((Ext.refl _).set' n_b2 _)) hi) ?_
  rintro _ h1 - ⟨e1, cs, rfl, F⟩
  obtain ⟨us, ud, rfl, f⟩ := mach_f.1 F
  have p1 := f.1.sl.one
  have p2 := f.2.1.sl.one
  have g2 := e1.2.g b2 _ (by simp -implicitDefEqProofs only [go_sem, ↓reduceIte, reduceCtorEq, Int.reduceEq, Int.reduceLT, Int.reduceLE, Nat.reduceEqDiff, Nat.reduceAdd, Nat.reduceMul, Nat.reduceLeDiff, Nat.reduceSub, Int.reduceNeg, hl, hb_b2]; rfl)
  have hbb := e1.1
  simp only [H.set_base] at hbb
  simp -implicitDefEqProofs only [go_sem, ↓reduceIte, reduceCtorEq, Int.reduceEq, Int.reduceLT, Int.reduceLE, Nat.reduceEqDiff, Nat.reduceAdd, Nat.reduceMul, Nat.reduceLeDiff, Nat.reduceSub, Int.reduceNeg, p1, p2, stc_get g2, hbb, hl, hb_b2]
  exact ⟨((((Ext.refl _).set' n_b2 _)).trans e1).set' n_b2 _, _, rfl, machO_f.2 ⟨us, ud, rfl, FlF.back (FlF.set f (H.set_get_same _ _ _) _) ((Ext.refl _).set' n_b2 _)⟩⟩
/-- spec.FlashNew -/
def b_spec_FlashNew : C := (.seq (.ops [⟨(some 2), none, .alloc [nils, nils]⟩])
 (.seq (.seq (.ops [q 3 (.mv (.t 0)), ⟨(some 4), none, .call (.c (.func (.func 79) #[] #[])) [(.t 3), (.c (i64 1)), (.c (i64 40))]⟩, q 5 (.un .not (.t 4))])
 (.cond (.t 5) (.seq (.ops [q 6 (.build [nils, nils] []), ⟨none, none, .st 2 (.t 2) (.t 6)⟩])
 .ret) .skip))
 (.seq (.ops [q 7 (.mv (.t 0)), ⟨(some 8), none, .mks 1 16 [(str [])] (.t 7) (.t 7)⟩, q 9 (.build [nils, nils] [(0, 1, (.t 8))]), ⟨none, none, .st 2 (.t 2) (.t 9)⟩])
 .ret)))
theorem w_spec_FlashNew {args : List Value} {h : H} {Q : Value → H → Prop} (hl : args.length ≤ 10) (hk : wpc Try.prog b_spec_FlashNew (retw [.cell 2 true 2] Q) (argsFr args) h) : AC Try.prog 120 args h Q :=
  AC.of_wpc mixedOrders Try.func120 (by kernel_rfl) (by kernel_rfl : prepF Try.prog Try.f120 = some ⟨10, [.cell 2 true 2], b_spec_FlashNew⟩) hl hk

theorem flashNew_ac {h : H} {n : Nat} (hn : 1 ≤ n ∧ n ≤ 40) : AC Try.prog 120 [i64 n] h fun r h' => Ext h h' ∧ ∃ b, r = .agg #[sl b 0 n n, nils] ∧ h.get b = none ∧ h.base ≤ b ∧ h'.get b = some ⟨(sects (List.replicate n [])).flatten, n⟩ := by
  refine w_spec_FlashNew (by simp) ?_
  unfold b_spec_FlashNew
  simp -implicitDefEqProofs only [go_sem, ↓reduceIte, reduceCtorEq, Int.reduceEq, Int.reduceLT, Int.reduceLE, Nat.reduceEqDiff, Nat.reduceAdd, Nat.reduceMul, Nat.reduceLeDiff, Nat.reduceSub, Int.reduceNeg]
  intro b2 hb_b2 n_b2
  simp -implicitDefEqProofs only [go_sem, ↓reduceIte, reduceCtorEq, Int.reduceEq, Int.reduceLT, Int.reduceLE, Nat.reduceEqDiff, Nat.reduceAdd, Nat.reduceMul, Nat.reduceLeDiff, Nat.reduceSub, Int.reduceNeg, hb_b2]
  refine (l03Is_pc _ _ _ _).use ?_
  simp -implicitDefEqProofs only [go_sem, ↓reduceIte, reduceCtorEq, Int.reduceEq, Int.reduceLT, Int.reduceLE, Nat.reduceEqDiff, Nat.reduceAdd, Nat.reduceMul, Nat.reduceLeDiff, Nat.reduceSub, Int.reduceNeg, show (1 : Int) ≤ (n : Int) by omega, show (n : Int) ≤ 40 by omega, Int.natCast_nonneg, Int.le_refl, show (n : Int) < 1099511627776 by omega, show ((16 : Nat) : Int) * (n : Int) ≤ 140737488355328 by omega, Int.toNat_natCast, hb_b2]
  intro b3 hb_b3 m0_b3
  obtain ⟨z_b3_b2, y_b3_b2, n_b3⟩ := fne m0_b3
  simp only [H.set_base] at hb_b3
  simp -implicitDefEqProofs only [go_sem, ↓reduceIte, reduceCtorEq, Int.reduceEq, Int.reduceLT, Int.reduceLE, Nat.reduceEqDiff, Nat.reduceAdd, Nat.reduceMul, Nat.reduceLeDiff, Nat.reduceSub, Int.reduceNeg, hb_b2, hb_b3, z_b3_b2, y_b3_b2]
  have e : (List.replicate n [str []]).flatten = (sects (List.replicate n [])).flatten := by unfold sects; rw [List.map_replicate]
  exact ⟨((((Ext.refl _).set' n_b2 _).set' n_b3 _)), b3, rfl, n_b3, hb_b3, by simp -implicitDefEqProofs only [go_sem, ↓reduceIte, reduceCtorEq, Int.reduceEq, Int.reduceLT, Int.reduceLE, Nat.reduceEqDiff, Nat.reduceAdd, Nat.reduceMul, Nat.reduceLeDiff, Nat.reduceSub, Int.reduceNeg, e, Nat.mul_one, hb_b2, hb_b3, z_b3_b2, y_b3_b2]⟩
def part (l : List (List UInt8)) (k : Nat) : List (List UInt8) := List.replicate 3 [] ++ (l.take k ++ List.replicate (24 + l.length - k) [])
theorem part_len (l : List (List UInt8)) (k : Nat) (hk : k ≤ l.length) : (part l k).length = 27 + l.length := by simp [part]; omega
theorem part_zero (l : List (List UInt8)) : part l 0 = List.replicate (27 + l.length) [] := by
  unfold part
  rw [List.take_zero, List.nil_append, List.replicate_append_replicate]; congr 1; omega
theorem part_all (l : List (List UInt8)) : part l l.length = sec0 l := by
  unfold part sec0
  rw [List.take_length, show 24 + l.length - l.length = 24 by omega, List.append_assoc]
theorem part_set (l : List (List UInt8)) (k : Nat) (hk : k < l.length) : (part l k).set (3 + k) l[k] = part l (k + 1) := by
  have h1 : (l.take k).length = k := by simp; omega
  unfold part
  rw [List.set_append_right _ _ (by simp), List.length_replicate, Nat.add_sub_cancel_left, List.set_append_right _ _ (by omega), h1, Nat.sub_self, show 24 + l.length - k = (24 + l.length - (k + 1)) + 1 by omega, List.replicate_succ (n := 24 + l.length - (k + 1)), List.set_cons_zero, List.take_succ_eq_append_getElem hk, List.append_assoc, List.singleton_append]
/-- spec.MachineNew -/
def b_spec_MachineNew : C := (.seq (.ops [⟨(some 2), none, .alloc [(i64 0), nils, nils, (i64 0)]⟩])
 (.seq (.seq (.ops [q 5 (.mv (.t 0)), q 6 (.len (.t 5)), q 7 (.bin .gtr (.t 6) (.c (i64 400)))])
 (.cond (.t 7) (.seq (.ops [q 8 (.build [(i64 0), nils, nils, (i64 0)] [(3, 1, (.c (i64 2)))]), ⟨none, none, .st 4 (.t 2) (.t 8)⟩])
 .ret) .skip))
 (.seq (.seq (.ops [q 9 (.mv (.t 0)), ⟨(some 10), none, .call (.c (.func (.func 119) #[] #[])) [(.t 9)]⟩, q 11 (.un .not (.t 10))])
 (.cond (.t 11) (.seq (.ops [q 12 (.build [(i64 0), nils, nils, (i64 0)] [(3, 1, (.c (i64 1)))]), ⟨none, none, .st 4 (.t 2) (.t 12)⟩])
 .ret) .skip))
 (.seq (.ops [q 13 (.mv (.t 0)), q 14 (.len (.t 13)), q 15 (.bin .add (.c (i64 3)) (.t 14)), q 16 (.bin .add (.t 15) (.c (i64 24))), ⟨(some 17), none, .call (.c (.func (.func 120) #[] #[])) [(.t 16)]⟩, ⟨(some 3), none, .alloc [nils, nils]⟩, ⟨none, none, .st 2 (.t 3) (.t 17)⟩])
 (.seq (.seq (.ops [q 4 (.mv (.c (i64 0)))])
 (.block 0 (.loop (.seq (.seq (.ops [q 18 (.mv (.t 4)), q 19 (.mv (.t 0)), q 20 (.len (.t 19)), q 21 (.bin .lss (.t 18) (.t 20))])
 (.cond (.t 21) .skip (.exit 0)))
 (.seq (.block 1 (.dops true (.tk (q 24 (.fld 0 (.t 3))) (.tk (q 25 (.ld false 1 (.t 24))) (.tk (q 26 (.mv (.t 4))) (.tk (q 27 (.bin .add (.c (i64 3)) (.t 26))) (.tk (q 28 (.mv (.t 0))) (.tk (q 29 (.mv (.t 4))) (.tk (q 30 (.idx 1 (.t 28) (.t 29))) (.tk (q 31 (.ld false 1 (.t 30))) (.tk (q 32 (.idx 1 (.t 25) (.t 27))) (.lt (⟨none, none, .st 1 (.t 32) (.t 31)⟩) .nil))))))))))))
 (.ops [q 22 (.mv (.t 4)), q 23 (.bin .add (.t 22) (.c (i64 1))), q 4 (.mv (.t 23))]))))))
 (.seq (.dops true (.tk (q 33 (.ld true 2 (.t 3))) (.tk (q 34 (.ld true 2 (.t 3))) (.tk (q 35 (.build [(i64 0), (i64 0), (i64 0), (i64 0), (i64 0), (str []), nils, nils] [(0, 1, (.c (i64 1)))])) (.sq (⟨(some 36), none, .call (.c (.func (.func 92) #[] #[])) [(.t 35)]⟩) (.sq (⟨(some 37), none, .call (.c (.func (.func 122) #[] #[])) [(.t 34), (.t 36)]⟩) (.sq (⟨(some 38), none, .call (.c (.func (.func 121) #[] #[])) [(.t 33), (.t 37)]⟩) (.tk (q 39 (.part true 0 2 (.t 38))) (.lt (⟨none, none, .st 2 (.t 3) (.t 39)⟩) .nil)))))))))
 (.seq (.ops [q 40 (.mv (.t 0)), q 41 (.len (.t 40)), q 42 (.ld true 2 (.t 3)), q 43 (.build [(i64 0), nils, nils] [(0, 1, (.t 41)), (1, 2, (.t 42))]), q 44 (.build [(i64 0), nils, nils, (i64 0)] [(0, 3, (.t 43))]), ⟨none, none, .st 4 (.t 2) (.t 44)⟩])
 .ret)))))))
theorem w_spec_MachineNew {args : List Value} {h : H} {Q : Value → H → Prop} (hl : args.length ≤ 45) (hk : wpc Try.prog b_spec_MachineNew (retw [.cell 2 true 4] Q) (argsFr args) h) : AC Try.prog 50 args h Q :=
  AC.of_wpc mixedOrders Try.func50 (by kernel_rfl) (by kernel_rfl : prepF Try.prog Try.f50 = some ⟨45, [.cell 2 true 4], b_spec_MachineNew⟩) hl hk

set_option maxHeartbeats 1600000 in
theorem specMachineNew_ac {h : H} {v : Value} {l : List (List UInt8)} (hv : Sl h v 1 (strs l)) (hn : l.length ≤ 1048576) : AC Try.prog 50 [v] h fun r h' => Ext h h' ∧ ∃ cs, r = .agg cs.toArray ∧ RepF h h' (spMachO (newOut l)) cs := by
  obtain ⟨a, c, rfl⟩ := hv.shape
  have hl : (strs l).length = l.length := by simp
  rw [hl] at hv
  unfold newOut
  skip
  refine w_spec_MachineNew (by simp) ?_
  unfold b_spec_MachineNew
  simp -implicitDefEqProofs only [go_sem, ↓reduceIte, reduceCtorEq, Int.reduceEq, Int.reduceLT, Int.reduceLE, Nat.reduceEqDiff, Nat.reduceAdd, Nat.reduceMul, Nat.reduceLeDiff, Nat.reduceSub, Int.reduceNeg, hl]
  intro b2 hb_b2 n_b2
  by_cases h4 : 400 < l.length
  · rw [if_pos h4]
    simp -implicitDefEqProofs only [go_sem, ↓reduceIte, reduceCtorEq, Int.reduceEq, Int.reduceLT, Int.reduceLE, Nat.reduceEqDiff, Nat.reduceAdd, Nat.reduceMul, Nat.reduceLeDiff, Nat.reduceSub, Int.reduceNeg, show (400 : Int) < (l.length : Int) by omega, hl, hb_b2]
    exact ⟨((Ext.refl _).set' n_b2 _), _, rfl, mach0_f _ _ _⟩
  rw [if_neg h4]
  simp -implicitDefEqProofs only [go_sem, ↓reduceIte, reduceCtorEq, Int.reduceEq, Int.reduceLT, Int.reduceLE, Nat.reduceEqDiff, Nat.reduceAdd, Nat.reduceMul, Nat.reduceLeDiff, Nat.reduceSub, Int.reduceNeg, show ¬ (400 : Int) < (l.length : Int) by omega, hl, hb_b2]
  refine (specImageRight_pc (hv.ext ((Ext.refl _).set' n_b2 _)) hn).use ?_
  by_cases hi : imageOk l
  rotate_left
  · rw [if_neg hi]
    simp -implicitDefEqProofs only [go_sem, ↓reduceIte, reduceCtorEq, Int.reduceEq, Int.reduceLT, Int.reduceLE, Nat.reduceEqDiff, Nat.reduceAdd, Nat.reduceMul, Nat.reduceLeDiff, Nat.reduceSub, Int.reduceNeg, hi, hl, hb_b2]
    exact ⟨((Ext.refl _).set' n_b2 _), _, rfl, mach0_f _ _ _⟩
  rw [if_pos hi]
  have h18 := hi.1
  have ho := flash0_ok hi
  have w1 : IntKind.i64.wrap (3 + (l.length : Int)) = 3 + (l.length : Int) := wrap_i64 (by omega) (by omega)
  have w2 : IntKind.i64.wrap (3 + (l.length : Int) + 24) = ((27 + l.length : Nat) : Int) := by rw [wrap_i64 (by omega) (by omega)]; omega
  simp -implicitDefEqProofs only [go_sem, ↓reduceIte, reduceCtorEq, Int.reduceEq, Int.reduceLT, Int.reduceLE, Nat.reduceEqDiff, Nat.reduceAdd, Nat.reduceMul, Nat.reduceLeDiff, Nat.reduceSub, Int.reduceNeg, hi, w1, w2, hl, hb_b2]
  refine AC_of (flashNew_ac (n := 27 + l.length) (by omega)) ?_
  rintro _ h1 - ⟨e1, bs, rfl, nbs, hbs, gs⟩
  have E0 := (Ext.set' (Ext.refl h) n_b2 ⟨[i64 0, nils, nils, i64 0], 4⟩)
  have g2' : (h.set b2 ⟨[i64 0, nils, nils, i64 0], 4⟩).get b2 = some ⟨[i64 0, nils, nils, i64 0], 4⟩ := H.set_get_same _ _ _
  have hb2h : (h.set b2 ⟨[i64 0, nils, nils, i64 0], 4⟩).base ≤ b2 := by simp only [H.set_base]; exact hb_b2
  generalize hH : h.set b2 ⟨[i64 0, nils, nils, i64 0], 4⟩ = hh at E0 g2' e1 nbs hbs hb2h ⊢
  skip
  have wr : ∀ k, k ≤ l.length → Wid 1 (sects (part l k)) := fun k _ => sects_wid _
  have ow : Own hh h1 (sl bs 0 (27 + l.length) (27 + l.length)) 1 (sects (part l 0)) :=
    .inr ⟨bs, 27 + l.length, 27 + l.length, by rw [List.length_map, part_len _ _ (by omega)], by rw [List.length_map, part_len _ _ (by omega)]; exact Nat.le_refl _, by rw [e1.1]; exact hbs, nbs, by rw [part_zero]; exact gs, by omega, sects_wid _⟩
  simp -implicitDefEqProofs only [go_sem, ↓reduceIte, reduceCtorEq, Int.reduceEq, Int.reduceLT, Int.reduceLE, Nat.reduceEqDiff, Nat.reduceAdd, Nat.reduceMul, Nat.reduceLeDiff, Nat.reduceSub, Int.reduceNeg, hl]
  intro b3 hb3 n3
  have n3h := e1.none n3
  have hb3h : hh.base ≤ b3 := by rw [← e1.1]; exact hb3
  have ns3 : bs ≠ b3 := fun e => by rw [← e, gs] at n3; cases n3
  have ne23 : b2 ≠ b3 := fun e => by rw [e, n3h] at g2'; cases g2'
  simp -implicitDefEqProofs only [go_sem, ↓reduceIte, reduceCtorEq, Int.reduceEq, Int.reduceLT, Int.reduceLE, Nat.reduceEqDiff, Nat.reduceAdd, Nat.reduceMul, Nat.reduceLeDiff, Nat.reduceSub, Int.reduceNeg, hb3, hl]
  refine loopW_of (fun m f1 h' => ∃ k, m + k = l.length ∧ h'.get b3 = some ⟨[sl bs 0 (27 + l.length) (27 + l.length), nils], 2⟩ ∧ Own hh h' (sl bs 0 (27 + l.length) (27 + l.length)) 1 (sects (part l k)) ∧ Ext hh h' ∧ f1 0 = .slice a l.length c ∧ f1 2 = ptr b2 0 ∧ f1 3 = ptr b3 0 ∧ f1 4 = i64 k) l.length
    ⟨0, by simp, H.set_get_same _ _ _, ow.setOb (fun e => ns3 (by simpa [ob] using e)) _, e1.set n3 _, by simp -implicitDefEqProofs only [go_sem, ↓reduceIte, reduceCtorEq, Int.reduceEq, Int.reduceLT, Int.reduceLE, Nat.reduceEqDiff, Nat.reduceAdd, Nat.reduceMul, Nat.reduceLeDiff, Nat.reduceSub, Int.reduceNeg, hl], by simp -implicitDefEqProofs only [go_sem, ↓reduceIte, reduceCtorEq, Int.reduceEq, Int.reduceLT, Int.reduceLE, Nat.reduceEqDiff, Nat.reduceAdd, Nat.reduceMul, Nat.reduceLeDiff, Nat.reduceSub, Int.reduceNeg, hl], by simp -implicitDefEqProofs only [go_sem, ↓reduceIte, reduceCtorEq, Int.reduceEq, Int.reduceLT, Int.reduceLE, Nat.reduceEqDiff, Nat.reduceAdd, Nat.reduceMul, Nat.reduceLeDiff, Nat.reduceSub, Int.reduceNeg, hl], by simp -implicitDefEqProofs only [go_sem, ↓reduceIte, reduceCtorEq, Int.reduceEq, Int.reduceLT, Int.reduceLE, Nat.reduceEqDiff, Nat.reduceAdd, Nat.reduceMul, Nat.reduceLeDiff, Nat.reduceSub, Int.reduceNeg, hl]; rfl⟩ ?_
  clear ow gs n3
  rintro m f1 h' ⟨k, hm, g3, ow, ee, f0, f2, f3, f4⟩
  have hb3' : h'.base ≤ b3 := by rw [ee.1]; exact hb3h
  by_cases hk : k < l.length
  · obtain ⟨_, _, bd, od, e', hc', r2, r3⟩ := (hv.ext (E0.trans ee))
    rw [hl] at e' r2
    simp only [Value.slice.injEq, true_and] at e'
    obtain ⟨rfl, rfl⟩ := e'
    have d1 := r3 k [str l[k]] (by simp [hk])
    have hpl : (sects (part l k)).length = 27 + l.length := by rw [List.length_map, part_len _ _ (by omega)]
    obtain ⟨b5, c5, z, hus, hb5, nb5, g5, hst, o5⟩ := own_put ow (k := 3 + k) (by rw [hpl]; omega) (r := [str l[k]]) rfl rfl
    rw [hpl] at hus
    simp only [sl, Value.slice.injEq, true_and, Option.some.injEq, Addr.mk.injEq, and_true] at hus
    obtain ⟨rfl, rfl⟩ := hus
    have hsy : (sects (part l k)).set (3 + k) [str l[k]] = sects (part l (k + 1)) := by
      rw [← part_set l k hk, sects, sects, List.map_set]
    rw [hsy] at o5 hst
    have w3 : IntKind.i64.wrap (3 + (k : Int)) = ((3 + k : Nat) : Int) := by rw [wrap_i64 (by omega) (by omega)]; omega
    simp -implicitDefEqProofs only [go_sem, ↓reduceIte, reduceCtorEq, Int.reduceEq, Int.reduceLT, Int.reduceLE, Nat.reduceEqDiff, Nat.reduceAdd, Nat.reduceMul, Nat.reduceLeDiff, Nat.reduceSub, Int.reduceNeg, f0, f3, f4, Int.ofNat_lt, Int.natCast_nonneg, hk, r2, d1, ldc_get g3, w3, show 3 + k < 27 + l.length by omega, hb5, hst, Int.toNat_natCast, wrap_i64 (show -(9223372036854775808 : Int) ≤ ((k : Int) + 1) by omega) (show ((k : Int) + 1) < 9223372036854775808 by omega), hl]
    refine ⟨m - 1, by omega, _, Ext.refl _, k + 1, by omega, ?_, o5, ee.set' nb5 _, f2, rfl⟩
    rw [H.set_get_ne _ _ _ _ (Ne.symm ns3)]; exact g3
  have e : k = l.length := by omega
  subst e
  rw [part_all] at ow
  have sv := ow.sl
  have g2 := ee.2.g b2 _ g2'
  have fr : FlR h' (flash0 l) (sl bs 0 (27 + l.length) (27 + l.length)) nils := ⟨sv, Sl.nil _ _⟩
  have h2 : 2 ≤ (flash0 l).sec.length := by show 2 ≤ (sec0 l).length; rw [sec0_len]; omega
  have h46 := stateB_46 idle0_ok
  have hlen := metaActs_len (flash0 l) (stateB idle0)
  simp -implicitDefEqProofs only [go_sem, ↓reduceIte, reduceCtorEq, Int.reduceEq, Int.reduceLT, Int.reduceLE, Nat.reduceEqDiff, Nat.reduceAdd, Nat.reduceMul, Nat.reduceLeDiff, Nat.reduceSub, Int.reduceNeg, f0, f3, f4, Int.ofNat_lt, Nat.lt_irrefl, ldc_get g3, hl]
  refine (l12Bytes_pc idle0 (Sl.nil _ _) (Sl.nil _ _) idle0_ok).use ?_
  refine ⟨Sub.refl _, ?_⟩
  simp -implicitDefEqProofs only [go_sem, ↓reduceIte, reduceCtorEq, Int.reduceEq, Int.reduceLT, Int.reduceLE, Nat.reduceEqDiff, Nat.reduceAdd, Nat.reduceMul, Nat.reduceLeDiff, Nat.reduceSub, Int.reduceNeg, hl]
  refine AC_of (l04Acts_ac fr ho h2 (by omega)) ?_
  rintro va h5 - ⟨e5, o5⟩
  refine ⟨e5.2, ?_⟩
  simp -implicitDefEqProofs only [go_sem, ↓reduceIte, reduceCtorEq, Int.reduceEq, Int.reduceLT, Int.reduceLE, Nat.reduceEqDiff, Nat.reduceAdd, Nat.reduceMul, Nat.reduceLeDiff, Nat.reduceSub, Int.reduceNeg, hl]
  refine AC_of (l04Do_ac (fr.ext e5) o5.sl ho (metaActs_ok h2 (by omega)) (by omega)) ?_
  rintro _ h6 - ⟨e6, us, ud, rfl, f6⟩
  have p1 := f6.1.sl.one
  have p2 := f6.2.1.sl.one
  have e56 := e5.trans e6
  have g26 := e56.2.g b2 _ g2
  have g36 := e56.2.g b3 _ g3
  have hb6 : h6.base ≤ b3 := by rw [e56.1]; exact hb3'
  have hb62 : h6.base ≤ b2 := by rw [e56.1, ee.1]; exact hb2h
  refine ⟨e56.2, ?_⟩
  simp -implicitDefEqProofs only [go_sem, ↓reduceIte, reduceCtorEq, Int.reduceEq, Int.reduceLT, Int.reduceLE, Nat.reduceEqDiff, Nat.reduceAdd, Nat.reduceMul, Nat.reduceLeDiff, Nat.reduceSub, Int.reduceNeg, f0, f2, f3, stc_get g36, hb6, p1, p2, eq_false ne23, eq_false (Ne.symm ne23), stc_get g26, hb62, hl]
  exact ⟨(((E0.trans ee).trans e56).set' n_b2 _).set' (E0.none n3h) _, _, rfl, machO_f.2 ⟨us, ud, rfl, FlF.back (FlF.set (FlF.set f6 (e5.2.g b2 _ g2) _) (e5.2.g b3 _ g3) _) ((E0.trans ee).trans e5)⟩⟩
end Go.Proofs.Ythheclnjaemjnaa
