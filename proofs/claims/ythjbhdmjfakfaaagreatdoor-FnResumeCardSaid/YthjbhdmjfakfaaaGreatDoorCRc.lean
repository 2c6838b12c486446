/- A helper of this seat's claims (contracts of the functions): what it shows is shown for every input that its statements name, on no other condition. -/
import Derived.Test.YthjbhdmjfakfaaaGreatDoorMCRb
import Derived.Test.YthjbhdmjfakfaaaGreatDoorMCZc
import Derived.Test.YthjbhdmjfakfaaaGreatDoorMC11u
set_option linter.unusedVariables false
set_option linter.unusedSimpArgs false
set_option maxRecDepth 100000
namespace Go.Proofs.YthjbhdmjfakfaaaGreatDoor
open Go.KH

def idleOf (s : UState) : UState := ⟨1, 0, 0, 0, 0, [], s.held, []⟩
noncomputable def finOut (m : UMach) (s : UState) (l : List UStep) : List UAct × Int :=
 if (l.length : Int) ≠ s.need then (saveActs m (idleOf s), 4)
 else if codeOf l m.blocks ≠ 0 then (saveActs m (idleOf s), 5)
 else if shaL (applyB (baseOf m) l).flatten ≠ s.digest then (saveActs m (idleOf s), 5)
 else if s.stash < slots (planB (l.filter isW)) then (saveActs m (idleOf s), 11)
 else (⟨true, 0, []⟩ :: saveActs m { s with phase := 3 }, 0)
theorem ok_ready {s : UState} (h : stateOk s) (p : s.phase = 2) : stateOk { s with phase := 3 } := by
 obtain ⟨h1, h2, h3, h4, h5⟩ := h
 rw [if_neg (by omega)] at h5
 refine ⟨by simp, h2, h3, h4, ?_⟩
 rw [if_neg (by simp)]
 simp only
 omega
def b_impl_Machine_finish : C := (jo [⟨(some 3), none, .box (.t 0)⟩, ⟨(some 4), none, .box (.t 1)⟩, ⟨(some 6), none, .alloc [nils, (str []), nils, (i64 0)]⟩]
 (.seq (.dops true (.tk (jd 9 3 3) (.tk (jd 10 8 4) (.sq (jc 11 147 [(.t 10)]) (.sq (jc 12 146 [(.t 9), (.t 11)]) (.tk (jm 7 12) .nil))))))
 (jo [jd 13 3 3, jc 14 136 [(.t 13)], jm 8 14]
 (.seq (.block 0 (jo [jf 16 0 4, jl 17 16, jk 18 .neq 17 2, jm 15 18]
 (.cond (.t 15) (jo [q 19 (.build [nils, (str []), nils, (i64 0)] [(3, 1, (.c (i64 10)))]), js 4 6 19]
 .ret) (.seq (.dops true (.tk (jm 21 2) (.tk (jf 23 2 4) (.tk (jl 24 23) (.sq (jc 22 96 [(.t 21)]) (.tk (jb 25 .neq 22 24) (.tk (jm 20 25) .nil)))))))
 (.cond (.t 20) (jo [jm 26 7, q 27 (.build [nils, (str []), nils, (i64 0)] [(0, 1, (.t 26)), (3, 1, (.c (i64 4)))]), js 4 6 27]
 .ret) (.seq (.dops true (.tk (jm 29 2) (.tk (jf 30 0 3) (.tk (jl 31 30) (.sq (jc 32 64 [(.t 29), (.t 31)]) (.tk (jk 33 .neq 32 0) (.tk (jm 34 33) (.tk (qg 35 34 false (.mv (.t 8))) (.tk (qg 36 34 false (.mv (.t 2))) (.tk (qg 39 34 false (.fld 5 (.t 4))) (.tk (qg 40 34 false (.ld false 1 (.t 39))) (.sq (jcg 37 34 false 65 [(.t 35), (.t 36)]) (.sq (jcg 38 34 false 36 [(.t 37)]) (.tk (qg 41 34 false (.bin .neq (.t 38) (.t 40))) (.tk (q 42 (.pick (.t 34) (.c (.bool true)) (.t 41))) (.tk (jm 28 42) .nil))))))))))))))))
 (.cond (.t 28) (jo [jm 43 7, q 44 (.build [nils, (str []), nils, (i64 0)] [(0, 1, (.t 43)), (3, 1, (.c (i64 5)))]), js 4 6 44]
 .ret) (.seq (.dops true (.tk (jm 46 2) (.tk (jf 49 3 4) (.tk (jl 50 49) (.sq (jc 47 137 [(.t 46)]) (.sq (jc 48 138 [(.t 47)]) (.tk (jb 51 .gtr 48 50) (.tk (jm 45 51) .nil))))))))
 (.cond (.t 45) (jo [jm 52 7, q 53 (.build [nils, (str []), nils, (i64 0)] [(0, 1, (.t 52)), (3, 1, (.c (i64 11)))]), js 4 6 53]
 .ret) .skip)))))))))
 (jo [jf 54 0 4, ⟨none, none, .st 1 (.t 54) (.c (i64 3))⟩]
 (jo [q 55 (.build [(.bool false), (i64 0), (str [])] [(0, 1, (.c (.bool true)))]), ⟨(some 56), none, .bsl 1 [(.bool false), (i64 0), (str [])] [(0, 3, (.t 55))]⟩, jd 57 3 3, jd 58 8 4, jc 59 146 [(.t 57), (.t 58)], ⟨(some 60), none, .app 3 32 (.t 56) (.t 59)⟩, q 61 (.build [nils, (str []), nils, (i64 0)] [(0, 1, (.t 60))]), js 4 6 61]
 .ret))))))
theorem w_impl_Machine_finish : Wk Tryz.prog 145 62 [.cell 6 true 4] b_impl_Machine_finish := Wk.of mixedOrders Tryz.func145 (by kernel_rfl) (by kernel_rfl)

set_option maxHeartbeats 1600000 in
theorem finish_ac {h : H} {cs c2 : List Value} {v : Value} {m : UMach} {s : UState} {l : List UStep} (tb : Tabs h) (hv : RepR h (spMach m) cs) (hf : machFit m) (hst : StR h c2 s) (hok : stateOk s) (hi : imageOk (baseOf m)) (hl : Sl h v 4 (l.map UStep.cells))
  (h20 : l.length ≤ 20) (p2 : s.phase = 2) : AC Tryz.prog 145 [.agg cs.toArray, .agg c2.toArray, v] h fun r h' => Ext h h' ∧ ∃ va, r = .agg #[va, str [], nils, i64 (finOut m s l).2] ∧ Own h h' va 3 ((finOut m s l).1.map UAct.cells) := by
 have hv0 := hv
 have hst0 := hst
 have hbl := hf.1
 have hbb := baseOf_len hf
 obtain ⟨vs, vd, rfl, fr⟩ := mach_r.1 hv
 have o4 := fr.1.one
 have o5 := fr.2.one
 have c4 : vcl vs = [vs] := fr.1.vcl
 have c5 : vcl vd = [vd] := fr.2.vcl
 obtain ⟨uh, um, rfl, sh, sm⟩ := hst
 have o6 := sh.vcl
 have o7 := sm.vcl
 have o8 := sh.one
 have o9 := sm.one
 have ov := hl.vcl
 skip
 refine w_impl_Machine_finish (by simp) ?_
 unfold b_impl_Machine_finish
 refine wpc_cut (fun f1 h1 => ∃ b3 b4 b6, f1 2 = v ∧ f1 3 = ptr b3 0 ∧ f1 4 = ptr b4 0 ∧ f1 6 = ptr b6 0 ∧ h1.get b3 = some ⟨[i64 m.blocks, vs, vd], 3⟩ ∧ h1.get b4 = some ⟨s.cells uh um, 8⟩ ∧ h1.get b6 = some ⟨[nils, str [], nils, i64 0], 4⟩ ∧ h1.base ≤ b4 ∧ h1.base ≤ b6 ∧ h.get b4 = none ∧ h.get b6 = none ∧ b4 ≠ b6 ∧ b3 ≠ b4 ∧ Ext h h1) ?_ ?_
 ·simp -implicitDefEqProofs only [go_sem, o4, o5, c4, c5, o6, o7, o8, o9, ov]
  intro b3 hb_b3 n_b3
  simp -implicitDefEqProofs only [go_sem, o4, o5, c4, c5, o6, o7, o8, o9, ov, hb_b3]
  intro b4 hb_b4 m0_b4
  obtain ⟨z_b4_b3, y_b4_b3, n_b4⟩ := fne m0_b4
  simp only [H.set_base] at hb_b4
  simp -implicitDefEqProofs only [go_sem, o4, o5, c4, c5, o6, o7, o8, o9, ov, hb_b3, hb_b4, z_b4_b3, y_b4_b3]
  intro b6 hb_b6 m0_b6
  obtain ⟨z_b6_b4, y_b6_b4, m1_b6⟩ := fne m0_b6
  obtain ⟨z_b6_b3, y_b6_b3, n_b6⟩ := fne m1_b6
  simp only [H.set_base] at hb_b6
  simp -implicitDefEqProofs only [go_sem, o4, o5, c4, c5, o6, o7, o8, o9, ov, hb_b3, hb_b4, z_b4_b3, y_b4_b3, hb_b6, z_b6_b4, y_b6_b4, z_b6_b3, y_b6_b3]
  exact ⟨b3, b4, b6, rfl, rfl, rfl, by simp -implicitDefEqProofs only [go_sem, o4, o5, c4, c5, o6, o7, o8, o9, ov, hb_b3, hb_b4, z_b4_b3, y_b4_b3, hb_b6, z_b6_b4, y_b6_b4, z_b6_b3, y_b6_b3], by simp -implicitDefEqProofs only [go_sem, o4, o5, c4, c5, o6, o7, o8, o9, ov, hb_b3, hb_b4, z_b4_b3, y_b4_b3, hb_b6, z_b6_b4, y_b6_b4, z_b6_b3, y_b6_b3], by simp -implicitDefEqProofs only [go_sem, o4, o5, c4, c5, o6, o7, o8, o9, ov, hb_b3, hb_b4, z_b4_b3, y_b4_b3, hb_b6, z_b6_b4, y_b6_b4, z_b6_b3, y_b6_b3], hb_b4, hb_b6, n_b4, n_b6, of_eq_false y_b6_b4, of_eq_false y_b4_b3, ((((Ext.refl _).set' n_b3 _).set' n_b4 _).set' n_b6 _)⟩
 skip
 rintro f1 hS ⟨b3, b4, b6, q2, q3, q4, q6, g3, g4, g6, hb4, hb6, n4, n6, hne, hne2, E0⟩
 have hvS := hv0.ext E0
 have stS := hst0.ext E0
 have I : idleOf s = ⟨1, 0, 0, 0, 0, [], s.held, []⟩ := rfl
 refine wpc_cut2 (fun f2 h2 => ∃ w7 w8, f2 2 = v ∧ f2 3 = ptr b3 0 ∧ f2 4 = ptr b4 0 ∧ f2 6 = ptr b6 0 ∧ f2 7 = w7 ∧ f2 8 = w8 ∧ Own hS h2 w7 3 ((saveActs m (idleOf s)).map UAct.cells) ∧ Sl h2 w8 1 (strs (baseOf m)) ∧ Ext hS h2) ?_ ?_
 ·simp -implicitDefEqProofs only [go_sem, q2, q3, q4, q6, ldc_get g3, ldc_get g4, o4, o5, c4, c5, o6, o7, o8, o9, ov]
  refine AC_of (stateIdle_ac stS (ok_small hok)) ?_
  rintro _ h5 - ⟨e5, cI, rfl, F5⟩
  refine ⟨e5.2, ?_⟩
  simp -implicitDefEqProofs only [go_sem, F5.r.len, F5.r.one, o4, o5, c4, c5, o6, o7, o8, o9, ov]
  refine AC_of (save_ac (hvS.ext e5) hf F5.r (ok_idle hok)) ?_
  rintro v6 h6 - ⟨e6, o6'⟩
  refine ⟨(e5.trans e6).2, ?_⟩
  have g36 := (e5.trans e6).2.g b3 _ g3
  simp -implicitDefEqProofs only [go_sem, q2, q3, q4, q6, ldc_get g36, o6'.sl.vcl, o4, o5, c4, c5, o6, o7, o8, o9, ov]
  refine AC_of (base_ac (hvS.ext (e5.trans e6)) hf) ?_
  rintro v8 h8 - ⟨e8, o8'⟩
  simp -implicitDefEqProofs only [go_sem, q2, q3, q4, q6, o8'.sl.vcl, o4, o5, c4, c5, o6, o7, o8, o9, ov]
  exact ⟨v6, v8, rfl, rfl, (o6'.ext e8).back e5, o8'.sl, (e5.trans e6).trans e8⟩
 rintro f2 h2 ⟨w7, w8, r2, r3, r4, r6, r7, r8, ow, sb, e2⟩
 have G3 := e2.2.g b3 _ g3
 have G4 := e2.2.g b4 _ g4
 have G6 := e2.2.g b6 _ g6
 have hb62 : h2.base ≤ b6 := by rw [e2.1]; exact hb6
 have hb42 : h2.base ≤ b4 := by rw [e2.1]; exact hb4
 have E2 := E0.trans e2
 have hl2 := hl.ext E2
 have L3 := ldc_get G3
 have L4 := ldc_get G4
 have w1 := ow.sl.vcl
 have w2 := ow.sl.one
 have y1 := sb.vcl
 skip
 have idle : ∀ c : Int, (finOut m s l) = (saveActs m (idleOf s), c) → ∀ h', Ext h2 h' → Ext h (h'.set b6 ⟨[w7, str [], nils, i64 c], 4⟩) ∧ ∃ va, Value.agg #[w7, str [], nils, i64 c] = .agg #[va, str [], nils, i64 (finOut m s l).2] ∧ Own h (h'.set b6 ⟨[w7, str [], nils, i64 c], 4⟩) va 3 ((finOut m s l).1.map UAct.cells) := fun c hc h' e => by
  rw [hc]
  exact ⟨(E2.trans e).set' n6 _, w7, rfl, ((ow.ext e).set0 (b := b6) (by rw [g6]; simp) _).back E0⟩
 have st6 : ∀ {h' : H}, Ext h2 h' → (fun cs => stc h' b6 0 cs 4) = fun cs => stc h' b6 0 cs 4 := fun _ => rfl
 simp -implicitDefEqProofs only [go_sem, eq_true p2, show ((2 : Int) = 2) = True from eq_true rfl, o4, o5, c4, c5, o6, o7, o8, o9, ov, r2, r3, r4, r6, r7, r8, L3, L4, w1, w2, y1]
 refine (sizeStep_pc hl2).use ?_
 refine ⟨Sub.refl _, ?_⟩
 unfold finOut at idle ⊢
 by_cases h1 : (l.length : Int) = s.need
 rotate_left
 ·rw [if_pos h1] at idle ⊢
  simp -implicitDefEqProofs only [go_sem, eq_false h1, stc_get G6, hb62, o4, o5, c4, c5, o6, o7, o8, o9, ov, r2, r3, r4, r6, r7, r8, L3, L4, w1, w2, y1]
  exact idle 4 rfl h2 (Ext.refl _)
 rw [if_neg (fun q => q h1)] at idle ⊢
 simp -implicitDefEqProofs only [go_sem, decide_eq_true h1, h1, o4, o5, c4, c5, o6, o7, o8, o9, ov, r2, r3, r4, r6, r7, r8, L3, L4, w1, w2, y1]
 refine (stepsCode_pc hl2 (by omega)).use ?_
 refine ⟨Sub.refl _, ?_⟩
 by_cases hc : codeOf l m.blocks = 0
 rotate_left
 ·rw [if_pos hc] at idle ⊢
  simp -implicitDefEqProofs only [go_sem, eq_false hc, stc_get G6, hb62, o4, o5, c4, c5, o6, o7, o8, o9, ov, r2, r3, r4, r6, r7, r8, L3, L4, w1, w2, y1]
  exact idle 5 rfl h2 (Ext.refl _)
 rw [if_neg (fun q => q hc)] at idle ⊢
 have hco := (code_zero hc).1
 simp -implicitDefEqProofs only [go_sem, hc, o4, o5, c4, c5, o6, o7, o8, o9, ov, r2, r3, r4, r6, r7, r8, L3, L4, w1, w2, y1]
 refine AC_of (imageApply_ac sb hl2 hi (by omega) (fun x hx => by rw [hbb.2]; exact hco.2.2 x hx)) ?_
 rintro v3 h3 - ⟨e3, f3⟩
 refine ⟨e3.2, ?_⟩
 have hia : imageOk (applyB (baseOf m) l) := applyB_ok hi (fun x hx => by rw [hbb.2]; exact hco.2.2 x hx)
 simp -implicitDefEqProofs only [go_sem, f3.sl.vcl, o4, o5, c4, c5, o6, o7, o8, o9, ov, r2, r3, r4, r6, r7, r8, L3, L4, w1, w2, y1]
 refine (imageDigest_pc (tb.ext (E2.trans e3)) f3.sl hia).use ?_
 refine ⟨e3.2, ?_⟩
 have G33 := e3.2.g b3 _ G3
 have G43 := e3.2.g b4 _ G4
 have G63 := e3.2.g b6 _ G6
 have hb63 : h3.base ≤ b6 := by rw [e3.1]; exact hb62
 have hb43 : h3.base ≤ b4 := by rw [e3.1]; exact hb42
 have M4 := ldc_get G43
 have M3 := ldc_get G33
 by_cases hd : shaL (applyB (baseOf m) l).flatten = s.digest
 rotate_left
 ·rw [if_pos hd] at idle ⊢
  simp -implicitDefEqProofs only [go_sem, eq_false hd, stc_get G63, hb63, o4, o5, c4, c5, o6, o7, o8, o9, ov, r2, r3, r4, r6, r7, r8, L3, L4, w1, w2, y1]
  exact idle 5 rfl h3 e3
 rw [if_neg (fun q => q hd)] at idle ⊢
 skip
 skip
 simp -implicitDefEqProofs only [go_sem, decide_eq_true hd, hd, o4, o5, c4, c5, o6, o7, o8, o9, ov, r2, r3, r4, r6, r7, r8, w1, w2, y1, M3, M4]
 have hl3 := hl2.ext e3
 refine AC_of (planOf_ac hl3 h20 (steps_dst hco)) ?_
 rintro v4 h4 - ⟨e4, f4⟩
 refine ⟨e4.2, ?_⟩
 have h28 := planB_len (w := l.filter isW) (steps_dst hco)
 have hfl := List.length_filter_le isW l
 simp -implicitDefEqProofs only [go_sem, f4.sl.vcl, o4, o5, c4, c5, o6, o7, o8, o9, ov, r2, r3, r4, r6, r7, r8, w1, w2, y1, M3, M4]
 refine (slotsOf_pc f4.sl (by omega)).use ?_
 refine ⟨e4.2, ?_⟩
 have e24 := e3.trans e4
 have G34 := e24.2.g b3 _ G3
 have G44 := e24.2.g b4 _ G4
 have G64 := e24.2.g b6 _ G6
 have hb64 : h4.base ≤ b6 := by rw [e24.1]; exact hb62
 have hb44 : h4.base ≤ b4 := by rw [e24.1]; exact hb42
 by_cases hs : s.stash < slots (planB (l.filter isW))
 ·rw [if_pos hs] at idle ⊢
  simp -implicitDefEqProofs only [go_sem, eq_true hs, stc_get G64, hb64, o4, o5, c4, c5, o6, o7, o8, o9, ov, r2, r3, r4, r6, r7, r8, w1, w2, y1, M3, M4]
  exact idle 11 rfl h4 e24
 rw [if_neg hs]
 skip
 simp -implicitDefEqProofs only [go_sem, eq_false hs, stc_get G44, ldc_get G44, ldc_get G34, hb44, eq_false hne2, eq_false hne, hs, o4, o5, c4, c5, o6, o7, o8, o9, ov, r2, r3, r4, r6, r7, r8, w1, w2, y1]
 have E5 : Ext h (h4.set b4 ⟨[.int .i64 3, i64 s.tries, i64 s.need, i64 s.stash, i64 s.done, str s.digest, uh, um], 8⟩) := (E2.trans e24).set' n4 _
 have J3 : (h4.set b4 ⟨[.int .i64 3, i64 s.tries, i64 s.need, i64 s.stash, i64 s.done, str s.digest, uh, um], 8⟩).get b3 = some ⟨[i64 m.blocks, vs, vd], 3⟩ := by rw [H.set_get_ne _ _ _ _ hne2]; exact G34
 have J6 : (h4.set b4 ⟨[.int .i64 3, i64 s.tries, i64 s.need, i64 s.stash, i64 s.done, str s.digest, uh, um], 8⟩).get b6 = some ⟨[nils, str [], nils, i64 0], 4⟩ := by rw [H.set_get_ne _ _ _ _ hne.symm]; exact G64
 have J4 : (h4.set b4 ⟨[.int .i64 3, i64 s.tries, i64 s.need, i64 s.stash, i64 s.done, str s.digest, uh, um], 8⟩).get b4 = some ⟨[.int .i64 3, i64 s.tries, i64 s.need, i64 s.stash, i64 s.done, str s.digest, uh, um], 8⟩ := H.set_get_same _ _ _
 have hb65 : (h4.set b4 ⟨[.int .i64 3, i64 s.tries, i64 s.need, i64 s.stash, i64 s.done, str s.digest, uh, um], 8⟩).base ≤ b6 := hb64
 generalize h4.set b4 ⟨[.int .i64 3, i64 s.tries, i64 s.need, i64 s.stash, i64 s.done, str s.digest, uh, um], 8⟩ = h5 at E5 J3 J4 J6 hb65 ⊢
 intro b56 hb56 n56
 have e56 := (Ext.refl h5).set n56 ⟨[.bool true, i64 0, str []], 3⟩
 have ow5 := own_acts (h0 := h5) (h := h5) (b := b56) [⟨true, 0, []⟩] n56 hb56
 change Own h5 (h5.set b56 ⟨[.bool true, i64 0, str []], 3⟩) (sl b56 0 1 1) 3 [[.bool true, i64 0, str []]] at ow5
 have M3 := ldc_get (e56.2.g b3 _ J3)
 have M4 := ldc_get (e56.2.g b4 _ J4)
 have s2 := saveActs_len m { s with phase := 3 }
 generalize h5.set b56 ⟨[.bool true, i64 0, str []], 3⟩ = h6 at e56 ow5 M3 M4 ⊢
 have E6 := E5.trans e56
 simp -implicitDefEqProofs only [go_sem, M3, M4, o4, o5, c4, c5, o6, o7, o8, o9, ov, r2, r3, r4, r6, r7, r8, w1, w2, y1]
 refine AC_of (save_ac (s := { s with phase := 3 }) (hv0.ext E6) hf ⟨uh, um, rfl, sh.ext E6, sm.ext E6⟩ (ok_ready hok p2)) ?_
 rintro v7 h7 - ⟨e7, o7'⟩
 simp -implicitDefEqProofs only [go_sem, o7'.sl.src (act_wid _) (by decide), o4, o5, c4, c5, o6, o7, o8, o9, ov, r2, r3, r4, r6, r7, r8, w1, w2, y1]
 refine appW_own (new := (saveActs m { s with phase := 3 }).map UAct.cells) (e56.trans e7) (ow5.ext e7) rfl (act_wid _) (acts_one _) (by simp only [List.length_map, List.length_cons, List.length_nil]; omega) ?_
 intro v8 h8 e8 o8' _
 have g68 := e8.2.g b6 _ J6
 have hb68 : h8.base ≤ b6 := by rw [e8.1]; exact hb65
 have x1 := o8'.sl.vcl
 have x2 := o8'.sl.one
 simp -implicitDefEqProofs only [go_sem, stc_get g68, hb68, x1, x2, o4, o5, c4, c5, o6, o7, o8, o9, ov, r2, r3, r4, r6, r7, r8, w1, w2, y1]
 exact ⟨(E5.trans e8).set' n6 _, v8, rfl, (o8'.set0 (b := b6) (by rw [J6]; simp) _).back E5⟩
end Go.Proofs.YthjbhdmjfakfaaaGreatDoor