/- A helper of this seat's claims (contracts of the functions): what it shows is shown for every input that its statements name, on no other condition. -/
import Derived.Test.YthjbhdmjfakfaaaGreatDoorMC14a
import Derived.Test.YthjbhdmjfakfaaaGreatDoorKD
import Derived.Test.YthjbhdmjfakfaaaGreatDoorKC
import Derived.Lib.Join
import Derived.Lib.Repeat
import Derived.Shelf.Strings.OnBuilder
import Derived.Shelf.Strings.Repeat
import Derived.Shelf.Strings.Count
import Derived.Ground.NamesProg
import Derived.Shelf.LaysM
import Derived.Test.YthjbhdmjfakfaaaGreatDoorProg
set_option linter.unusedVariables false
set_option linter.unusedSimpArgs false
set_option maxRecDepth 100000
namespace Go.Proofs.YthjbhdmjfakfaaaGreatDoor
open Go.KH

def stepActs (m : UMach) (s : UState) (n : Nat) (x : UStep) : List UAct := ⟨false, 3 + m.blocks + s.mine.getD (s.stash.toNat + n) 0, recordB n x⟩ :: if x.kind = 5 then [⟨true, 0, []⟩] else []
theorem ob_ne {v : Value} {h : H} {b : Nat} {h0 : H} {w : Nat} {rows : List (List Value)} (o : Own h0 h v w rows) (hb : h.get b = none) : KH.ob v ≠ some b := fun e => by
 obtain ⟨_, _, z, q⟩ := o.ob_new e
 rw [hb] at q; cases q
def b_impl_Machine_step : C := (jo [⟨(some 4), none, .box (.t 0)⟩, ⟨(some 5), none, .box (.t 1)⟩, ⟨(some 7), none, .box (.t 3)⟩, ⟨(some 8), none, .alloc [nils, (str []), nils, (i64 0)]⟩]
 (.seq (jo [jf 12 0 5, jl 13 12, jk 14 .neq 13 2]
 (.cond (.t 14) (jo [q 15 (.build [nils, (str []), nils, (i64 0)] [(3, 1, (.c (i64 10)))]), js 4 8 15]
 .ret) .skip))
 (jo [jm 16 2, jc 17 96 [(.t 16)], jm 9 17]
 (.seq (jo [jm 18 9, jf 19 2 5, jl 20 19, jb 21 .eql 18 20]
 (.cond (.t 21) (jo [q 22 (.build [nils, (str []), nils, (i64 0)] [(3, 1, (.c (i64 9)))]), js 4 8 22]
 .ret) .skip))
 (.seq (.seq (.dopx (.tk (jm 23 2) (.tk (jd 24 4 7) (.tk (jf 27 0 4) (.tk (jl 28 27) (.sq (⟨(some 25), none, .bsl 1 [(i64 0), (i64 0), (i64 0), (str [])] [(0, 4, (.t 24))]⟩) (.sq (⟨(some 26), none, .app 4 40 (.t 23) (.t 25)⟩) (.sq (jc 29 64 [(.t 26), (.t 28)]) (.tk (jm 10 29) .nil)))))))))
 (jo [jm 30 10, jk 31 .neq 30 0]
 (.cond (.t 31) (jo [jm 32 10, q 33 (.build [nils, (str []), nils, (i64 0)] [(3, 1, (.t 32))]), js 4 8 33]
 .ret) .skip)))
 (.seq (.dopx (.tk (jd 34 3 4) (.tk (jf 35 7 5) (.tk (jl 36 35) (.tk (jf 37 3 5) (.tk (jl 38 37) (.tk (jm 39 9) (.tk (jb 40 .add 38 39) (.tk (q 41 (.idx 1 (.t 36) (.t 40))) (.tk (jl 42 41) (.tk (jm 44 9) (.tk (jd 45 4 7) (.sq (jc 43 164 [(.t 34), (.t 42)]) (.sq (jc 46 210 [(.t 44), (.t 45)]) (.tk (q 47 (.build [(.bool false), (i64 0), (str [])] [(1, 1, (.t 43)), (2, 1, (.t 46))])) (.sq (⟨(some 48), none, .bsl 1 [(.bool false), (i64 0), (str [])] [(0, 3, (.t 47))]⟩) (.tk (jm 11 48) .nil)))))))))))))))))
 (.seq (jo [jf 49 0 7, jl 50 49, jk 51 .eql 50 5]
 (.cond (.t 51) (.ops [jm 52 11, q 53 (.build [(.bool false), (i64 0), (str [])] [(0, 1, (.c (.bool true)))]), ⟨(some 54), none, .bsl 1 [(.bool false), (i64 0), (str [])] [(0, 3, (.t 53))]⟩, ⟨(some 55), none, .app 3 32 (.t 52) (.t 54)⟩, jm 11 55]) .skip))
 (jo [jm 56 11, q 57 (.build [nils, (str []), nils, (i64 0)] [(0, 1, (.t 56))]), js 4 8 57]
 .ret))))))))
theorem w_impl_Machine_step : Wk Tryz.prog 144 58 [.cell 8 true 4] b_impl_Machine_step := Wk.x mixedOrders Tryz.func144 (by kernel_rfl) (by kernel_rfl)

set_option maxHeartbeats 1600000 in
theorem step_ac {h0 h : H} {cs c2 : List Value} {v : Value} {m : UMach} {s : UState} {l : List UStep} {x : UStep} (e0 : Ext h0 h) (hv : RepR h0 (spMach m) cs) (hf : machFit m) (hst : StR h0 c2 s) (hok : stateOk s) (ho : Own h0 h v 4 (l.map UStep.cells))
  (p2 : s.phase = 2) (hn : (l.length : Int) < s.need) (hx : x.ok) (hd : x.data.length ≤ 8) (hc : codeOf (l ++ [x]) m.blocks = 0) : AC Tryz.prog 144 [.agg cs.toArray, .agg c2.toArray, v, .agg x.cells.toArray] h fun r h' => Ext h0 h' ∧ ∃ va, r = .agg #[va, str [], nils, i64 0] ∧ Own h0 h' va 3 ((stepActs m s l.length x).map UAct.cells) := by
 have hv0 := hv
 have hst0 := hst
 have hbl := hf.1
 have hL := stateOk_log hok
 have h5 := hok.2.2.2.2
 rw [if_neg (by omega)] at h5
 obtain ⟨vs, vd, rfl, fr⟩ := mach_r.1 hv
 have o4 := fr.1.one
 have o5 := fr.2.one
 have c4 : vcl vs = [vs] := fr.1.vcl
 have c5 : vcl vd = [vd] := fr.2.vcl
 obtain ⟨uh, um, rfl, sh, sm⟩ := hst
 have o6 := sh.vcl
 have o7 := sm.vcl
 have o8 := sh.one
 have o9 := sm.one
 have ov := ho.sl.vcl
 have hsn : s.stash.toNat + l.length < s.mine.length := by omega
 obtain ⟨am, cm, rfl⟩ := sm.shape
 have lm : (ints s.mine).length = s.mine.length := by simp
 have ll : (l.map UStep.cells).length = l.length := by simp
 rw [lm] at sm
 obtain ⟨av, cv, rfl⟩ := ho.shape
 rw [ll] at ho
 skip
 refine w_impl_Machine_step (by simp) ?_
 unfold b_impl_Machine_step
 refine wpc_cut (fun f1 h1 => ∃ b4 b5 b7 b8, f1 2 = .slice av l.length cv ∧ f1 4 = ptr b4 0 ∧ f1 5 = ptr b5 0 ∧ f1 7 = ptr b7 0 ∧ f1 8 = ptr b8 0 ∧ h1.get b4 = some ⟨[i64 m.blocks, vs, vd], 3⟩ ∧ h1.get b5 = some ⟨s.cells uh (.slice am s.mine.length cm), 8⟩ ∧ h1.get b7 = some ⟨x.cells, 4⟩ ∧ h1.get b8 = some ⟨[nils, str [], nils, i64 0], 4⟩ ∧ h1.base ≤ b8 ∧ (h.get b4 = none ∧ h.get b5 = none ∧ h.get b7 = none ∧ h.get b8 = none) ∧ Ext h h1) ?_ ?_
 ·simp -implicitDefEqProofs only [go_sem, o4, o5, c4, c5, o6, o7, o8, o9, lm, ll]
  intro b4 hb_b4 n_b4
  simp -implicitDefEqProofs only [go_sem, o4, o5, c4, c5, o6, o7, o8, o9, lm, ll, hb_b4]
  intro b5 hb_b5 m0_b5
  obtain ⟨z_b5_b4, y_b5_b4, n_b5⟩ := fne m0_b5
  simp only [H.set_base] at hb_b5
  simp -implicitDefEqProofs only [go_sem, o4, o5, c4, c5, o6, o7, o8, o9, lm, ll, hb_b4, hb_b5, z_b5_b4, y_b5_b4]
  intro b7 hb_b7 m0_b7
  obtain ⟨z_b7_b5, y_b7_b5, m1_b7⟩ := fne m0_b7
  obtain ⟨z_b7_b4, y_b7_b4, n_b7⟩ := fne m1_b7
  simp only [H.set_base] at hb_b7
  simp -implicitDefEqProofs only [go_sem, o4, o5, c4, c5, o6, o7, o8, o9, lm, ll, hb_b4, hb_b5, z_b5_b4, y_b5_b4, hb_b7, z_b7_b5, y_b7_b5, z_b7_b4, y_b7_b4]
  intro b8 hb_b8 m0_b8
  obtain ⟨z_b8_b7, y_b8_b7, m1_b8⟩ := fne m0_b8
  obtain ⟨z_b8_b5, y_b8_b5, m2_b8⟩ := fne m1_b8
  obtain ⟨z_b8_b4, y_b8_b4, n_b8⟩ := fne m2_b8
  simp only [H.set_base] at hb_b8
  simp -implicitDefEqProofs only [go_sem, o4, o5, c4, c5, o6, o7, o8, o9, lm, ll, hb_b4, hb_b5, z_b5_b4, y_b5_b4, hb_b7, z_b7_b5, y_b7_b5, z_b7_b4, y_b7_b4, hb_b8, z_b8_b7, y_b8_b7, z_b8_b5, y_b8_b5, z_b8_b4, y_b8_b4]
  exact ⟨b4, b5, b7, b8, rfl, rfl, rfl, rfl, by simp -implicitDefEqProofs only [go_sem, o4, o5, c4, c5, o6, o7, o8, o9, lm, ll, hb_b4, hb_b5, z_b5_b4, y_b5_b4, hb_b7, z_b7_b5, y_b7_b5, z_b7_b4, y_b7_b4, hb_b8, z_b8_b7, y_b8_b7, z_b8_b5, y_b8_b5, z_b8_b4, y_b8_b4], by simp -implicitDefEqProofs only [go_sem, o4, o5, c4, c5, o6, o7, o8, o9, lm, ll, hb_b4, hb_b5, z_b5_b4, y_b5_b4, hb_b7, z_b7_b5, y_b7_b5, z_b7_b4, y_b7_b4, hb_b8, z_b8_b7, y_b8_b7, z_b8_b5, y_b8_b5, z_b8_b4, y_b8_b4], by simp -implicitDefEqProofs only [go_sem, o4, o5, c4, c5, o6, o7, o8, o9, lm, ll, hb_b4, hb_b5, z_b5_b4, y_b5_b4, hb_b7, z_b7_b5, y_b7_b5, z_b7_b4, y_b7_b4, hb_b8, z_b8_b7, y_b8_b7, z_b8_b5, y_b8_b5, z_b8_b4, y_b8_b4], by simp -implicitDefEqProofs only [go_sem, o4, o5, c4, c5, o6, o7, o8, o9, lm, ll, hb_b4, hb_b5, z_b5_b4, y_b5_b4, hb_b7, z_b7_b5, y_b7_b5, z_b7_b4, y_b7_b4, hb_b8, z_b8_b7, y_b8_b7, z_b8_b5, y_b8_b5, z_b8_b4, y_b8_b4], hb_b8, ⟨n_b4, n_b5, n_b7, n_b8⟩, (((((Ext.refl _).set' n_b4 _).set' n_b5 _).set' n_b7 _).set' n_b8 _)⟩
 skip
 rintro f1 hS ⟨b4, b5, b7, b8, q2, q4, q5, q7, q8, g4, g5, g7, g8, hb8, ⟨n4, n5, n7, n8⟩, eS⟩
 have E0 := e0.trans eS
 have hoS := ho.ext eS
 have z4 := ob_ne ho n4
 have z5 := ob_ne ho n5
 have z7 := ob_ne ho n7
 have z8 := ob_ne ho n8
 have n80 := e0.none n8
 obtain ⟨v, hv1⟩ : ∃ v, v = Value.slice av l.length cv := ⟨_, rfl⟩
 have ze : ∀ {b : Nat}, KH.ob (.slice av l.length cv) ≠ some b → ¬ (fun c => KH.ob (.slice av l.length cv) = some c) b := fun h => h
 have L4 := ldc_get g4
 have L5 := ldc_get g5
 have L7 := ldc_get g7
 skip
 simp -implicitDefEqProofs only [go_sem, q2, L5, eq_true p2, show ((2 : Int) = 2) = True from eq_true rfl, o4, o5, c4, c5, o6, o7, o8, o9, lm, ll, q4, q5, q7, q8]
 refine (sizeStep_pc hoS.sl).use ?_
 simp -implicitDefEqProofs only [go_sem, q2, L5, show ((l.length : Int) = s.need) = False from eq_false (by omega), o4, o5, c4, c5, o6, o7, o8, o9, lm, ll, q4, q5, q7, q8]
 refine dopX_of (without hS (fun c => KH.ob (.slice av l.length cv) = some c)) (without_keep (Keep.refl _ hS)) ?_
 have k4 : (without hS (fun c => KH.ob (.slice av l.length cv) = some c)).get b4 = some ⟨[i64 m.blocks, vs, vd], 3⟩ := by rw [without_get (S := fun c => KH.ob (.slice av l.length cv) = some c) z4]; exact g4
 have k7 : (without hS (fun c => KH.ob (.slice av l.length cv) = some c)).get b7 = some ⟨x.cells, 4⟩ := by rw [without_get (S := fun c => KH.ob (.slice av l.length cv) = some c) z7]; exact g7
 simp -implicitDefEqProofs only [go_sem, q2, ldc_get k4, ldc_get k7, o4, o5, c4, c5, o6, o7, o8, o9, lm, ll, q4, q5, q7, q8]
 intro b25 hb25 n25
 have e25 := (Ext.refl hS).set n25 ⟨x.cells, 4⟩
 refine ⟨without_keep (e25.keep _), ?_⟩
 simp -implicitDefEqProofs only [go_sem, o4, o5, c4, c5, o6, o7, o8, o9, lm, ll, q4, q5, q7, q8]
 refine appW_ownB (h0 := h0) (new := [x.cells]) (fun b hb => E0.none (e25.none hb)) (hoS.ext e25) rfl (by intro r hr; simp at hr; subst hr; rfl) (by simp [oneCell_int, oneCell_str]) (by rw [ll]; simp; omega) ?_ (fun q => by cases q)
 intro v' b' y hb0 hbv hvb ow
 have kp : Keep (fun c => KH.ob (.slice av l.length cv) = some c) hS ((hS.set b25 ⟨x.cells, 4⟩).set b' y) := (e25.keep _).set (hbv.imp id (fun q => e25.none q)) y
 have E2 : Ext h0 ((hS.set b25 ⟨x.cells, 4⟩).set b' y) := (E0.trans e25).set' hb0 y
 have G4 := kp.2.1 b4 _ z4 g4
 have G5 := kp.2.1 b5 _ z5 g5
 have G7 := kp.2.1 b7 _ z7 g7
 have G8 := kp.2.1 b8 _ z8 g8
 have sb := without_keep kp
 have hb82 : ((hS.set b25 ⟨x.cells, 4⟩).set b' y).base ≤ b8 := by rw [kp.1]; exact hb8
 have sl2 : Sl ((hS.set b25 ⟨x.cells, 4⟩).set b' y) v' 4 ((l ++ [x]).map UStep.cells) := by rw [List.map_append]; exact ow.sl
 generalize hH : (hS.set b25 ⟨x.cells, 4⟩).set b' y = h2 at kp E2 G4 G5 G7 G8 sb hb82 sl2 ⊢
 clear ow e25 hH hbv hvb hb25 n25
 refine ⟨sb, ?_⟩
 simp -implicitDefEqProofs only [go_sem, o4, o5, c4, c5, o6, o7, o8, o9, lm, ll, q4, q5, q7, q8]
 refine (stepsCode_pc sl2 (by simp; omega)).use ?_
 rw [hc]
 refine ⟨sb, ?_⟩
 skip
 have L4 := ldc_get G4
 have L5 := ldc_get G5
 have L7 := ldc_get G7
 skip
 have e1 : ∀ {h3 : H}, Ext h2 h3 → Sl h3 (.slice am s.mine.length cm) 1 (ints s.mine) := fun e => sm.ext (E2.trans e)
 obtain ⟨_, _, bm, om, em, hcm, r2, r3⟩ := sm.ext E2
 rw [lm] at em r2
 simp only [Value.slice.injEq, true_and] at em
 obtain ⟨rfl, rfl⟩ := em
 have e2 := r3 (s.stash.toNat + l.length) [i64 (s.mine.getD (s.stash.toNat + l.length) 0)] (by rw [List.getElem?_map, List.getElem?_eq_getElem hsn, List.getD_eq_getElem?_getD, List.getElem?_eq_getElem hsn]; rfl)
 have hx23 := hL.2.2.2 (s.mine.getD (s.stash.toNat + l.length) 0) (by rw [List.getD_eq_getElem?_getD, List.getElem?_eq_getElem hsn]; exact List.getElem_mem hsn)
 have w1 : IntKind.i64.wrap (s.stash + (l.length : Int)) = ((s.stash.toNat + l.length : Nat) : Int) := by rw [wrap_i64 (by omega) (by omega)]; omega
 simp -implicitDefEqProofs only [go_sem, o4, o5, c4, c5, o6, o7, o8, o9, lm, ll, q4, q5, q7, q8, L4, L5, L7]
 refine dopX_of _ (Sub.refl _) ?_
 simp -implicitDefEqProofs only [go_sem, w1, r2, e2, Int.ofNat_lt, hsn, Int.natCast_nonneg, o4, o5, c4, c5, o6, o7, o8, o9, lm, ll, q4, q5, q7, q8, L4, L5, L7]
 refine (areaAt_pc (hv0.ext E2) hf.1 (by omega)).use ?_
 refine ⟨Sub.refl _, ?_⟩
 simp -implicitDefEqProofs only [go_sem, o4, o5, c4, c5, o6, o7, o8, o9, lm, ll, q4, q5, q7, q8, L4, L5, L7]
 refine (implRecordB_pc _ _ x (by constructor <;> omega) hx (by omega)).use ?_
 refine ⟨Sub.refl _, ?_⟩
 simp -implicitDefEqProofs only [go_sem, o4, o5, c4, c5, o6, o7, o8, o9, lm, ll, q4, q5, q7, q8, L4, L5, L7]
 intro b48 hb48 n48
 unfold stepActs
 obtain ⟨P, hP⟩ : ∃ P, P = 3 + m.blocks + s.mine.getD (s.stash.toNat + l.length) 0 := ⟨_, rfl⟩
 obtain ⟨R, hR⟩ : ∃ R, R = recordB (l.length : Int) x := ⟨_, rfl⟩
 rw [← hP, ← hR]
 have e48 := (Ext.refl h2).set n48 ⟨[.bool false, i64 P, str R], 3⟩
 have ow := own_acts (h0 := h2) (h := h2) (b := b48) [⟨false, P, R⟩] n48 hb48
 have hz48 : (h2.set b48 ⟨[.bool false, i64 P, str R], 3⟩).get b8 = some ⟨[nils, str [], nils, i64 0], 4⟩ := e48.2.g b8 _ G8
 have hb48' : (h2.set b48 ⟨[.bool false, i64 P, str R], 3⟩).base ≤ b8 := hb82
 have J7 := ldc_get (e48.2.g b7 _ G7)
 refine ⟨e48.2, ?_⟩
 change Own h2 (h2.set b48 ⟨[.bool false, i64 P, str R], 3⟩) (sl b48 0 1 1) 3 [[.bool false, i64 P, str R]] at ow
 generalize hH2 : h2.set b48 ⟨[.bool false, i64 P, str R], 3⟩ = h3 at e48 ow hz48 hb48' J7 ⊢
 by_cases hk : x.kind = 5
 ·rw [if_pos hk]
  simp -implicitDefEqProofs only [go_sem, J7, eq_true hk, o4, o5, c4, c5, o6, o7, o8, o9, lm, ll, q4, q5, q7, q8, L4, L5, L7]
  intro b54 hb54 n54
  simp -implicitDefEqProofs only [go_sem, o4, o5, c4, c5, o6, o7, o8, o9, lm, ll, q4, q5, q7, q8, L4, L5, L7]
  refine appW_own (new := [[.bool true, i64 0, str []]]) (e48.set n54 _) (ow.ext ((Ext.refl _).set n54 _)) (by simp -implicitDefEqProofs only [go_sem, o4, o5, c4, c5, o6, o7, o8, o9, lm, ll, q4, q5, q7, q8, L4, L5, L7]; rfl) (by intro r hr; simp at hr; subst hr; rfl) rfl (by simp) ?_
  intro v' h4 he4 ho4 _
  have g84 := he4.2.g b8 _ G8
  have hb84 : h4.base ≤ b8 := by rw [he4.1]; exact hb82
  have w2 := ho4.sl.vcl
  have w3 := ho4.sl.one
  simp -implicitDefEqProofs only [go_sem, stc_get g84, hb84, w2, w3, o4, o5, c4, c5, o6, o7, o8, o9, lm, ll, q4, q5, q7, q8, L4, L5, L7]
  exact ⟨(E2.trans he4).set' n80 _, v', rfl, (ho4.set0 (b := b8) (by rw [G8]; simp) _).back E2⟩
 ·rw [if_neg hk]
  simp -implicitDefEqProofs only [go_sem, J7, eq_false hk, stc_get hz48, hb48', o4, o5, c4, c5, o6, o7, o8, o9, lm, ll, q4, q5, q7, q8, L4, L5, L7]
  exact ⟨(E2.trans e48).set' n80 _, _, rfl, (ow.set0 (b := b8) (by rw [G8]; simp) _).back E2⟩
end Go.Proofs.YthjbhdmjfakfaaaGreatDoor
namespace Go.KH
open Go.RowKit

section
variable {P : Program}
theorem Rel.upto {w0 w w' : World} {h : H} (r : Rel w0 h w) (b : Below w.heap.size w w') : Rel w0 h w' := by
 have hs : h.base ≤ w.heap.size := Nat.le_trans r.baseLe r.below.size
 refine ⟨r.below.trans (b.mono hs), r.baseLe, fun c ob hc => ?_, fun c l hc => ?_, r.own⟩
 ·obtain ⟨cs, T, fz, h1, h2⟩ := r.obs c ob hc
  exact ⟨cs, T, fz, by rw [b.block c (r.lt hc)]; exact h1, h2⟩
 ·obtain ⟨es, clock, h1, h2⟩ := r.maps c l hc
  exact ⟨es, clock, by rw [b.block c (r.ltm hc)]; exact h1, h2⟩
theorem PC_calls {n : FuncId} {fn : Func} {args : List Value} {h : H} {v : Value} (h1 : P.funcs[n]? = some fn) (h2 : (fn.name == "runtime.NumGoroutine") = false) (h3 : fn.body.isNone = false)
  (c : ∀ w0 w, Rel w0 h w → Calls P n args.toArray w fun e w' => e = .returned v ∧ Below w.heap.size w w') : PC P n args h v :=
 ⟨⟨fn, h1, h2, h3⟩, fun w0 w r => (c w0 w r).mono fun e w' ⟨he, hb⟩ => ⟨v, h, he, rfl, r.upto hb, rfl, rfl⟩⟩
theorem below_same {w w' : World} (h : w' = w) : Below w.heap.size w w' := h ▸ Below.refl _ _
theorem Sl.texts {h : H} {v : Value} {l : List (List UInt8)} (s : Sl h v 1 (l.map fun x => [str x])) : (∃ a c, v = .slice a 0 c ∧ l = []) ∨
  ∃ b o c, v = .slice (some ⟨b, o, .none⟩) l.length c ∧ l.length ≤ c ∧ 0 < l.length ∧ ∀ {w0 w : World}, Rel w0 h w → b < w.heap.size ∧ ∀ (j : Nat) x, (l.map fun x => (⟨x.toArray⟩ : ByteArray))[j]? = some x → w.cell? ⟨b, o + j, .none⟩ = some (.string x) := by
 obtain ⟨a, c, b, o, rfl, hc, hr, hl⟩ := s
 simp only [List.length_map] at hc hr ⊢
 cases hL : l with
 | nil => exact .inl ⟨a, c, rfl, rfl⟩
 | cons x0 xs =>
  rw [← hL]
  have hpos : 0 < l.length := by rw [hL]; simp
  obtain ⟨n, hn⟩ : ∃ n, l.length = n + 1 := ⟨l.length - 1, by omega⟩
  cases a with
  | none =>
   rw [hn] at hr
   simp [asR] at hr
  | some a =>
   rw [hn] at hr
   have := asR_blk hr
   subst this
   refine .inr ⟨b, o, c, rfl, hc, hpos, fun {w0 w} r => ⟨?_, fun j x hj => ?_⟩⟩
   ·have h0 := hl 0 [str l[0]] (by simp [hpos])
    unfold ldc at h0
    cases hg : h.get b with
    | none => rw [hg] at h0; simp at h0
    | some ob => exact r.lt hg
   ·simp only [List.getElem?_map, Option.map_eq_some_iff] at hj
    obtain ⟨y, hy, rfl⟩ := hj
    have h0 := hl j [str y] (by simp [hy])
    rw [Nat.mul_one] at h0
    have := (cell_of_has r.has h0).2 0 (str y) rfl
    simpa [str] using this
end
end Go.KH
namespace Go.Proofs
open Go.Shelf
def Tryz.lays156_ren : Go.Shelf.Ren := ⟨fun | 156 => 88 | 165 => 175 | 166 => 176 | 169 => 177 | 240 => 227 | 241 => 228 | 276 => 238 | 277 => 239 | n => n, fun | 31 => 23 | 9 => 9 | 3 => 3 | 4 => 4 | 0 => 0 | 20 => 20 | 72 => 205 | 76 => 209 | 70 => 203 | 37 => 22 | 75 => 208 | 127 => 256 | 164 => 265 | 5 => 5 | 80 => 99 | n => n, fun | n => n⟩
theorem Tryz.lays156 : Go.Proofs.Lays.n156 Tryz.prog Tryz.lays156_ren := {
 mixed := by kernel_rfl
 f156 := Tryz.func88.trans (congrArg some (by kernel_rfl))
 f165 := Tryz.func175.trans (congrArg some (by kernel_rfl))
 f166 := Tryz.func176.trans (congrArg some (by kernel_rfl))
 f169 := Tryz.func177.trans (congrArg some (by kernel_rfl))
 f240 := Tryz.func227.trans (congrArg some (by kernel_rfl))
 f241 := Tryz.func228.trans (congrArg some (by kernel_rfl))
 f276 := Tryz.func238.trans (congrArg some (by kernel_rfl))
 f277 := Tryz.func239.trans (congrArg some (by kernel_rfl))
 t0 := Tryz.underlying0
 a0 := Tryz.isAgg0
 z0 := Tryz.sizeOf0
 v0 := Tryz.zeroValue0
 t3 := Tryz.underlying3
 a3 := Tryz.isAgg3
 z3 := Tryz.sizeOf3
 v3 := Tryz.zeroValue3
 t4 := Tryz.underlying4
 a4 := Tryz.isAgg4
 z4 := Tryz.sizeOf4
 v4 := Tryz.zeroValue4
 t9 := Tryz.underlying9
 a9 := Tryz.isAgg9
 z9 := Tryz.sizeOf9
 v9 := Tryz.zeroValue9
 t20 := Tryz.underlying20
 a20 := Tryz.isAgg20
 z20 := Tryz.sizeOf20
 v20 := Tryz.zeroValue20
 t31 := Tryz.underlying23
 a31 := Tryz.isAgg23
 z31 := Tryz.sizeOf23
 v31 := Tryz.zeroValue23
 t37 := Tryz.underlying22
 a37 := Tryz.isAgg22
 z37 := Tryz.sizeOf22
 v37 := Tryz.zeroValue22
 t70 := Tryz.underlying203
 a70 := Tryz.isAgg203
 z70 := Tryz.sizeOf203
 v70 := Tryz.zeroValue203
 t72 := Tryz.underlying205
 a72 := Tryz.isAgg205
 z72 := Tryz.sizeOf205
 v72 := Tryz.zeroValue205
 t75 := Tryz.underlying208
 a75 := Tryz.isAgg208
 z75 := Tryz.sizeOf208
 v75 := Tryz.zeroValue208
 t76 := Tryz.underlying209
 a76 := Tryz.isAgg209
 z76 := Tryz.sizeOf209
 v76 := Tryz.zeroValue209
 t127 := Tryz.underlying256
 a127 := Tryz.isAgg256
 z127 := Tryz.sizeOf256
 v127 := Tryz.zeroValue256
 t164 := Tryz.underlying265
 a164 := Tryz.isAgg265
 z164 := Tryz.sizeOf265
 v164 := Tryz.zeroValue265 }
theorem Tryz.Builder_Extra_156 : Builder.Extra Tryz.prog Tryz.lays156_ren := {
 sizeBuilder := by kernel_rfl
 liesBuilder := by kernel_rfl
 t5 := Tryz.underlying5
 a5 := Tryz.isAgg5
 z5 := Tryz.sizeOf5
 v5 := Tryz.zeroValue5
 infoByte := by kernel_rfl
 cellsByte := by kernel_rfl
 sizeByte := by kernel_rfl
 neB5 := by decide }
open Go.RowKit in
theorem Tryz.strings_Join_none (a : Option Addr) (c : Nat) (sep : ByteArray) (w : World) :
  Calls Tryz.prog 88 #[.slice a 0 c, .string sep] w fun e w' => e = .returned (.string ⟨#[]⟩) ∧ w' = w := Any.strings_Join_none Tryz.lays156 Tryz.Builder_Extra_156 a c sep w
open Go.RowKit in
theorem Tryz.strings_Join (bk o c : Nat) (xs : List ByteArray) (sep : ByteArray) (w : World) (hcells : ∀ (j : Nat) x, xs[j]? = some x → w.cell? ⟨bk, o + j, none⟩ = some (.string x)) (hbk : bk < w.heap.size) (hN : xs.length ≤ 140737488355328) (hcap : xs.length ≤ c) (hlen : (Lib.join (xs.map (·.data.toList)) sep.data.toList).length ≤ 140737488355328) :
  Calls Tryz.prog 88 #[.slice (some ⟨bk, o, none⟩) xs.length c, .string sep] w fun e w' => e = .returned (.string ⟨(Lib.join (xs.map (·.data.toList)) sep.data.toList).toArray⟩) ∧ Below w.heap.size w w' := Any.strings_Join Tryz.lays156 Tryz.Builder_Extra_156 bk o c xs sep w hcells hbk hN hcap hlen
def Tryz.lays105_ren : Go.Shelf.Ren := ⟨fun | 105 => 172 | 212 => 222 | 99 => 223 | 165 => 175 | 166 => 176 | 170 => 224 | 169 => 177 | 263 => 234 | 264 => 235 | 206 => 236 | 240 => 227 | 241 => 228 | 276 => 238 | 277 => 239 | n => n, fun | 9 => 9 | 3 => 3 | 4 => 4 | 20 => 20 | 0 => 0 | 46 => 139 | 109 => 249 | 5 => 5 | 72 => 205 | 76 => 209 | 51 => 197 | 146 => 261 | 53 => 133 | 148 => 263 | 70 => 203 | 37 => 22 | 75 => 208 | 127 => 256 | 164 => 265 | 80 => 99 | n => n, fun | n => n⟩
theorem Tryz.lays105 : Go.Proofs.Lays.n105 Tryz.prog Tryz.lays105_ren := {
 mixed := by kernel_rfl
 f99 := Tryz.func223.trans (congrArg some (by kernel_rfl))
 f105 := Tryz.func172.trans (congrArg some (by kernel_rfl))
 f165 := Tryz.func175.trans (congrArg some (by kernel_rfl))
 f166 := Tryz.func176.trans (congrArg some (by kernel_rfl))
 f169 := Tryz.func177.trans (congrArg some (by kernel_rfl))
 f170 := Tryz.func224.trans (congrArg some (by kernel_rfl))
 f206 := Tryz.func236.trans (congrArg some (by kernel_rfl))
 f212 := Tryz.func222.trans (congrArg some (by kernel_rfl))
 f240 := Tryz.func227.trans (congrArg some (by kernel_rfl))
 f241 := Tryz.func228.trans (congrArg some (by kernel_rfl))
 f263 := Tryz.func234.trans (congrArg some (by kernel_rfl))
 f264 := Tryz.func235.trans (congrArg some (by kernel_rfl))
 f276 := Tryz.func238.trans (congrArg some (by kernel_rfl))
 f277 := Tryz.func239.trans (congrArg some (by kernel_rfl))
 t0 := Tryz.underlying0
 a0 := Tryz.isAgg0
 z0 := Tryz.sizeOf0
 v0 := Tryz.zeroValue0
 t3 := Tryz.underlying3
 a3 := Tryz.isAgg3
 z3 := Tryz.sizeOf3
 v3 := Tryz.zeroValue3
 t4 := Tryz.underlying4
 a4 := Tryz.isAgg4
 z4 := Tryz.sizeOf4
 v4 := Tryz.zeroValue4
 t5 := Tryz.underlying5
 a5 := Tryz.isAgg5
 z5 := Tryz.sizeOf5
 v5 := Tryz.zeroValue5
 t9 := Tryz.underlying9
 a9 := Tryz.isAgg9
 z9 := Tryz.sizeOf9
 v9 := Tryz.zeroValue9
 t20 := Tryz.underlying20
 a20 := Tryz.isAgg20
 z20 := Tryz.sizeOf20
 v20 := Tryz.zeroValue20
 t37 := Tryz.underlying22
 a37 := Tryz.isAgg22
 z37 := Tryz.sizeOf22
 v37 := Tryz.zeroValue22
 t46 := Tryz.underlying139
 a46 := Tryz.isAgg139
 z46 := Tryz.sizeOf139
 v46 := Tryz.zeroValue139
 t51 := Tryz.underlying197
 a51 := Tryz.isAgg197
 z51 := Tryz.sizeOf197
 v51 := Tryz.zeroValue197
 t53 := Tryz.underlying133
 a53 := Tryz.isAgg133
 z53 := Tryz.sizeOf133
 v53 := Tryz.zeroValue133
 t70 := Tryz.underlying203
 a70 := Tryz.isAgg203
 z70 := Tryz.sizeOf203
 v70 := Tryz.zeroValue203
 t72 := Tryz.underlying205
 a72 := Tryz.isAgg205
 z72 := Tryz.sizeOf205
 v72 := Tryz.zeroValue205
 t75 := Tryz.underlying208
 a75 := Tryz.isAgg208
 z75 := Tryz.sizeOf208
 v75 := Tryz.zeroValue208
 t76 := Tryz.underlying209
 a76 := Tryz.isAgg209
 z76 := Tryz.sizeOf209
 v76 := Tryz.zeroValue209
 t109 := Tryz.underlying249
 a109 := Tryz.isAgg249
 z109 := Tryz.sizeOf249
 v109 := Tryz.zeroValue249
 t127 := Tryz.underlying256
 a127 := Tryz.isAgg256
 z127 := Tryz.sizeOf256
 v127 := Tryz.zeroValue256
 t146 := Tryz.underlying261
 a146 := Tryz.isAgg261
 z146 := Tryz.sizeOf261
 v146 := Tryz.zeroValue261
 t148 := Tryz.underlying263
 a148 := Tryz.isAgg263
 z148 := Tryz.sizeOf263
 v148 := Tryz.zeroValue263
 t164 := Tryz.underlying265
 a164 := Tryz.isAgg265
 z164 := Tryz.sizeOf265
 v164 := Tryz.zeroValue265 }
theorem Tryz.Builder_Extra_105 : Builder.Extra Tryz.prog Tryz.lays105_ren := {
 sizeBuilder := by kernel_rfl
 liesBuilder := by kernel_rfl
 t5 := Tryz.underlying5
 a5 := Tryz.isAgg5
 z5 := Tryz.sizeOf5
 v5 := Tryz.zeroValue5
 infoByte := by kernel_rfl
 cellsByte := by kernel_rfl
 sizeByte := by kernel_rfl
 neB5 := by decide }
open Go.RowKit Go.Lib in
theorem Tryz.strings_Repeat (s : ByteArray) (c : Nat) (w : World) (hc : c ≤ 9223372036854775807) (hlen : s.size * c ≤ 140737488355328) :
  Calls Tryz.prog 172 #[.string s, .int .i64 c] w fun e w' => e = .returned (.string ⟨(Lib.repeatL s.data.toList c).toArray⟩) ∧ Below w.heap.size w w' := Any.strings_Repeat Tryz.lays105 Tryz.Builder_Extra_105 s c w hc hlen
end Go.Proofs