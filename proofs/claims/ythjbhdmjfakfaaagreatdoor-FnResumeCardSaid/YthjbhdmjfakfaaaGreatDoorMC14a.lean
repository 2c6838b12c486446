/- A helper of this seat's claims (contracts of the functions): what it shows is shown for every input that its statements name, on no other condition. -/
import Derived.Test.YthjbhdmjfakfaaaGreatDoorMC06
import Derived.Test.YthjbhdmjfakfaaaGreatDoorCR
import Derived.Test.YthjbhdmjfakfaaaGreatDoorMC14x
set_option linter.unusedVariables false
set_option linter.unusedSimpArgs false
set_option maxRecDepth 100000
namespace Go.Proofs.YthjbhdmjfakfaaaGreatDoor
open Go.KH

def cmdOk (c : UCmd) : Prop := (1 ≤ c.kind ∧ c.kind ≤ 11) ∧ (if c.kind = 1 then 1 ≤ c.a ∧ c.a ≤ 20 else if c.kind = 9 then 1 ≤ c.a ∧ c.a ≤ 24 else if c.kind = 7 then 0 ≤ c.a ∧ c.a ≤ 1000000 else c.a = 0) ∧
 (if c.kind = 1 then 0 ≤ c.b ∧ c.b ≤ 4 else c.b = 0) ∧ (if c.kind = 1 then c.digest.length = 32 else c.digest = []) ∧ (if c.kind = 2 then stepOk c.step 8 else c.step.kind = 0 ∧ c.step.dst = 0 ∧ c.step.src = 0 ∧ c.step.data = [])
instance (c : UCmd) : Decidable (cmdOk c) := by unfold cmdOk; infer_instance
def b_impl_isCmd : C := (jo [⟨(some 1), none, .box (.t 0)⟩, q 2 (.mv (.c (.bool false)))]
 (.seq (.dops true (.tk (jf 7 1 1) (.tk (jl 8 7) (.tk (jk 9 .eql 8 0) (.tk (jf 10 2 1) (.tk (jl 11 10) (.tk (jk 12 .eql 11 0) (.tk (jf 13 3 1) (.tk (jl 14 13) (.tk (q 15 (.bin .eql (.t 14) (.c (str [])))) (.tk (jf 16 4 1) (.tk (jd 17 4 16) (.tk (q 18 (.build [(i64 0), (i64 0), (i64 0), (str [])] [])) (.tk (q 19 (.eqa false [.i, .i, .i, .s] (.t 17) (.t 18))) (.tk (jm 3 9) (.tk (jm 4 12) (.tk (jm 5 15) (.tk (jm 6 19) .nil))))))))))))))))))
 (.seq (jo [jf 20 0 1, jl 21 20]
 (.block 0 (jo [jk 23 .eql 21 1, jm 22 23]
 (.cond (.t 22) (.dops true (.tk (jf 24 1 1) (.tk (jl 25 24) (.tk (jf 27 2 1) (.tk (jl 28 27) (.tk (jf 30 3 1) (.tk (jl 31 30) (.tk (q 32 (.slen (.t 31))) (.tk (jk 33 .eql 32 32) (.sq (jc 26 140 [(.t 25), (.c (i64 1)), (.c (i64 20))]) (.sq (jc 29 140 [(.t 28), (.c (i64 0)), (.c (i64 4))]) (.tk (jm 3 26) (.tk (jm 4 29) (.tk (jm 5 33) .nil)))))))))))))) (jo [jk 35 .eql 21 2, jm 34 35]
 (.cond (.t 34) (.ops [jf 36 4 1, jd 37 4 36, jc 38 122 [(.t 37), (.c (i64 8))], jm 6 38]) (jo [jk 40 .eql 21 9, jm 39 40]
 (.cond (.t 39) (.ops [jf 41 1 1, jl 42 41, jc 43 140 [(.t 42), (.c (i64 1)), (.c (i64 24))], jm 3 43]) (jo [jk 45 .eql 21 7, jm 44 45]
 (.cond (.t 44) (.ops [jf 46 1 1, jl 47 46, jc 48 141 [(.t 47)], jm 3 48]) .skip))))))))))
 (jo [jf 49 0 1, jl 50 49, jc 51 140 [(.t 50), (.c (i64 1)), (.c (i64 11))], jm 52 51, qg 53 52 true (.mv (.t 3)), q 54 (.pick (.t 52) (.t 53) (.c (.bool false))), jm 55 54, qg 56 55 true (.mv (.t 4)), q 57 (.pick (.t 55) (.t 56) (.c (.bool false))), jm 58 57, qg 59 58 true (.mv (.t 5)), q 60 (.pick (.t 58) (.t 59) (.c (.bool false))), jm 61 60, qg 62 61 true (.mv (.t 6)), q 63 (.pick (.t 61) (.t 62) (.c (.bool false))), jm 2 63]
 .ret))))
theorem w_impl_isCmd : Wk Tryz.prog 72 64 [.tmp 2] b_impl_isCmd := Wk.of mixedOrders Tryz.func72 (by kernel_rfl) (by kernel_rfl)

theorem isCmd_pc (h : H) (c : UCmd) : PC Tryz.prog 72 [.agg c.cells.toArray] h (.bool (decide (cmdOk c))) := by
 obtain ⟨kind, a, b, digest, ⟨k, d, s, data⟩⟩ := c
 refine PC_of ?_
 refine w_impl_isCmd (by simp) ?_
 unfold b_impl_isCmd
 simp -implicitDefEqProofs only [go_sem]
 intro b1 hb_b1 n_b1
 simp -implicitDefEqProofs only [go_sem, hb_b1]
 by_cases h1 : kind = 1
 ·subst h1
  simp -implicitDefEqProofs only [go_sem, hb_b1]
  repeat' first | (refine Br.of (fun hc => ?_) (fun hc => ?_) <;> simp -implicitDefEqProofs only [go_sem, *]) | (refine PC.use (within_pc _ _ _ _) ?_; simp -implicitDefEqProofs only [go_sem, *])
  all_goals first | exact ((Ext.refl _).set' n_b1 _) | exact ⟨((Ext.refl _).set' n_b1 _), by first | (simp_all [cmdOk]; done) | (simp_all [cmdOk]; intros; omega)⟩
 by_cases h2 : kind = 2
 ·subst h2
  simp -implicitDefEqProofs only [go_sem, hb_b1]
  refine (isStep_pc _ ⟨k, d, s, data⟩ (by unfold in64; omega) (by omega)).use ?_
  simp -implicitDefEqProofs only [go_sem, hb_b1]
  repeat' first | (refine Br.of (fun hc => ?_) (fun hc => ?_) <;> simp -implicitDefEqProofs only [go_sem, *]) | (refine PC.use (within_pc _ _ _ _) ?_; simp -implicitDefEqProofs only [go_sem, *])
  all_goals first | exact ((Ext.refl _).set' n_b1 _) | exact ⟨((Ext.refl _).set' n_b1 _), by first | (simp_all [cmdOk]; done) | (simp_all [cmdOk]; intros; omega)⟩
 by_cases h9 : kind = 9
 ·subst h9
  simp -implicitDefEqProofs only [go_sem, hb_b1]
  repeat' first | (refine Br.of (fun hc => ?_) (fun hc => ?_) <;> simp -implicitDefEqProofs only [go_sem, *]) | (refine PC.use (within_pc _ _ _ _) ?_; simp -implicitDefEqProofs only [go_sem, *])
  all_goals first | exact ((Ext.refl _).set' n_b1 _) | exact ⟨((Ext.refl _).set' n_b1 _), by first | (simp_all [cmdOk]; done) | (simp_all [cmdOk]; intros; omega)⟩
 by_cases h7 : kind = 7
 ·subst h7
  simp -implicitDefEqProofs only [go_sem, hb_b1]
  refine (isTime_pc _ _).use ?_
  simp -implicitDefEqProofs only [go_sem, hb_b1]
  repeat' first | (refine Br.of (fun hc => ?_) (fun hc => ?_) <;> simp -implicitDefEqProofs only [go_sem, *]) | (refine PC.use (within_pc _ _ _ _) ?_; simp -implicitDefEqProofs only [go_sem, *])
  all_goals first | exact ((Ext.refl _).set' n_b1 _) | exact ⟨((Ext.refl _).set' n_b1 _), by first | (simp_all [cmdOk]; done) | (simp_all [cmdOk]; intros; omega)⟩
 ·simp -implicitDefEqProofs only [go_sem, h1, h2, h9, h7, hb_b1]
  repeat' first | (refine Br.of (fun hc => ?_) (fun hc => ?_) <;> simp -implicitDefEqProofs only [go_sem, *]) | (refine PC.use (within_pc _ _ _ _) ?_; simp -implicitDefEqProofs only [go_sem, *])
  all_goals first | exact ((Ext.refl _).set' n_b1 _) | exact ⟨((Ext.refl _).set' n_b1 _), by first | (simp_all [cmdOk]; done) | (simp_all [cmdOk]; intros; omega)⟩
end Go.Proofs.YthjbhdmjfakfaaaGreatDoor
namespace Go.Proofs.YthjbhdmjfakfaaaGreatDoor
open Go.KH

def beginS (s : UState) (c : UCmd) (L : List Int) : UState := ⟨2, 0, c.a, c.b, 0, c.digest, s.held, L⟩
def wipeAll (m : UMach) (L : List Int) : List UAct := L.map (wipe m) ++ [⟨true, 0, []⟩]
def beginOut (m : UMach) (s : UState) (c : UCmd) (x : Nat) : List UAct × Int :=
 if x + (c.a + c.b).toNat ≤ 24 then (wipeAll m (runI x (c.a + c.b).toNat) ++ saveActs m (beginS s c (runI x (c.a + c.b).toNat)), 0) else ([], 11)
theorem runI_mem {x n : Nat} {y : Int} (h : y ∈ runI x n) : (x : Int) ≤ y ∧ y < ((x + n : Nat) : Int) := by
 unfold runI at h
 obtain ⟨j, hj, rfl⟩ := List.mem_map.1 h
 have := List.mem_range.1 hj
 omega
theorem beginS_ok {s : UState} {c : UCmd} {x : Nat} (hok : stateOk s) (hh : s.held = runI 0 x) (ha : 1 ≤ c.a ∧ c.a ≤ 20) (hb : 0 ≤ c.b ∧ c.b ≤ 4) (hd : c.digest.length = 32) (h24 : x + (c.a + c.b).toNat ≤ 24) : stateOk (beginS s c (runI x (c.a + c.b).toNat)) := by
 refine ⟨by simp [beginS], hok.2.1, runI_ok h24, fun y hy hy2 => ?_, ?_⟩
 ·have h1 := runI_mem hy
  simp only [beginS] at hy2
  rw [hh] at hy2
  have h2 := runI_mem hy2
  omega
 ·rw [if_neg (by simp [beginS])]
  exact ⟨ha, hb, by show ((runI x (c.a + c.b).toNat).length : Int) = _; rw [runI_len]; simp only [beginS]; omega, hd, by simp [beginS], .inl rfl, by simp [beginS], .inl rfl⟩
def b_impl_Machine_begin : C := (jo [⟨(some 3), none, .box (.t 0)⟩, ⟨(some 4), none, .box (.t 1)⟩, ⟨(some 5), none, .box (.t 2)⟩, ⟨(some 6), none, .alloc [nils, (str []), nils, (i64 0)]⟩]
 (.seq (jo [jf 12 0 4, jl 13 12, jk 14 .neq 13 1]
 (.cond (.t 14) (jo [q 15 (.build [nils, (str []), nils, (i64 0)] [(3, 1, (.c (i64 10)))]), js 4 6 15]
 .ret) .skip))
 (jo [jf 17 6 4, jl 18 17, jf 19 1 5, jl 20 19, jf 21 2 5, jl 22 21, jb 23 .add 20 22, jc 24 151 [(.t 18), (.c nils), (.t 23)], jm 16 24, q 25 (.ext 0 (.t 16)), q 26 (.ext 1 (.t 16)), jm 7 25, jm 8 26]
 (.seq (jo [jm 27 8, q 28 (.un .not (.t 27))]
 (.cond (.t 28) (jo [q 29 (.build [nils, (str []), nils, (i64 0)] [(3, 1, (.c (i64 11)))]), js 4 6 29]
 .ret) .skip))
 (jo [q 9 (.mv (.c nils))]
 (.seq (jo [jm 30 7, q 31 (.len (.t 30)), q 32 (.mv (.c (i64 0)))]
 (.block 0 (.loop (jo [jb 33 .lss 32 31]
 (.seq (.cond (.t 33) .skip (.exit 0))
 (.seq (.block 1 (jo [q 34 (.idx 1 (.t 30) (.t 32)), jl 35 34, jm 11 35]
 (.ops [jm 36 9, jd 37 3 3, jm 38 11, jc 39 164 [(.t 37), (.t 38)], q 40 (.build [(.bool false), (i64 0), (str [])] [(1, 1, (.t 39))]), ⟨(some 41), none, .bsl 1 [(.bool false), (i64 0), (str [])] [(0, 3, (.t 40))]⟩, ⟨(some 42), none, .app 3 32 (.t 36) (.t 41)⟩, jm 9 42])))
 (.ops [jk 43 .add 32 1, jm 32 43])))))))
 (jo [jm 44 9, q 45 (.build [(.bool false), (i64 0), (str [])] [(0, 1, (.c (.bool true)))]), ⟨(some 46), none, .bsl 1 [(.bool false), (i64 0), (str [])] [(0, 3, (.t 45))]⟩, ⟨(some 47), none, .app 3 32 (.t 44) (.t 46)⟩, jm 9 47]
 (jo [jm 48 9, jd 49 3 3, jf 50 1 5, jl 51 50, jf 52 2 5, jl 53 52, jf 54 3 5, jl 55 54, jf 56 6 4, jl 57 56, jm 58 7, q 59 (.build [(i64 0), (i64 0), (i64 0), (i64 0), (i64 0), (str []), nils, nils] [(0, 1, (.c (i64 2))), (2, 1, (.t 51)), (3, 1, (.t 53)), (5, 1, (.t 55)), (6, 1, (.t 57)), (7, 1, (.t 58))]), jc 60 146 [(.t 49), (.t 59)], ⟨(some 61), none, .app 3 32 (.t 48) (.t 60)⟩, q 62 (.build [nils, (str []), nils, (i64 0)] [(0, 1, (.t 61))]), js 4 6 62]
 .ret))))))))
theorem w_impl_Machine_begin : Wk Tryz.prog 143 63 [.cell 6 true 4] b_impl_Machine_begin := Wk.of mixedOrders Tryz.func143 (by kernel_rfl) (by kernel_rfl)

set_option maxHeartbeats 1600000 in
theorem begin_ac {h : H} {cs c2 : List Value} {m : UMach} {s : UState} {c : UCmd} {x : Nat} (hv : RepR h (spMach m) cs) (hf : machFit m) (hst : StR h c2 s) (hok : stateOk s) (p1 : s.phase = 1) (hh : s.held = runI 0 x) (hx : x ≤ 24)
  (ha : 1 ≤ c.a ∧ c.a ≤ 20) (hb : 0 ≤ c.b ∧ c.b ≤ 4) (hd : c.digest.length = 32) : AC Tryz.prog 143 [.agg cs.toArray, .agg c2.toArray, .agg c.cells.toArray] h fun r h' => Ext h h' ∧ ∃ va, r = .agg #[va, str [], nils, i64 (beginOut m s c x).2] ∧ Own h h' va 3 ((beginOut m s c x).1.map UAct.cells) := by
 have hv0 := hv
 have hst0 := hst
 have hbl := hf.1
 obtain ⟨vs, vd, rfl, fr⟩ := mach_r.1 hv
 have o4 := fr.1.one
 have o5 := fr.2.one
 have c4 : vcl vs = [vs] := fr.1.vcl
 have c5 : vcl vd = [vd] := fr.2.vcl
 obtain ⟨uh, um, rfl, sh, sm⟩ := hst
 have o6 := sh.vcl
 have o7 := sm.vcl
 have o8 := sh.one
 have o9 := sm.one
 obtain ⟨N, hN⟩ : ∃ N, (c.a + c.b).toNat = N := ⟨_, rfl⟩
 have wN : IntKind.i64.wrap (c.a + c.b) = (N : Int) := by rw [wrap_i64 (by omega) (by omega)]; omega
 have hS2 := beginS_ok (c := c) (x := x) hok hh ha hb hd
 unfold beginOut
 rw [hN] at hS2 ⊢
 skip
 refine w_impl_Machine_begin (by simp) ?_
 unfold b_impl_Machine_begin
 refine wpc_cut (fun f1 h1 => ∃ b3 b4 b5 b6, f1 3 = ptr b3 0 ∧ f1 4 = ptr b4 0 ∧ f1 5 = ptr b5 0 ∧ f1 6 = ptr b6 0 ∧ h1.get b3 = some ⟨[i64 m.blocks, vs, vd], 3⟩ ∧ h1.get b4 = some ⟨s.cells uh um, 8⟩ ∧ h1.get b5 = some ⟨c.cells, 8⟩ ∧ h1.get b6 = some ⟨[nils, str [], nils, i64 0], 4⟩ ∧ h1.base ≤ b6 ∧ h.get b6 = none ∧ Ext h h1) ?_ ?_
 ·simp -implicitDefEqProofs only [go_sem, o4, o5, c4, c5, o6, o7, o8, o9]
  intro b3 hb_b3 n_b3
  simp -implicitDefEqProofs only [go_sem, o4, o5, c4, c5, o6, o7, o8, o9, hb_b3]
  intro b4 hb_b4 m0_b4
  obtain ⟨z_b4_b3, y_b4_b3, n_b4⟩ := fne m0_b4
  simp only [H.set_base] at hb_b4
  simp -implicitDefEqProofs only [go_sem, o4, o5, c4, c5, o6, o7, o8, o9, hb_b3, hb_b4, z_b4_b3, y_b4_b3]
  intro b5 hb_b5 m0_b5
  obtain ⟨z_b5_b4, y_b5_b4, m1_b5⟩ := fne m0_b5
  obtain ⟨z_b5_b3, y_b5_b3, n_b5⟩ := fne m1_b5
  simp only [H.set_base] at hb_b5
  simp -implicitDefEqProofs only [go_sem, o4, o5, c4, c5, o6, o7, o8, o9, hb_b3, hb_b4, z_b4_b3, y_b4_b3, hb_b5, z_b5_b4, y_b5_b4, z_b5_b3, y_b5_b3]
  intro b6 hb_b6 m0_b6
  obtain ⟨z_b6_b5, y_b6_b5, m1_b6⟩ := fne m0_b6
  obtain ⟨z_b6_b4, y_b6_b4, m2_b6⟩ := fne m1_b6
  obtain ⟨z_b6_b3, y_b6_b3, n_b6⟩ := fne m2_b6
  simp only [H.set_base] at hb_b6
  simp -implicitDefEqProofs only [go_sem, o4, o5, c4, c5, o6, o7, o8, o9, hb_b3, hb_b4, z_b4_b3, y_b4_b3, hb_b5, z_b5_b4, y_b5_b4, z_b5_b3, y_b5_b3, hb_b6, z_b6_b5, y_b6_b5, z_b6_b4, y_b6_b4, z_b6_b3, y_b6_b3]
  exact ⟨b3, b4, b5, b6, rfl, rfl, rfl, rfl, by simp -implicitDefEqProofs only [go_sem, o4, o5, c4, c5, o6, o7, o8, o9, hb_b3, hb_b4, z_b4_b3, y_b4_b3, hb_b5, z_b5_b4, y_b5_b4, z_b5_b3, y_b5_b3, hb_b6, z_b6_b5, y_b6_b5, z_b6_b4, y_b6_b4, z_b6_b3, y_b6_b3], by simp -implicitDefEqProofs only [go_sem, o4, o5, c4, c5, o6, o7, o8, o9, hb_b3, hb_b4, z_b4_b3, y_b4_b3, hb_b5, z_b5_b4, y_b5_b4, z_b5_b3, y_b5_b3, hb_b6, z_b6_b5, y_b6_b5, z_b6_b4, y_b6_b4, z_b6_b3, y_b6_b3], by simp -implicitDefEqProofs only [go_sem, o4, o5, c4, c5, o6, o7, o8, o9, hb_b3, hb_b4, z_b4_b3, y_b4_b3, hb_b5, z_b5_b4, y_b5_b4, z_b5_b3, y_b5_b3, hb_b6, z_b6_b5, y_b6_b5, z_b6_b4, y_b6_b4, z_b6_b3, y_b6_b3], by simp -implicitDefEqProofs only [go_sem, o4, o5, c4, c5, o6, o7, o8, o9, hb_b3, hb_b4, z_b4_b3, y_b4_b3, hb_b5, z_b5_b4, y_b5_b4, z_b5_b3, y_b5_b3, hb_b6, z_b6_b5, y_b6_b5, z_b6_b4, y_b6_b4, z_b6_b3, y_b6_b3], hb_b6, n_b6, (((((Ext.refl _).set' n_b3 _).set' n_b4 _).set' n_b5 _).set' n_b6 _)⟩
 skip
 rintro f1 hS ⟨b3, b4, b5, b6, q3, q4, q5, q6, g3, g4, g5, g6, hb6, n6, E0⟩
 have sh' := sh.ext E0
 rw [hh] at sh'
 simp -implicitDefEqProofs only [go_sem, q3, q4, q5, q6, ldc_get g4, ldc_get g5, eq_true p1, wN, o4, o5, c4, c5, o6, o7, o8, o9]
 refine AC_of (reserve_ac (n := N) hx (by omega) sh' (Sl.nil _ 1)) ?_
 rintro _ h2 - ⟨e2, w, rfl, ow⟩
 by_cases h24 : x + N ≤ 24
 rotate_left
 ·rw [if_neg h24]
  have g62 := e2.2.g b6 _ g6
  have hb62 : h2.base ≤ b6 := by rw [e2.1]; exact hb6
  simp -implicitDefEqProofs only [go_sem, q3, q4, q5, q6, h24, stc_get g62, hb62, o4, o5, c4, c5, o6, o7, o8, o9]
  exact ⟨(E0.trans e2).set' n6 _, nils, rfl, Own.nil _ _ _⟩
 rw [if_pos h24]
 replace ow := ow h24
 replace hS2 := hS2 h24
 have E2 := E0.trans e2
 have G3 := e2.2.g b3 _ g3
 have G4 := e2.2.g b4 _ g4
 have G5 := e2.2.g b5 _ g5
 have G6 := e2.2.g b6 _ g6
 have hb62 : h2.base ≤ b6 := by rw [e2.1]; exact hb6
 have hlN : (ints (runI x N)).length = N := by rw [List.length_map, runI_len]
 obtain ⟨aw, cw, rfl⟩ := ow.shape
 have slw := ow.sl
 have slw0 := slw
 rw [hlN] at slw slw0
 obtain ⟨_, _, bw, ow', ew, hcw, r2, r3⟩ := slw
 rw [hlN] at ew r2
 simp only [Value.slice.injEq, true_and] at ew
 obtain ⟨rfl, rfl⟩ := ew
 have hv2 := hv0.ext E2
 simp -implicitDefEqProofs only [go_sem, q3, q4, q5, q6, decide_eq_true h24, hlN, o4, o5, c4, c5, o6, o7, o8, o9]
 refine loopW_of (fun n f h' => ∃ (k : Nat) (w : Value), n + k = N ∧ f 3 = ptr b3 0 ∧ f 4 = ptr b4 0 ∧ f 5 = ptr b5 0 ∧ f 6 = ptr b6 0 ∧ f 7 = .slice aw N cw ∧ f 30 = .slice aw N cw ∧ f 31 = i64 N ∧ f 32 = i64 k ∧ f 9 = w ∧ Ext h2 h' ∧ Own h2 h' w 3 (((runI x k).map (wipe m)).map UAct.cells)) N
  ⟨0, nils, by omega, by simp -implicitDefEqProofs only [go_sem, q3, o4, o5, c4, c5, o6, o7, o8, o9], by simp -implicitDefEqProofs only [go_sem, q4, o4, o5, c4, c5, o6, o7, o8, o9], by simp -implicitDefEqProofs only [go_sem, q5, o4, o5, c4, c5, o6, o7, o8, o9], by simp -implicitDefEqProofs only [go_sem, q6, o4, o5, c4, c5, o6, o7, o8, o9], by simp -implicitDefEqProofs only [go_sem, o4, o5, c4, c5, o6, o7, o8, o9], by simp -implicitDefEqProofs only [go_sem, o4, o5, c4, c5, o6, o7, o8, o9], by simp -implicitDefEqProofs only [go_sem, o4, o5, c4, c5, o6, o7, o8, o9], by simp -implicitDefEqProofs only [go_sem, o4, o5, c4, c5, o6, o7, o8, o9]; rfl, by simp -implicitDefEqProofs only [go_sem, o4, o5, c4, c5, o6, o7, o8, o9], Ext.refl _, Own.nil _ _ _⟩ ?_
 rintro n f h' ⟨k, w, hn, f3, f4, f5, f6, f7, f30, f31, f32, f9, he, ho⟩
 obtain ⟨av, cv, rfl⟩ := ho.shape
 have lw : (((runI x k).map (wipe m)).map UAct.cells).length = k := by simp [runI_len]
 rw [lw] at ho f9
 have K3 := he.2.g b3 _ G3
 have K4 := he.2.g b4 _ G4
 have K5 := he.2.g b5 _ G5
 have K6 := he.2.g b6 _ G6
 have hb6' : h'.base ≤ b6 := by rw [he.1]; exact hb62
 by_cases hk : k < N
 ·have e1 := ldc_sub he.2 (r3 k [i64 ((x + k : Nat) : Int)] (by rw [List.getElem?_map, runI_get hk]; rfl))
  simp -implicitDefEqProofs only [go_sem, f3, f7, f30, f31, f32, f9, r2, show (k : Int) < (N : Int) by omega, Int.ofNat_lt, hk, Int.natCast_nonneg, e1, ldc_get K3, o4, o5, c4, c5, o6, o7, o8, o9]
  refine (areaAt_pc (hv2.ext he) hf.1 (by omega)).use ?_
  simp -implicitDefEqProofs only [go_sem, f9, o4, o5, c4, c5, o6, o7, o8, o9]
  intro b8 hb8 n8
  simp -implicitDefEqProofs only [go_sem, f9, o4, o5, c4, c5, o6, o7, o8, o9]
  refine appW_own (new := [[.bool false, i64 (3 + m.blocks + ((x + k : Nat) : Int)), str []]]) (he.set n8 _) (ho.ext ((Ext.refl _).set n8 _)) (by simp -implicitDefEqProofs only [go_sem, o4, o5, c4, c5, o6, o7, o8, o9]; rfl) (by intro r hr; simp at hr; subst hr; rfl) rfl (by rw [lw]; simp; omega) ?_
  intro v' h'' he2 ho2 _
  simp -implicitDefEqProofs only [go_sem, f3, f4, f5, f6, f7, f30, f31, f32, wrap_i64 (show -(9223372036854775808 : Int) ≤ ((k : Int) + 1) by omega) (show ((k : Int) + 1) < 9223372036854775808 by omega), o4, o5, c4, c5, o6, o7, o8, o9]
  exact ⟨n - 1, by omega, h'', Ext.refl _, k + 1, v', by omega, rfl, rfl, he2, by rw [runI_succ, List.map_append, List.map_append]; exact ho2⟩
 ·have e : k = N := by omega
  subst e
  have s2 := saveActs_len m (beginS s c (runI x k))
  simp -implicitDefEqProofs only [go_sem, f3, f7, f30, f31, f32, f9, Int.lt_irrefl, o4, o5, c4, c5, o6, o7, o8, o9]
  intro b8 hb8 n8
  simp -implicitDefEqProofs only [go_sem, f9, o4, o5, c4, c5, o6, o7, o8, o9]
  refine appW_own (new := [[.bool true, i64 0, str []]]) (he.set n8 _) (ho.ext ((Ext.refl _).set n8 _)) (by simp -implicitDefEqProofs only [go_sem, o4, o5, c4, c5, o6, o7, o8, o9]; rfl) (by intro r hr; simp at hr; subst hr; rfl) rfl (by rw [lw]; simp; omega) ?_
  intro v' h3 he2 ho2 _
  have J3 := he2.2.g b3 _ G3
  have J4 := he2.2.g b4 _ G4
  have J5 := he2.2.g b5 _ G5
  have E3 := E2.trans he2
  have sl3 := slw0.ext he2
  have o10 := sl3.one
  have c10 := sl3.vcl
  simp -implicitDefEqProofs only [go_sem, f3, f4, f5, f6, f7, ldc_get J3, ldc_get J4, ldc_get J5, o10, c10, o4, o5, c4, c5, o6, o7, o8, o9]
  refine AC_of (save_ac (s := beginS s c (runI x k)) (hv0.ext E3) hf ⟨uh, .slice aw k cw, rfl, sh.ext E3, sl3⟩ hS2) ?_
  rintro v4 h4 - ⟨e4, o4'⟩
  simp -implicitDefEqProofs only [go_sem, o4'.sl.src (act_wid _) (by decide), o4, o5, c4, c5, o6, o7, o8, o9]
  obtain ⟨a5, c5', rfl⟩ := ho2.shape
  have lw3 : (((runI x k).map (wipe m)).map UAct.cells ++ [[.bool true, i64 0, str []]]).length = k + 1 := by simp [runI_len]
  rw [lw3] at ho2 ⊢
  simp -implicitDefEqProofs only [go_sem, o4'.sl.src (act_wid _) (by decide), o4, o5, c4, c5, o6, o7, o8, o9]
  refine appW_own (new := (saveActs m (beginS s c (runI x k))).map UAct.cells) (he2.trans e4) (ho2.ext e4) rfl (act_wid _) (acts_one _) (by rw [lw3, List.length_map]; omega) ?_
  intro v5 h5 he5 ho5 _
  have g65 := he5.2.g b6 _ G6
  have hb65 : h5.base ≤ b6 := by rw [he5.1]; exact hb62
  have w1 := ho5.sl.vcl
  have w2 := ho5.sl.one
  simp -implicitDefEqProofs only [go_sem, f6, stc_get g65, hb65, w1, w2, o4, o5, c4, c5, o6, o7, o8, o9]
  exact ⟨(E2.trans he5).set' n6 _, v5, rfl, by
   have := (ho5.set0 (b := b6) (by rw [G6]; simp) ⟨[v5, str [], nils, i64 0], 4⟩).back E2
   rw [List.map_append]
   unfold wipeAll
   rw [List.map_append]
   exact this⟩
end Go.Proofs.YthjbhdmjfakfaaaGreatDoor