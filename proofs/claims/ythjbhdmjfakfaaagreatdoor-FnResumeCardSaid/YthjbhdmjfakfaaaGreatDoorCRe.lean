/- A helper of this seat's claims (contracts of the functions): what it shows is shown for every input that its statements name, on no other condition. -/
import Derived.Test.YthjbhdmjfakfaaaGreatDoorCRd
import Derived.Test.YthjbhdmjfakfaaaGreatDoorMC14y
import Derived.Test.YthjbhdmjfakfaaaGreatDoorMC14m
set_option linter.unusedVariables false
set_option linter.unusedSimpArgs false
set_option maxRecDepth 100000
namespace Go.Proofs.YthjbhdmjfakfaaaGreatDoor
open Go.KH

theorem wipeAll_ok {m : UMach} {L : List Int} (hf : machFit m) (hL : ∀ x ∈ L, 0 ≤ x ∧ x ≤ 23) : ∀ a ∈ wipeAll m L, actOk m.flash.sec.length a := fun a ha => by
 have h27 := hf.2.2
 have hb := hf.1
 unfold wipeAll at ha
 rcases List.mem_append.1 ha with ha | ha
 ·obtain ⟨x, hx, rfl⟩ := List.mem_map.1 ha
  have := hL x hx
  exact fun _ => ⟨by unfold wipe; simp only; omega, by unfold wipe; simp⟩
 ·rw [List.mem_singleton.1 ha]; exact sync_ok _
theorem recordB_96 {n : Int} {x : UStep} (hn : 0 ≤ n ∧ n ≤ 1000000) (hx : x.ok) (hk : stepOk x 8) : (recordB n x).length ≤ 96 := by
 have l1 := stepB_60 hx hk
 have l2 := putNum_le (n := n) (by constructor <;> omega)
 unfold recordB
 rw [sealB_len, List.length_append]; omega
theorem stepOk_wide {s : UStep} {b : Int} (h : stepOk s b) (hb : b ≤ 8) : stepOk s 8 := by
 obtain ⟨a1, a2, a3, a4⟩ := h
 refine ⟨a1, ?_, ?_, a4⟩
 ·split at a2
  ·rename_i c; rw [if_pos c]; exact a2
  ·rename_i c; rw [if_neg c]; omega
 ·split at a3
  ·rename_i c; rw [if_pos c]; exact a3
  ·rename_i c
   rw [if_neg c]
   split at a3
   ·rename_i c2; rw [if_pos c2]; omega
   ·rename_i c2; rw [if_neg c2]; exact a3
theorem stepActs_ok {m : UMach} {s : UState} {n : Nat} {x : UStep} (hf : machFit m) (hok : stateOk s) (hn : n ≤ 20) (hin : s.stash.toNat + n < s.mine.length) (hx : x.ok) (hk : stepOk x m.blocks) : ∀ a ∈ stepActs m s n x, actOk m.flash.sec.length a := fun a ha => by
 have h27 := hf.2.2
 have hb := hf.1
 have hm := (stateOk_log hok).2.2.2 (s.mine.getD (s.stash.toNat + n) 0) (by rw [List.getD_eq_getElem?_getD, List.getElem?_eq_getElem hin]; exact List.getElem_mem hin)
 unfold stepActs at ha
 rcases List.mem_cons.1 ha with rfl | ha
 ·exact fun _ => ⟨by simp only; omega, recordB_96 (by omega) hx (stepOk_wide hk hb.2)⟩
 ·split at ha
  ·rw [List.mem_singleton.1 ha]; exact sync_ok _
  ·cases ha
theorem finOut_ok {m : UMach} {s : UState} {l : List UStep} (hf : machFit m) (hok : stateOk s) (p2 : s.phase = 2) : (∀ a ∈ (finOut m s l).1, actOk m.flash.sec.length a) ∧ (finOut m s l).1.length ≤ 3 := by
 have hI := saveActs_ok hf (show stateOk (idleOf s) from ok_idle hok)
 have lI := saveActs_len m (idleOf s)
 have hR := saveActs_ok hf (ok_ready hok p2)
 have lR := saveActs_len m { s with phase := 3 }
 unfold finOut
 split
 ·exact ⟨hI, by simp only; omega⟩
 split
 ·exact ⟨hI, by simp only; omega⟩
 split
 ·exact ⟨hI, by simp only; omega⟩
 split
 ·exact ⟨hI, by simp only; omega⟩
 ·refine ⟨fun a ha => ?_, by simp only [List.length_cons]; omega⟩
  rcases List.mem_cons.1 ha with rfl | ha
  ·exact sync_ok _
  ·exact hR a ha
theorem Does.ok {m : UMach} {s : UState} {c : UCmd} {o : List UAct × Int} (hf : machFit m) (hok : stateOk s) (d : Does m s c o) : (∀ a ∈ o.1, actOk m.flash.sec.length a) ∧ o.1.length ≤ 1000 := by
 rcases d with ⟨k, p1, ha, hb, hdg, x, hx, hh, rfl⟩ | ⟨k, p2, hn, hxo, hxd, hc, rfl⟩ | ⟨k, p2, rfl⟩ | ⟨k, hh, hm, ha, p1, rfl⟩ | ⟨k, rfl⟩
 ·have hS2 := beginS_ok (c := c) (x := x) hok hh ha hb hdg
  unfold beginOut
  split
  ·rename_i h24
   have hR := saveActs_ok hf (hS2 h24)
   have lR := saveActs_len m (beginS s c (runI x (c.a + c.b).toNat))
   refine ⟨fun a ha => ?_, ?_⟩
   ·rcases List.mem_append.1 ha with ha | ha
    ·exact wipeAll_ok hf (fun y hy => by have := runI_mem hy; omega) a ha
    ·exact hR a ha
   ·unfold wipeAll
    simp only [List.length_append, List.length_map, runI_len, List.length_cons, List.length_nil]
    omega
  ·exact ⟨(fun a ha => by cases ha), by simp⟩
 ·have h20 := logOf_len m hok
  have h5 := hok.2.2.2.2
  rw [if_neg (by omega)] at h5
  have hco := (code_zero hc).1.2.2 c.step (by simp)
  refine ⟨stepActs_ok hf hok h20 (by omega) hxo hco, ?_⟩
  unfold stepActs
  split <;> simp
 ·have := finOut_ok (l := logOf m s) hf hok p2
  exact ⟨this.1, by omega⟩
 ·have := saveActs_len m { s with held := runI 0 c.a.toNat }
  exact ⟨saveActs_ok hf (hold_ok hok hm (by omega)), by simp only; omega⟩
 ·have := bootActs_len m hok
  exact ⟨bootActs_ok hf hok, by simp only; omega⟩
def b_impl_Do : C := (jo [⟨(some 2), none, .box (.t 0)⟩, ⟨(some 3), none, .box (.t 1)⟩, ⟨(some 4), none, .alloc [(i64 0), nils, nils, (str []), nils, (i64 0)]⟩]
 (.seq (jo [jd 6 3 2, jc 7 71 [(.t 6)], q 8 (.un .not (.t 7)), jm 9 8, qg 10 9 false (.ld true 8 (.t 3)), jcg 11 9 false 72 [(.t 10)], qg 12 9 false (.un .not (.t 11)), q 13 (.pick (.t 9) (.c (.bool true)) (.t 12))]
 (.cond (.t 13) (jo [q 14 (.build [(i64 0), nils, nils, (str []), nils, (i64 0)] [(5, 1, (.c (i64 1)))]), js 6 4 14]
 .ret) .skip))
 (jo [jd 15 3 2, jd 16 8 3, jc 17 73 [(.t 15), (.t 16)], ⟨(some 5), none, .alloc [nils, (str []), nils, (i64 0)]⟩, js 4 5 17]
 (.seq (.dops true (.tk (jf 18 0 2) (.tk (jl 19 18) (.tk (jf 20 1 2) (.tk (jd 21 2 20) (.tk (jf 22 0 5) (.tk (jl 23 22) (.tk (jf 26 1 5) (.tk (jl 27 26) (.tk (jf 28 2 5) (.tk (jl 29 28) (.tk (jf 30 3 5) (.tk (jl 31 30) (.sq (jc 24 74 [(.t 21), (.t 23)]) (.tk (q 25 (.build [(i64 0), nils, nils] [(0, 1, (.t 19)), (1, 2, (.t 24))])) (.tk (q 32 (.build [(i64 0), nils, nils, (str []), nils, (i64 0)] [(0, 3, (.t 25)), (3, 1, (.t 27)), (4, 1, (.t 29)), (5, 1, (.t 31))])) (.lt (js 6 4 32) .nil)))))))))))))))))
 .ret))))
theorem w_impl_Do : Wk Tryz.prog 26 33 [.cell 4 true 6] b_impl_Do := Wk.of mixedOrders Tryz.func26 (by kernel_rfl) (by kernel_rfl)

set_option maxHeartbeats 1600000 in
theorem implDo_ac {h : H} {cs : List Value} {m : UMach} {s : UState} {c : UCmd} {o : List UAct × Int} (tb : Tabs h) (hv : RepR h (spMach m) cs) (hs : m.flash.fin1) (hst : stM m = some s) (hr : rightOut m = true) (hc : cmdOk c) (hg : (metaGet m.flash).1.1.1 ≠ 1000000) (hd : Does m s c o) :
  AC Tryz.prog 26 [.agg cs.toArray, .agg c.cells.toArray] h fun r h' => Ext h h' ∧ ∃ us ud, r = .agg #[i64 m.blocks, us, ud, str [], nils, i64 o.2] ∧ FlF h h' (actsDo m.flash o.1) us ud := by
 have hv0 := hv
 obtain ⟨hf, hok⟩ := stM_ok hst
 obtain ⟨_, _, _, _, hi, _⟩ := right_of hr
 obtain ⟨hA, hA2⟩ := hd.ok hf hok
 obtain ⟨vs, vd, rfl, fr⟩ := mach_r.1 hv
 have o4 := fr.1.one
 have o5 := fr.2.one
 have c4 : vcl vs = [vs] := fr.1.vcl
 have c5 : vcl vd = [vd] := fr.2.vcl
 skip
 refine w_impl_Do (by simp) ?_
 unfold b_impl_Do
 refine wpc_cut (fun f1 h1 => ∃ b2 b3 b4, f1 2 = ptr b2 0 ∧ f1 3 = ptr b3 0 ∧ f1 4 = ptr b4 0 ∧ h1.get b2 = some ⟨[i64 m.blocks, vs, vd], 3⟩ ∧ h1.get b3 = some ⟨c.cells, 8⟩ ∧ h1.get b4 = some ⟨[i64 0, nils, nils, str [], nils, i64 0], 6⟩ ∧ h1.base ≤ b4 ∧ h.get b4 = none ∧ Ext h h1) ?_ ?_
 ·simp -implicitDefEqProofs only [go_sem, o4, o5, c4, c5]
  intro b2 hb_b2 n_b2
  simp -implicitDefEqProofs only [go_sem, o4, o5, c4, c5, hb_b2]
  intro b3 hb_b3 m0_b3
  obtain ⟨z_b3_b2, y_b3_b2, n_b3⟩ := fne m0_b3
  simp only [H.set_base] at hb_b3
  simp -implicitDefEqProofs only [go_sem, o4, o5, c4, c5, hb_b2, hb_b3, z_b3_b2, y_b3_b2]
  intro b4 hb_b4 m0_b4
  obtain ⟨z_b4_b3, y_b4_b3, m1_b4⟩ := fne m0_b4
  obtain ⟨z_b4_b2, y_b4_b2, n_b4⟩ := fne m1_b4
  simp only [H.set_base] at hb_b4
  simp -implicitDefEqProofs only [go_sem, o4, o5, c4, c5, hb_b2, hb_b3, z_b3_b2, y_b3_b2, hb_b4, z_b4_b3, y_b4_b3, z_b4_b2, y_b4_b2]
  exact ⟨b2, b3, b4, rfl, rfl, rfl, by simp -implicitDefEqProofs only [go_sem, o4, o5, c4, c5, hb_b2, hb_b3, z_b3_b2, y_b3_b2, hb_b4, z_b4_b3, y_b4_b3, z_b4_b2, y_b4_b2], by simp -implicitDefEqProofs only [go_sem, o4, o5, c4, c5, hb_b2, hb_b3, z_b3_b2, y_b3_b2, hb_b4, z_b4_b3, y_b4_b3, z_b4_b2, y_b4_b2], by simp -implicitDefEqProofs only [go_sem, o4, o5, c4, c5, hb_b2, hb_b3, z_b3_b2, y_b3_b2, hb_b4, z_b4_b3, y_b4_b3, z_b4_b2, y_b4_b2], hb_b4, n_b4, ((((Ext.refl _).set' n_b2 _).set' n_b3 _).set' n_b4 _)⟩
 skip
 rintro f1 hS ⟨b2, b3, b4, q2, q3, q4, g2, g3, g4, hb4, n4, E0⟩
 have hvS := hv0.ext E0
 have L2 := ldc_get g2
 have L3 := ldc_get g3
 skip
 simp -implicitDefEqProofs only [go_sem, o4, o5, c4, c5, q2, q3, q4, L2, L3]
 refine (isMachine_pc hvS hs).use ?_
 simp -implicitDefEqProofs only [go_sem, hr, o4, o5, c4, c5, q2, q3, q4, L2, L3]
 refine (isCmd_pc _ c).use ?_
 simp -implicitDefEqProofs only [go_sem, hc, o4, o5, c4, c5, q2, q3, q4, L2, L3]
 refine AC_of (actsOf_ac (tb.ext E0) hvS hs hst hi hg hd) ?_
 rintro _ h2 - ⟨e2, va, rfl, oa⟩
 have y1 := oa.sl.vcl
 have y2 := oa.sl.one
 simp -implicitDefEqProofs only [go_sem, y1, y2, o4, o5, c4, c5, q2, q3, q4, L2, L3]
 intro b5 hb5 n5
 have e5 := (Ext.refl h2).set n5 ⟨[va, str [], nils, i64 o.2], 4⟩
 have g5 : (h2.set b5 ⟨[va, str [], nils, i64 o.2], 4⟩).get b5 = some ⟨[va, str [], nils, i64 o.2], 4⟩ := H.set_get_same _ _ _
 have G2 := e5.2.g b2 _ (e2.2.g b2 _ g2)
 have G4 := e5.2.g b4 _ (e2.2.g b4 _ g4)
 have hb42 : (h2.set b5 ⟨[va, str [], nils, i64 o.2], 4⟩).base ≤ b4 := by rw [e5.1, e2.1]; exact hb4
 have oa5 := oa.ext e5
 have G2' := e2.2.g b2 _ g2
 have z25 : b2 ≠ b5 := fun e => by rw [← e, G2'] at n5; cases n5
 skip
 simp -implicitDefEqProofs only [go_sem, hb5, y1, y2, eq_false z25, ldc_get G2', o4, o5, c4, c5, q2, q3, q4]
 generalize h2.set b5 ⟨[va, str [], nils, i64 o.2], 4⟩ = h3 at e5 g5 G2 G4 hb42 oa5 ⊢
 have E3 := (E0.trans e2).trans e5
 refine AC_of (acted_ac (fr.ext E3) oa5.sl hf.2.1 hA hA2) ?_
 rintro _ h4 - ⟨e4, us, ud, rfl, f4⟩
 refine ⟨e4.2, ?_⟩
 have p1 := f4.1.sl.one
 have p2 := f4.2.1.sl.one
 have G44 := e4.2.g b4 _ G4
 have hb44 : h4.base ≤ b4 := by rw [e4.1]; exact hb42
 simp -implicitDefEqProofs only [go_sem, p1, p2, stc_get G44, hb44, o4, o5, c4, c5, q2, q3, q4]
 exact ⟨(E3.trans e4).set' n4 _, us, ud, rfl, FlF.back (FlF.set f4 G4 _) E3⟩
def b_impl_Cut : C := (jo [⟨(some 4), none, .box (.t 0)⟩, ⟨(some 5), none, .box (.t 1)⟩, ⟨(some 8), none, .alloc [(i64 0), nils, nils, (i64 0)]⟩]
 (.seq (.block 0 (jo [jm 10 3, q 11 (.len (.t 10)), jk 12 .gtr 11 400, jm 9 12]
 (.cond (.t 9) (jo [q 13 (.build [(i64 0), nils, nils, (i64 0)] [(3, 1, (.c (i64 2)))]), js 4 8 13]
 .ret) (jo [jd 15 3 4, jc 16 71 [(.t 15)], q 17 (.un .not (.t 16)), jm 18 17, qg 19 18 false (.ld true 8 (.t 5)), jcg 20 18 false 72 [(.t 19)], qg 21 18 false (.un .not (.t 20)), q 22 (.pick (.t 18) (.c (.bool true)) (.t 21)), jm 23 22, qg 24 23 false (.mv (.t 2)), qg 25 23 false (.bin .lss (.t 24) (.c (i64 0))), q 26 (.pick (.t 23) (.c (.bool true)) (.t 25)), jm 14 26]
 (.cond (.t 14) (jo [q 27 (.build [(i64 0), nils, nils, (i64 0)] [(3, 1, (.c (i64 1)))]), js 4 8 27]
 .ret) .skip)))))
 (.seq (.dops true (.tk (jd 28 3 4) (.tk (jd 29 3 4) (.tk (jd 30 8 5) (.tk (jm 33 2) (.tk (jm 34 3) (.sq (jc 31 73 [(.t 29), (.t 30)]) (.tk (q 32 (.part false 0 1 (.t 31))) (.sq (jc 35 80 [(.t 28), (.t 32), (.t 33), (.t 34)]) (.tk (q 36 (.build [(i64 0), nils, nils, (i64 0)] [(0, 3, (.t 35))])) (.lt (js 4 8 36) .nil)))))))))))
 .ret)))
theorem w_impl_Cut : Wk Tryz.prog 31 37 [.cell 8 true 4] b_impl_Cut := Wk.of mixedOrders Tryz.func31 (by kernel_rfl) (by kernel_rfl)

set_option maxHeartbeats 1600000 in
theorem implCut_ac {h : H} {cs : List Value} {vf : Value} {m : UMach} {s : UState} {c : UCmd} {o : List UAct × Int} {n : Int} {fs : List Int} (tb : Tabs h) (hv : RepR h (spMach m) cs) (hs : m.flash.fin1) (hst : stM m = some s) (hr : rightOut m = true) (hc : cmdOk c) (hg : (metaGet m.flash).1.1.1 ≠ 1000000) (hd : Does m s c o)
  (hn : 0 ≤ n) (hfs : Sl h vf 1 (ints fs)) (h400 : fs.length ≤ 400) (hin : ∀ x ∈ fs, in64 x) :
  AC Tryz.prog 31 [.agg cs.toArray, .agg c.cells.toArray, i64 n, vf] h fun r h' => Ext h h' ∧ ∃ us ud, r = .agg #[i64 m.blocks, us, ud, i64 0] ∧ FlF h h' (cutF m.flash o.1 n fs) us ud := by
 have hv0 := hv
 obtain ⟨hf, hok⟩ := stM_ok hst
 obtain ⟨_, _, _, _, hi, _⟩ := right_of hr
 obtain ⟨hA, hA2⟩ := hd.ok hf hok
 obtain ⟨vs, vd, rfl, fr⟩ := mach_r.1 hv
 have o4 := fr.1.one
 have o5 := fr.2.one
 have c4 : vcl vs = [vs] := fr.1.vcl
 have c5 : vcl vd = [vd] := fr.2.vcl
 have lf : (ints fs).length = fs.length := by simp
 obtain ⟨af, cf, rfl⟩ := hfs.shape
 rw [lf] at hfs
 skip
 refine w_impl_Cut (by simp) ?_
 unfold b_impl_Cut
 refine wpc_cut (fun f1 h1 => ∃ b4 b5 b8, f1 2 = i64 n ∧ f1 3 = .slice af fs.length cf ∧ f1 4 = ptr b4 0 ∧ f1 5 = ptr b5 0 ∧ f1 8 = ptr b8 0 ∧ h1.get b4 = some ⟨[i64 m.blocks, vs, vd], 3⟩ ∧ h1.get b5 = some ⟨c.cells, 8⟩ ∧ h1.get b8 = some ⟨[i64 0, nils, nils, i64 0], 4⟩ ∧ h1.base ≤ b8 ∧ h.get b8 = none ∧ Ext h h1) ?_ ?_
 ·simp -implicitDefEqProofs only [go_sem, o4, o5, c4, c5, lf]
  intro b4 hb_b4 n_b4
  simp -implicitDefEqProofs only [go_sem, o4, o5, c4, c5, lf, hb_b4]
  intro b5 hb_b5 m0_b5
  obtain ⟨z_b5_b4, y_b5_b4, n_b5⟩ := fne m0_b5
  simp only [H.set_base] at hb_b5
  simp -implicitDefEqProofs only [go_sem, o4, o5, c4, c5, lf, hb_b4, hb_b5, z_b5_b4, y_b5_b4]
  intro b8 hb_b8 m0_b8
  obtain ⟨z_b8_b5, y_b8_b5, m1_b8⟩ := fne m0_b8
  obtain ⟨z_b8_b4, y_b8_b4, n_b8⟩ := fne m1_b8
  simp only [H.set_base] at hb_b8
  simp -implicitDefEqProofs only [go_sem, o4, o5, c4, c5, lf, hb_b4, hb_b5, z_b5_b4, y_b5_b4, hb_b8, z_b8_b5, y_b8_b5, z_b8_b4, y_b8_b4]
  exact ⟨b4, b5, b8, rfl, rfl, rfl, by simp -implicitDefEqProofs only [go_sem, o4, o5, c4, c5, lf, hb_b4, hb_b5, z_b5_b4, y_b5_b4, hb_b8, z_b8_b5, y_b8_b5, z_b8_b4, y_b8_b4], by simp -implicitDefEqProofs only [go_sem, o4, o5, c4, c5, lf, hb_b4, hb_b5, z_b5_b4, y_b5_b4, hb_b8, z_b8_b5, y_b8_b5, z_b8_b4, y_b8_b4], by simp -implicitDefEqProofs only [go_sem, o4, o5, c4, c5, lf, hb_b4, hb_b5, z_b5_b4, y_b5_b4, hb_b8, z_b8_b5, y_b8_b5, z_b8_b4, y_b8_b4], hb_b8, n_b8, ((((Ext.refl _).set' n_b4 _).set' n_b5 _).set' n_b8 _)⟩
 skip
 rintro f1 hS ⟨b4, b5, b8, q2, q3, q4, q5, q8, g4, g5, g8, hb8, n8, E0⟩
 have hvS := hv0.ext E0
 have L4 := ldc_get g4
 have L5 := ldc_get g5
 skip
 simp -implicitDefEqProofs only [go_sem, show ¬ (400 : Int) < (fs.length : Int) by omega, o4, o5, c4, c5, lf, q2, q3, q4, q5, q8, L4, L5]
 refine (isMachine_pc hvS hs).use ?_
 simp -implicitDefEqProofs only [go_sem, hr, o4, o5, c4, c5, lf, q2, q3, q4, q5, q8, L4, L5]
 refine (isCmd_pc _ c).use ?_
 simp -implicitDefEqProofs only [go_sem, hc, show ¬ n < 0 by omega, o4, o5, c4, c5, lf, q2, q3, q4, q5, q8, L4, L5]
 refine AC_of (actsOf_ac (tb.ext E0) hvS hs hst hi hg hd) ?_
 rintro _ h2 - ⟨e2, va, rfl, oa⟩
 refine ⟨e2.2, ?_⟩
 have y1 := oa.sl.vcl
 have y2 := oa.sl.one
 have E2 := E0.trans e2
 simp -implicitDefEqProofs only [go_sem, y1, y2, o4, o5, c4, c5, lf, q2, q3, q4, q5, q8, L4, L5]
 refine AC_of (cut_ac (hv0.ext E2) hf oa.sl hA hA2 hn (hfs.ext E2) hin) ?_
 rintro _ h7 - ⟨e7, us, ud, rfl, f7⟩
 refine ⟨(e2.trans e7).2, ?_⟩
 have p1 := f7.1.sl.one
 have p2 := f7.2.1.sl.one
 have G8 := (e2.trans e7).2.g b8 _ g8
 have hb87 : h7.base ≤ b8 := by rw [(e2.trans e7).1]; exact hb8
 simp -implicitDefEqProofs only [go_sem, p1, p2, stc_get G8, hb87, o4, o5, c4, c5, lf, q2, q3, q4, q5, q8, L4, L5]
 exact ⟨(E2.trans e7).set' n8 _, us, ud, rfl, FlF.back (FlF.set f7 (e2.2.g b8 _ g8) _) E2⟩
end Go.Proofs.YthjbhdmjfakfaaaGreatDoor