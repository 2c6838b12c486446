/- A helper of this seat's claims (contracts of the functions): what it shows is shown for every input that its statements name, on no other condition. -/
import Derived.Test.YthjbhdmjfakfaaaGreatDoorMC14m
import Derived.Test.YthjbhdmjfakfaaaGreatDoorC10s
import Derived.Test.YthjbhdmjfakfaaaGreatDoorMC10t
set_option linter.unusedVariables false
set_option linter.unusedSimpArgs false
set_option maxRecDepth 100000
namespace Go.Proofs.YthjbhdmjfakfaaaGreatDoor
open Go.KH

def isDo (b : Int) (x : UMove) : Bool := decide (x.kind = 2 ∧ x.block = b)
noncomputable def doneB (m : UMach) (s : UState) (b : Int) : Bool := ((movesM m s).take s.done.toNat).any (isDo b)
noncomputable def foldV (m : UMach) (s : UState) : List (List UInt8) := (wrM m s).foldl (setIf (fun x => !doneB m s x.dst) (fun x => x.dst.toNat) (madeM m s)) (baseOf m)
def b_impl_Machine_view_1_1 : C := (jo [⟨(some 2), none, .box (.t 0)⟩, q 3 (.mv (.c (.bool false)))]
 (jo [jf 4 0 2, jl 5 4, jk 6 .eql 5 2, jm 7 6, qg 8 7 true (.fld 2 (.t 2)), qg 9 7 true (.ld false 1 (.t 8)), qg 10 7 true (.ld false 1 (.t 1)), qg 11 7 true (.bin .eql (.t 9) (.t 10)), q 12 (.pick (.t 7) (.t 11) (.c (.bool false))), jm 3 12]
 .ret))
theorem w_impl_Machine_view_1_1 : Wk Tryz.prog 159 13 [.tmp 3] b_impl_Machine_view_1_1 := Wk.of mixedOrders Tryz.func159 (by kernel_rfl) (by kernel_rfl)

theorem view11_pc {h : H} {x : UMove} {b : Nat} {to : Int} (hb : ldc h b 0 1 = some [i64 to]) : PC Tryz.prog 159 [.agg x.cells.toArray, ptr b 0] h (.bool (isDo to x)) := by
 refine PC_of ?_
 unfold isDo
 refine w_impl_Machine_view_1_1 (by simp) ?_
 unfold b_impl_Machine_view_1_1
 simp -implicitDefEqProofs only [go_sem]
 intro b2 hb_b2 n_b2
 have hb2 : ∀ z, ldc (h.set b2 z) b 0 1 = some [i64 to] := fun z => ldc_sub ((Ext.refl h).set' n_b2 z).2 hb
 simp -implicitDefEqProofs only [go_sem, hb_b2]
 by_cases hk : x.kind = 2
 ·simp -implicitDefEqProofs only [go_sem, hb2, eq_true hk, hb_b2]
  first | exact ((Ext.refl _).set' n_b2 _) | exact ⟨((Ext.refl _).set' n_b2 _), by simp⟩
 ·simp -implicitDefEqProofs only [go_sem, eq_false hk, hb_b2]
  first | exact ((Ext.refl _).set' n_b2 _) | exact ⟨((Ext.refl _).set' n_b2 _), by simp⟩
def b_slices_ContainsFunc_impl_Move_impl_Move : C := (jo [q 4 (.mv (.c (.bool false)))]
 (jo [jm 5 0, jm 6 1, jc 7 216 [(.t 5), (.t 6)], jk 8 .geq 7 0, jm 4 8]
 .ret))
theorem w_slices_ContainsFunc_impl_Move_impl_Move : Wk Tryz.prog 158 9 [.tmp 4] b_slices_ContainsFunc_impl_Move_impl_Move := Wk.of mixedOrders Tryz.func158 (by kernel_rfl) (by kernel_rfl)

def b_slices_IndexFunc_impl_Move_impl_Move : C := (jo [q 4 (.mv (.c (i64 0)))]
 (.seq (jo [jm 6 0, q 7 (.len (.t 6)), q 8 (.mv (.c (i64 0)))]
 (.block 0 (.loop (jo [jb 9 .lss 8 7]
 (.seq (.cond (.t 9) .skip (.exit 0))
 (.seq (.block 1 (jo [jm 10 8, jm 5 10]
 (jo [jm 11 1, jm 12 0, jm 13 5, q 14 (.idx 4 (.t 12) (.t 13)), jd 15 4 14, ⟨(some 16), none, .call (.t 11) [(.t 15)]⟩]
 (.cond (.t 16) (jo [jm 17 5, jm 4 17]
 .ret) .skip))))
 (.ops [jk 18 .add 8 1, jm 8 18])))))))
 (jo [q 4 (.mv (.c (i64 (-1))))]
 .ret)))
theorem w_slices_IndexFunc_impl_Move_impl_Move : Wk Tryz.prog 216 19 [.tmp 4] b_slices_IndexFunc_impl_Move_impl_Move := Wk.of mixedOrders Tryz.func216 (by kernel_rfl) (by kernel_rfl)

theorem containsMove_pc {h : H} {v : Value} {l : List UMove} {p : UMove → Bool} {n : Nat} {caps : List Value} (hv : Sl h v 4 (l.map UMove.cells)) (hn : l.length ≤ 1048576) (hc : ∀ x, x ∈ l → PC Tryz.prog n (.agg x.cells.toArray :: caps) h (.bool (p x))) :
  PC Tryz.prog 158 [v, .func (.func n) #[] caps.toArray] h (.bool (l.any p)) := by
 rw [← firstAt_any]
 refine w_slices_ContainsFunc_impl_Move_impl_Move (by simp) ?_
 unfold b_slices_ContainsFunc_impl_Move_impl_Move
 simp -implicitDefEqProofs only [go_sem]
 have this := (w_slices_IndexFunc_impl_Move_impl_Move (by simp) (if_wpc (p := p) (n := n) (caps := caps) hv hn hc ⟨rfl, rfl⟩) : PC Tryz.prog 216 [v, .func (.func n) #[] caps.toArray] h (i64 (firstAt p l)))
 refine PC.use this ?_
 simp -implicitDefEqProofs only [go_sem]
def b_impl_Machine_view_1 : C := (jo [⟨(some 3), none, .box (.t 0)⟩, q 4 (.mv (.c (.bool false)))]
 (jo [jl 5 1, jf 6 4 2, jl 7 6, q 8 (.lsl 4 (.t 5) none (some (.t 7))), q 9 (.mkf 159 [(.t 3)]), jc 10 158 [(.t 8), (.t 9)], jm 4 10]
 .ret))
theorem w_impl_Machine_view_1 : Wk Tryz.prog 157 11 [.tmp 4] b_impl_Machine_view_1 := Wk.of mixedOrders Tryz.func157 (by kernel_rfl) (by kernel_rfl)

theorem view1_pc {h : H} {vm : Value} {m : UMach} {s : UState} {b7 b3 : Nat} {uh um : Value} {to : Int} (f : Fold m s) (hm : Sl h vm 4 ((movesM m s).map UMove.cells)) (g7 : h.get b7 = some ⟨[vm], 1⟩) (g3 : h.get b3 = some ⟨s.cells uh um, 8⟩) : PC Tryz.prog 157 [i64 to, ptr b7 0, ptr b3 0] h (.bool (doneB m s to)) := by
 have hdl := f.done
 have hdn := ok_done f.ok
 have h28 := moves_28 f.code
 have ll : ((movesM m s).map UMove.cells).length = (movesM m s).length := by simp
 obtain ⟨a, c, rfl⟩ := hm.shape
 rw [ll] at hm
 have hcap : (movesM m s).length ≤ c := by
  obtain ⟨_, _, _, _, e, hc, _⟩ := hm
  simp only [Value.slice.injEq] at e
  rw [ll] at hc
  omega
 refine PC_of ?_
 unfold doneB
 skip
 refine w_impl_Machine_view_1 (by simp) ?_
 unfold b_impl_Machine_view_1
 simp -implicitDefEqProofs only [go_sem, ll]
 intro bx hb_bx n_bx
 have G7 := ((Ext.refl h).set n_bx ⟨[i64 to], 1⟩).2.g b7 _ g7
 have G3 := ((Ext.refl h).set n_bx ⟨[i64 to], 1⟩).2.g b3 _ g3
 simp -implicitDefEqProofs only [go_sem, ldc_get G7, ldc_get G3, show 0 ≤ s.done ∧ s.done ≤ (c : Int) by omega, ll, hb_bx]
 have ht := (hm.ext ((Ext.refl h).set n_bx ⟨[i64 to], 1⟩)).take (hi := s.done.toNat) (by omega)
 rw [← List.map_take] at ht
 refine (containsMove_pc (p := isDo to) (caps := [ptr bx 0]) ht (by rw [List.length_take]; omega) (fun x _ => view11_pc (to := to) (by simp -implicitDefEqProofs only [go_sem, ll, hb_bx]))).use ?_
 simp -implicitDefEqProofs only [go_sem, ll, hb_bx]
 exact ((Ext.refl _).set' n_bx _)
noncomputable def viewM (m : UMach) (s : UState) : List (List UInt8) := if s.phase = 4 then applyB (baseOf m) (logOf m s) else if s.phase = 5 then foldV m s else baseOf m
noncomputable def imgK (m : UMach) (s : UState) (k : Nat) : List (List UInt8) := ((wrM m s).take k).foldl (setIf (fun x => !doneB m s x.dst) (fun x => x.dst.toNat) (madeM m s)) (baseOf m)
theorem imgK_len (m : UMach) (s : UState) (k : Nat) : (imgK m s k).length = (baseOf m).length := setIf_len ..
theorem imgK_succ (m : UMach) (s : UState) {k : Nat} (hk : k < (wrM m s).length) : imgK m s (k + 1) = if doneB m s ((wrM m s)[k]).dst = true then imgK m s k else (imgK m s k).set ((wrM m s)[k]).dst.toNat (madeM m s (wrM m s)[k]) := by
 unfold imgK
 rw [List.take_succ_eq_append_getElem hk, List.foldl_append, List.foldl_cons, List.foldl_nil]
 generalize ((wrM m s).take k).foldl _ _ = im
 unfold setIf
 by_cases hd : doneB m s ((wrM m s)[k]).dst = true
 ·simp [hd]
 ·simp [hd]
def b_impl_Machine_view : C := (jo [⟨(some 1), none, .box (.t 0)⟩, q 2 (.mv (.c nils))]
 (jo [jd 12 3 1, jc 13 76 [(.t 12)], jm 11 13, q 14 (.ext 0 (.t 11)), q 15 (.ext 1 (.t 11)), ⟨(some 3), none, .alloc [(i64 0), (i64 0), (i64 0), (i64 0), (i64 0), (str []), nils, nils]⟩, js 8 3 14, jm 4 15]
 (.seq (.dops true (.tk (jd 16 3 1) (.tk (jd 18 3 1) (.tk (jd 19 8 3) (.sq (jc 17 136 [(.t 16)]) (.sq (jc 20 81 [(.t 18), (.t 19)]) (.tk (jm 5 17) (.tk (jm 6 20) .nil))))))))
 (.seq (jo [jf 21 0 3, jl 22 21]
 (.block 0 (jo [jk 24 .eql 22 4, jm 23 24]
 (.cond (.t 23) (jo [jm 25 5, jm 26 6, jc 27 65 [(.t 25), (.t 26)], jm 2 27]
 .ret) (jo [jk 29 .eql 22 5, jm 28 29]
 (.cond (.t 28) (jo [jm 30 6, jc 31 137 [(.t 30)], ⟨(some 7), none, .alloc [nils]⟩, js 1 7 31]
 (jo [q 32 (.mkf 157 [(.t 7), (.t 3)]), jm 8 32]
 (jo [jm 33 6, jc 34 125 [(.t 33)], q 35 (.len (.t 34)), q 36 (.mv (.c (i64 0)))]
 (.block 1 (.loop (jo [jb 37 .lss 36 35]
 (.seq (.cond (.t 37) .skip (.exit 1))
 (.seq (.block 2 (jo [q 38 (.idx 4 (.t 34) (.t 36)), jd 39 4 38, ⟨(some 10), none, .alloc [(i64 0), (i64 0), (i64 0), (str [])]⟩, js 4 10 39]
 (jo [jm 40 8, jf 41 1 10, jl 42 41, ⟨(some 43), none, .call (.t 40) [(.t 42)]⟩, q 44 (.un .not (.t 43))]
 (.cond (.t 44) (.dops true (.tk (jm 45 5) (.tk (jf 46 1 10) (.tk (jl 47 46) (.tk (jd 48 3 1) (.tk (jd 49 8 3) (.tk (jl 50 7) (.tk (jd 51 4 10) (.sq (jc 52 160 [(.t 48), (.t 49), (.t 50), (.t 51)]) (.tk (q 53 (.idx 1 (.t 45) (.t 47))) (.lt (js 1 53 52) .nil))))))))))) .skip))))
 (.ops [jk 54 .add 36 1, jm 36 54]))))))))) .skip))))))
 (jo [jm 55 5, jm 2 55]
 .ret)))))
theorem w_impl_Machine_view : Wk Tryz.prog 75 56 [.tmp 2] b_impl_Machine_view := Wk.of mixedOrders Tryz.func75 (by kernel_rfl) (by kernel_rfl)

set_option maxHeartbeats 3200000 in
theorem view_ac {h : H} {cs : List Value} {m : UMach} {s : UState} (hv : RepR h (spMach m) cs) (hs : m.flash.fin1) (hst : stM m = some s) (hi : imageOk (baseOf m)) (hsd : soundM m s) : AC Tryz.prog 75 [.agg cs.toArray] h fun r h' => Ext h h' ∧ Fre h h' r 1 (strs (viewM m s)) := by
 have hv0 := hv
 obtain ⟨hf, hok⟩ := stM_ok hst
 have h20 := logOf_len m hok
 have hbl := baseOf_len hf
 obtain ⟨vs, vd, rfl, fr⟩ := mach_r.1 hv
 have o4 := fr.1.one
 have o5 := fr.2.one
 have c4 : vcl vs = [vs] := fr.1.vcl
 have c5 : vcl vd = [vd] := fr.2.vcl
 skip
 refine w_impl_Machine_view (by simp) ?_
 unfold b_impl_Machine_view
 refine wpc_cut2 (fun f1 h1 => ∃ b1 b3 c3, f1 1 = ptr b1 0 ∧ f1 3 = ptr b3 0 ∧ h1.get b1 = some ⟨[i64 m.blocks, vs, vd], 3⟩ ∧ h1.get b3 = some ⟨c3, 8⟩ ∧ StR h1 c3 s ∧ Ext h h1) ?_ ?_
 ·simp -implicitDefEqProofs only [go_sem, o4, o5, c4, c5]
  intro b1 hb_b1 n_b1
  simp -implicitDefEqProofs only [go_sem, o4, o5, c4, c5, hb_b1]
  refine AC_of (stateOf_ac (hv0.ext ((Ext.refl _).set' n_b1 _)) hs) ?_
  rintro _ h2 - ⟨e2, cs2, rfl, F2⟩
  have l2 := F2.r.len
  have t2 := take_len l2
  have o2 := F2.r.one
  have g1 := e2.2.g b1 _ (H.set_get_same _ _ _)
  have E2 := (((Ext.refl _).set' n_b1 _)).trans e2
  skip
  simp -implicitDefEqProofs only [go_sem, l2, t2, o2, o4, o5, c4, c5]
  intro b3 hb3 n3
  have e3 := (Ext.refl h2).set n3 ⟨cs2, 8⟩
  simp -implicitDefEqProofs only [go_sem, l2, t2, o2, hb3, o4, o5, c4, c5]
  rw [hst] at F2
  simp only [Option.getD_some] at F2
  have z13 : b1 ≠ b3 := fun e => by rw [← e, g1] at n3; cases n3
  exact ⟨b1, b3, cs2, rfl, rfl, by rw [if_neg z13]; exact g1, by rw [if_pos rfl], F2.r.ext e3, E2.trans e3⟩
 rintro f1 hS ⟨b1, b3, c3, q1, q3, g1, g3, SR, E1⟩
 have hst0 := SR
 obtain ⟨uh, um, rfl, sh, sm⟩ := SR
 have o6 := sh.vcl
 have o7 := sm.vcl
 have o8 := sh.one
 have o9 := sm.one
 have hvS := hv0.ext E1
 skip
 refine wpc_cut (fun f2 h2 => ∃ v5 v6 hB, f2 1 = ptr b1 0 ∧ f2 3 = ptr b3 0 ∧ f2 5 = v5 ∧ f2 6 = v6 ∧ Own hS hB v5 1 (strs (baseOf m)) ∧ Ext hS hB ∧ Ext hB h2 ∧ Fre hB h2 v6 4 ((logOf m s).map UStep.cells)) ?_ ?_
 ·simp -implicitDefEqProofs only [go_sem, q1, q3, ldc_get g1, ldc_get g3, o4, o5, c4, c5, o6, o7, o8, o9]
  refine AC_of (base_ac hvS hf) ?_
  rintro v5 h5 - ⟨e5, ow⟩
  refine ⟨e5.2, ?_⟩
  simp -implicitDefEqProofs only [go_sem, ow.sl.vcl, o4, o5, c4, c5, o6, o7, o8, o9]
  refine AC_of (log_ac (hvS.ext e5) hf (hst0.ext e5) hok) ?_
  rintro v6 h6 - ⟨e6, f6⟩
  refine ⟨(e5.trans e6).2, ?_⟩
  simp -implicitDefEqProofs only [go_sem, f6.sl.vcl, q1, q3, o4, o5, c4, c5, o6, o7, o8, o9]
  exact ⟨v5, v6, h5, rfl, rfl, ow, e5, e6, f6⟩
 rintro f2 h2 ⟨v5, v6, hB, r1, r3, r5, r6, ow, eB, e2, f6⟩
 have ow2 := ow.ext e2
 have E2 := eB.trans e2
 have G1 := E2.2.g b1 _ g1
 have G3 := E2.2.g b3 _ g3
 unfold viewM
 have vc5 := ow2.sl.vcl
 by_cases p4 : s.phase = 4
 ·rw [if_pos p4]
  have fo : Fold m s := Fold.of hf hok hi hsd (by omega)
  have hco := (code_zero fo.code).1
  simp -implicitDefEqProofs only [go_sem, r1, r3, r5, r6, ldc_get G3, eq_true p4, o4, o5, c4, c5, o6, o7, o8, o9]
  refine AC_of (imageApply_ac ow2.sl f6.sl hi (by omega) (fun x hx => by rw [hbl.2]; exact hco.2.2 x hx)) ?_
  rintro v7 h7 - ⟨e7, f7⟩
  simp -implicitDefEqProofs only [go_sem, f7.sl.vcl, o4, o5, c4, c5, o6, o7, o8, o9]
  exact ⟨(E1.trans E2).trans e7, f7.back (E1.trans E2)⟩
 rw [if_neg p4]
 by_cases p5 : s.phase = 5
 rotate_left
 ·rw [if_neg p5]
  simp -implicitDefEqProofs only [go_sem, r1, r3, r5, r6, ldc_get G3, eq_false p4, eq_false p5, vc5, o4, o5, c4, c5, o6, o7, o8, o9]
  exact ⟨E1.trans E2, (ow2.back E1).fre⟩
 rw [if_pos p5]
 have fo : Fold m s := Fold.of hf hok hi hsd (by omega)
 have hco := (code_zero fo.code).1
 have h28 := moves_28 fo.code
 simp -implicitDefEqProofs only [go_sem, r1, r3, r5, r6, ldc_get G3, eq_false p4, eq_true p5, o4, o5, c4, c5, o6, o7, o8, o9]
 refine AC_of (planOf_ac f6.sl h20 (steps_dst hco)) ?_
 rintro vm h7 - ⟨e7, f7⟩
 simp -implicitDefEqProofs only [go_sem, f7.sl.vcl, o4, o5, c4, c5, o6, o7, o8, o9]
 intro b7 hb7 n7
 have o10 := f7.sl.one
 simp -implicitDefEqProofs only [go_sem, hb7, o10, f7.sl.vcl, o4, o5, c4, c5, o6, o7, o8, o9]
 have e7b := (Ext.refl h7).set n7 ⟨[vm], 1⟩
 have g7 : (h7.set b7 ⟨[vm], 1⟩).get b7 = some ⟨[vm], 1⟩ := H.set_get_same _ _ _
 generalize hH : h7.set b7 ⟨[vm], 1⟩ = h7b at e7b g7 ⊢
 simp -implicitDefEqProofs only [go_sem, r6, o4, o5, c4, c5, o6, o7, o8, o9]
 refine AC_of (writes_ac (f6.sl.ext (e7.trans e7b)) (by omega)) ?_
 rintro vw hL - ⟨e8, f8⟩
 have ll : ((wrM m s).map UStep.cells).length = (wrM m s).length := by simp
 have f8 : Fre h7b hL vw 4 ((wrM m s).map UStep.cells) := f8
 have hsh := f8.shape
 rw [ll] at hsh
 obtain ⟨aw, cw, rfl⟩ := hsh
 have EL := E2.trans (e7.trans (e7b.trans e8))
 have owL := ow2.ext (e7.trans (e7b.trans e8))
 have g7 := e8.2.g b7 _ g7
 have GL1 := EL.2.g b1 _ g1
 have GL3 := EL.2.g b3 _ g3
 have fmL := f7.sl.ext (e7b.trans e8)
 -- what is apart from the image
 have old : ∀ {b}, ob v5 = some b → h2.get b ≠ none := fun hb => by obtain ⟨_, _, z, hg⟩ := ow2.ob_new hb; rw [hg]; simp
 have ap7 : ob v5 ≠ some b7 := fun hb => old hb (e7.none n7)
 have apm : ∀ b, blk vm = some b → ¬ (ob v5 = some b) := fun b hb hv => old hv (f7.new b hb)
 have apw : ∀ b, blk (.slice aw (wrM m s).length cw) = some b → ¬ (ob v5 = some b) := fun b hb hv => old hv ((e7.trans e7b).none (f8.new b hb))
 have ap1 : ob v5 ≠ some b1 := fun hb => by rw [(ow2.ob_new hb).1] at g1; cases g1
 have ap3 : ob v5 ≠ some b3 := fun hb => by rw [(ow2.ob_new hb).1] at g3; cases g3
 simp -implicitDefEqProofs only [go_sem, r1, r3, r5, r6, ll, o4, o5, c4, c5, o6, o7, o8, o9]
 refine loopW_of (fun n f h' => ∃ k, n + k = (wrM m s).length ∧ f 1 = ptr b1 0 ∧ f 3 = ptr b3 0 ∧ f 5 = v5 ∧ f 7 = ptr b7 0 ∧ f 8 = .func (.func 157) #[] #[ptr b7 0, ptr b3 0] ∧ f 34 = .slice aw (wrM m s).length cw ∧ f 35 = i64 (wrM m s).length ∧ f 36 = i64 k ∧ Keep (fun c => ob v5 = some c) hL h' ∧ Own hS h' v5 1 (strs (imgK m s k)) ∧ Ext hS h') (wrM m s).length
  ⟨0, by simp, by simp -implicitDefEqProofs only [go_sem, r1, o4, o5, c4, c5, o6, o7, o8, o9], by simp -implicitDefEqProofs only [go_sem, r3, o4, o5, c4, c5, o6, o7, o8, o9], by simp -implicitDefEqProofs only [go_sem, r5, o4, o5, c4, c5, o6, o7, o8, o9], by simp -implicitDefEqProofs only [go_sem, o4, o5, c4, c5, o6, o7, o8, o9], by simp -implicitDefEqProofs only [go_sem, r3, o4, o5, c4, c5, o6, o7, o8, o9], by simp -implicitDefEqProofs only [go_sem, o4, o5, c4, c5, o6, o7, o8, o9], by simp -implicitDefEqProofs only [go_sem, o4, o5, c4, c5, o6, o7, o8, o9], by simp -implicitDefEqProofs only [go_sem, o4, o5, c4, c5, o6, o7, o8, o9]; rfl, Keep.refl _ _, owL, EL⟩ ?_
 rintro n f h' ⟨k, hn, x1, x3, x5, x7, x8, x34, x35, x36, kp, o', ex⟩
 have hwl : (wrM m s).length ≤ 20 := Nat.le_trans (List.length_filter_le _ _) h20
 have hlen : (strs (imgK m s k)).length = (baseOf m).length := by rw [List.length_map, imgK_len]
 have gg7 := kp.2.1 b7 _ ap7 g7
 have gg1 := ex.2.g b1 _ g1
 have gg3 := ex.2.g b3 _ g3
 have vc := o'.sl.vcl
 by_cases hk : k < (wrM m s).length
 rotate_left
 ·have e : k = (wrM m s).length := by omega
  subst e
  have e9 : imgK m s (wrM m s).length = foldV m s := by unfold imgK foldV; rw [List.take_length]
  rw [e9] at o'
  simp -implicitDefEqProofs only [go_sem, x1, x3, x5, x7, x8, x34, x35, x36, Int.ofNat_lt, Nat.lt_irrefl, vc, o4, o5, c4, c5, o6, o7, o8, o9]
  exact ⟨E1.trans ex, (o'.back E1).fre⟩
 have hmx := List.getElem_mem hk
 obtain ⟨hkk, hsr, hds, h8⟩ := fo.x hmx
 obtain ⟨_, _, bd, od, e', hc', q2, q3'⟩ := (f8.keep kp apw).sl
 rw [ll] at e' q2
 simp only [Value.slice.injEq, true_and] at e'
 obtain ⟨rfl, rfl⟩ := e'
 have d1 := q3' k ((wrM m s)[k]).cells (by simp [hk])
 simp -implicitDefEqProofs only [go_sem, x34, x35, x36, Int.ofNat_lt, Int.natCast_nonneg, hk, q2, d1, o4, o5, c4, c5, o6, o7, o8, o9]
 intro b10 hb10 n10
 have e10 := (Ext.refl h').set n10 ⟨((wrM m s)[k]).cells, 4⟩
 have gb7 := e10.2.g b7 _ gg7
 have gb1 := e10.2.g b1 _ gg1
 have gb3 := e10.2.g b3 _ gg3
 have g10 : (h'.set b10 ⟨((wrM m s)[k]).cells, 4⟩).get b10 = some ⟨((wrM m s)[k]).cells, 4⟩ := H.set_get_same _ _ _
 have fmm := (fmL.keep kp apm).ext e10
 have o10' := o'.ext e10
 have ex10 := ex.set n10 ⟨((wrM m s)[k]).cells, 4⟩
 have kp10 := kp.set (b := b10) (.inr (by cases hq : hL.get b10 with | none => rfl | some ob => exact absurd n10 (kp.2.2.2 b10 (by rw [hq]; simp)))) ⟨((wrM m s)[k]).cells, 4⟩
 simp -implicitDefEqProofs only [go_sem, hb10, o4, o5, c4, c5, o6, o7, o8, o9]
 generalize hX : h'.set b10 ⟨((wrM m s)[k]).cells, 4⟩ = hx at e10 gb7 gb1 gb3 g10 fmm o10' ex10 kp10 ⊢
 simp -implicitDefEqProofs only [go_sem, x8, ldc_get g10, o4, o5, c4, c5, o6, o7, o8, o9]
 refine (view1_pc (to := ((wrM m s)[k]).dst) fo fmm gb7 gb3).use ?_
 have hsucc := imgK_succ m s hk
 by_cases hd : doneB m s ((wrM m s)[k]).dst = true
 ·rw [if_pos hd] at hsucc
  simp -implicitDefEqProofs only [go_sem, hd, x36, wrap_i64 (show -(9223372036854775808 : Int) ≤ ((k : Int) + 1) by omega) (show ((k : Int) + 1) < 9223372036854775808 by omega), o4, o5, c4, c5, o6, o7, o8, o9]
  refine ⟨n - 1, by omega, _, Ext.refl _, k + 1, by omega, x1, x3, x5, x7, x8, x34, x35, rfl, kp10, by rw [hsucc]; exact o10', ex10⟩
 rw [if_neg hd] at hsucc
 have hd' : doneB m s ((wrM m s)[k]).dst = false := by simpa using hd
 simp -implicitDefEqProofs only [go_sem, hd', x1, x3, x5, x7, ldc_get g10, ldc_get gb1, ldc_get gb3, ldc_get gb7, f7.sl.vcl, o4, o5, c4, c5, o6, o7, o8, o9]
 refine (made_pc (hv0.ext (E1.trans ex10)) (hst0.ext ex10) fo fmm hmx).use ?_
 obtain ⟨d, hd2⟩ : ∃ d : Nat, ((wrM m s)[k]).dst = d := ⟨((wrM m s)[k]).dst.toNat, by omega⟩
 rw [hd2, Int.toNat_natCast] at hsucc
 have hdl : d < (baseOf m).length := by omega
 obtain ⟨bs, cs, z, hus, hbs, nbs, gs, hst, o3⟩ := own_put o10' (k := d) (by rw [hlen]; exact hdl) (r := [str (madeM m s (wrM m s)[k])]) rfl rfl
 have hsy : strs (imgK m s (k + 1)) = (strs (imgK m s k)).set d [str (madeM m s (wrM m s)[k])] := by rw [hsucc, strs, strs, List.map_set]
 rw [hlen] at hus
 have hob : ob v5 = some bs := by rw [hus]; rfl
 simp -implicitDefEqProofs only [go_sem, Sub.refl, x1, x3, x5, x36, hus, hd2, hdl, hlen, Int.natCast_nonneg, Int.ofNat_lt, Int.toNat_natCast, hbs, hst, wrap_i64 (show -(9223372036854775808 : Int) ≤ ((k : Int) + 1) by omega) (show ((k : Int) + 1) < 9223372036854775808 by omega), o4, o5, c4, c5, o6, o7, o8, o9]
 exact ⟨n - 1, by omega, _, Ext.refl _, k + 1, by omega, x7, x8, x34, x35, rfl, by rw [← hus]; exact kp10.set (.inl hob) _, by rw [hsy, ← hus]; exact o3, ex10.set' nbs _⟩
end Go.Proofs.YthjbhdmjfakfaaaGreatDoor