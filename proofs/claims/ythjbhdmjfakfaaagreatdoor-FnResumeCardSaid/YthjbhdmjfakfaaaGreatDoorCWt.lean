/- A helper of this seat's claims (contracts of the functions): what it shows is shown for every input that its statements name, on no other condition. -/
import Derived.Test.YthjbhdmjfakfaaaGreatDoorCWs
set_option linter.unusedVariables false
set_option linter.unusedSimpArgs false
set_option maxRecDepth 100000
namespace Go.Proofs.YthjbhdmjfakfaaaGreatDoor
open Go.KH

def b_spec_l03Sync : C := (jo [⟨(some 1), none, .box (.t 0)⟩, ⟨(some 2), none, .alloc [nils, nils]⟩]
 (jo [⟨(some 5), none, .bsl 0 [] []⟩, jf 6 0 1, jl 7 6, ⟨(some 8), none, .app 1 16 (.t 5) (.t 7)⟩, q 9 (.build [nils, nils] [(0, 1, (.t 8))]), ⟨(some 3), none, .alloc [nils, nils]⟩, js 2 3 9]
 (.seq (jo [q 4 (.mv (.c (i64 0)))]
 (.block 0 (.loop (.seq (jo [jm 10 4, jf 11 1 1, jl 12 11, q 13 (.len (.t 12)), jb 14 .lss 10 13]
 (.cond (.t 14) .skip (.exit 0)))
 (.seq (.block 1 (.dops true (.tk (jf 17 0 3) (.tk (jl 18 17) (.tk (jf 19 1 1) (.tk (jl 20 19) (.tk (jm 21 4) (.tk (q 22 (.idx 2 (.t 20) (.t 21))) (.tk (jf 23 0 22) (.tk (jl 24 23) (.tk (jf 25 1 1) (.tk (jl 26 25) (.tk (jm 27 4) (.tk (q 28 (.idx 2 (.t 26) (.t 27))) (.tk (jf 29 1 28) (.tk (jl 30 29) (.tk (q 31 (.idx 1 (.t 18) (.t 24))) (.lt (js 1 31 30) .nil))))))))))))))))))
 (.ops [jm 15 4, jk 16 .add 15 1, jm 4 16]))))))
 (jo [jd 32 2 3, js 2 2 32]
 .ret))))
theorem w_spec_l03Sync : Wk Tryz.prog 198 33 [.cell 2 true 2] b_spec_l03Sync := Wk.of mixedOrders Tryz.func198 (by kernel_rfl) (by kernel_rfl)

set_option maxHeartbeats 1600000 in
theorem l03Sync_ac {h : H} {vs vd : Value} {f : UFlash} (hv : FlR h f vs vd) (hs : f.fin1) (hp : ∀ i, (hi : i < f.dirty.length) → 0 ≤ f.dirty[i].place ∧ f.dirty[i].place < f.sec.length) : AC Tryz.prog 198 [.agg #[vs, vd]] h fun r h' => Ext h h' ∧ ∃ us ud, r = .agg #[us, ud] ∧ FlO h h' (flashSync f) us ud := by
 obtain ⟨a1, c1, a2, c2, rfl, rfl⟩ := hv.shape
 have l1 : (sects f.sec).length = f.sec.length := by simp
 have l2 : (f.dirty.map UDirty.cells).length = f.dirty.length := by simp
 obtain ⟨hs1, hs2⟩ := hs
 refine w_spec_l03Sync (by simp) ?_
 unfold b_spec_l03Sync
 simp -implicitDefEqProofs only [go_sem]
 intro b1 hb_b1 n_b1
 simp -implicitDefEqProofs only [go_sem, hb_b1]
 intro b2 hb_b2 m0_b2
 obtain ⟨z_b2_b1, y_b2_b1, n_b2⟩ := fne m0_b2
 simp only [H.set_base] at hb_b2
 have E0 := (Ext.set' (Ext.set' (Ext.refl h) n_b1 ⟨[.slice a1 f.sec.length c1, .slice a2 f.dirty.length c2], 2⟩) n_b2 ⟨[nils, nils], 2⟩)
 simp -implicitDefEqProofs only [go_sem, hb_b1, hb_b2, z_b2_b1, y_b2_b1]
 have g1 : ((h.set b1 ⟨[.slice a1 f.sec.length c1, .slice a2 f.dirty.length c2], 2⟩).set b2 ⟨[nils, nils], 2⟩).get b1 = some ⟨[.slice a1 f.sec.length c1, .slice a2 f.dirty.length c2], 2⟩ := by simp -implicitDefEqProofs only [go_sem, hb_b1, hb_b2, z_b2_b1, y_b2_b1]
 generalize hH : (h.set b1 ⟨[.slice a1 f.sec.length c1, .slice a2 f.dirty.length c2], 2⟩).set b2 ⟨[nils, nils], 2⟩ = hh at E0 g1 ⊢
 have g2 : hh.get b2 = some ⟨[nils, nils], 2⟩ := by rw [← hH]; exact H.set_get_same _ _ _
 have hb2 : hh.base ≤ b2 := by rw [← hH]; simp only [H.set_base]; exact hb_b2
 have hvh := hv.ext E0
 skip
 intro b5 hb5 n5
 have e5 := fun x => (Ext.refl hh).set n5 x
 have sr1 : srcOf (hh.set b5 ⟨[], 0⟩) 1 (.slice a1 f.sec.length c1) = some ((sects f.sec).length, (sects f.sec).flatten) := (hvh.1.ext (e5 _)).src (sects_wid _) (by decide)
 have g1' := (e5 ⟨[], 0⟩).2.g b1 _ g1
 simp -implicitDefEqProofs only [go_sem, ldc_get g1', sr1]
 refine app0B (e5 _) (H.set_get_same _ _ _) n5 hb5 (sects_wid _) (sects_one _) (by rw [l1]; omega) ?_
 intro us b' x nb hb' hob w1 e1
 have q1 := w1.sl.one
 have q2 := w1.sl.vcl
 have hg1 := e1.2.g b1 _ g1
 have hbX : ((hh.set b5 ⟨[], 0⟩).set b' x).base = hh.base := rfl
 generalize hX : (hh.set b5 ⟨[], 0⟩).set b' x = hx at w1 e1 hg1 hbX ⊢
 simp -implicitDefEqProofs only [go_sem, q1, q2]
 intro b3 hb3 n3
 have n3h := e1.none n3
 have nus : ob us ≠ some b3 := fun e => by obtain ⟨_, _, z, hg⟩ := w1.ob_new e; rw [hg] at n3; cases n3
 have e3 := fun y => e1.set n3 y
 have hb3h : hh.base ≤ b3 := by rw [← hbX]; exact hb3
 simp -implicitDefEqProofs only [go_sem, q1, q2, hb3]
 refine loopW_of (fun m f1 h' => ∃ k, m + k = f.dirty.length ∧ h'.get b3 = some ⟨[us, nils], 2⟩ ∧ Own hh h' us 1 (sects (syncS f.sec (f.dirty.take k))) ∧ Ext hh h' ∧ f1 1 = ptr b1 0 ∧ f1 2 = ptr b2 0 ∧ f1 3 = ptr b3 0 ∧ f1 4 = i64 k) f.dirty.length
  ⟨0, by simp, H.set_get_same _ _ _, by simpa [syncS] using w1.setOb nus _, e3 _, by simp -implicitDefEqProofs only [go_sem], by simp -implicitDefEqProofs only [go_sem], by simp -implicitDefEqProofs only [go_sem], by simp -implicitDefEqProofs only [go_sem]; rfl⟩ ?_
 clear w1 e1 hg1 e3 q1 q2 hX hbX hob hb' nb n3
 rintro m f1 h' ⟨k, hm, g3, w1, e1, f01, f02, f03, f04⟩
 have hg1 := e1.2.g b1 _ g1
 by_cases hk : k < f.dirty.length
 rotate_left
 ·have e : k = f.dirty.length := by omega
  subst e
  rw [List.take_length] at w1
  have q1 := w1.sl.one
  have gg := e1.2.g b2 _ g2
  have hbb : h'.base ≤ b2 := by rw [e1.1]; exact hb2
  simp -implicitDefEqProofs only [go_sem, f01, f02, f03, f04, Int.ofNat_lt, Nat.lt_irrefl, ldc_get hg1, ldc_get g3, stc_get gg, hbb, q1]
  have nb2 : ob us ≠ some b2 := fun e => by rw [(w1.ob_new e).1] at g2; cases g2
  exact ⟨(E0.trans e1).set' n_b2 _, us, nils, rfl, (w1.setOb nb2 _).back E0, Own.nil _ _ _, fun q _ h => (by cases h)⟩
 obtain ⟨_, _, bd, od, e', hc', r2, r3⟩ := (hvh.2.ext e1)
 rw [l2] at e' r2
 simp only [Value.slice.injEq, true_and] at e'
 obtain ⟨rfl, rfl⟩ := e'
 have d1 := r3 k (f.dirty[k]).cells (by simp [hk])
 have d2 := ldc_part d1 0 1 (by omega)
 have d3 := ldc_part d1 1 1 (by omega)
 simp only [List.drop_zero, List.drop_succ_cons, List.take_succ_cons, List.take_zero, Nat.add_zero] at d2 d3
 have hpk := hp k hk
 obtain ⟨q, hq⟩ : ∃ q : Nat, f.dirty[k].place = q := ⟨f.dirty[k].place.toNat, by omega⟩
 rw [hq] at d2
 have hq' : q < f.sec.length := by omega
 have hlen : (sects (syncS f.sec (f.dirty.take k))).length = f.sec.length := by simp [syncS_len]
 obtain ⟨bs, cs, z, hus, hbs, nbs, gs, hst, o3⟩ := own_put w1 (k := q) (by rw [hlen]; omega) (r := [str f.dirty[k].data]) rfl rfl
 have hsb : bs ≠ b3 := fun e => nus (by rw [hus, ← e]; rfl)
 have hsy : sects (syncS f.sec (f.dirty.take (k + 1))) = (sects (syncS f.sec (f.dirty.take k))).set q [str f.dirty[k].data] := by
  rw [syncS_take _ _ _ hk, hq, Int.toNat_natCast, sects, List.map_set]
 rw [hlen] at hus
 rw [hus] at g3
 have k1 := Int.natCast_nonneg q
 simp -implicitDefEqProofs only [go_sem, f01, f03, f04, ldc_get hg1, ldc_get g3, Int.ofNat_lt, Int.natCast_nonneg, hk, hq', r2, d2, d3, hbs, hst, wrap_i64 (show -(9223372036854775808 : Int) ≤ ((k : Int) + 1) by omega) (show ((k : Int) + 1) < 9223372036854775808 by omega)]
 refine ⟨m - 1, by omega, _, Ext.refl _, k + 1, by omega, ?_, ?_, e1.set' nbs _, f02, rfl⟩
 ·rw [H.set_get_ne _ _ _ _ (Ne.symm hsb), hus]; exact g3
 ·rw [hsy]; exact o3
def b_spec_FlashSync : C := (jo [⟨(some 1), none, .box (.t 0)⟩, ⟨(some 2), none, .alloc [nils, nils, (str []), (i64 0)]⟩]
 (.seq (jo [jd 3 2 1, jc 4 197 [(.t 3)], q 5 (.un .not (.t 4))]
 (.cond (.t 5) (jo [jc 6 132 [(.c (i64 1))], js 4 2 6]
 .ret) .skip))
 (jo [jd 7 2 1, jc 8 198 [(.t 7)], q 9 (.build [nils, nils, (str []), (i64 0)] [(0, 2, (.t 8))]), js 4 2 9]
 .ret)))
theorem w_spec_FlashSync : Wk Tryz.prog 130 10 [.cell 2 true 4] b_spec_FlashSync := Wk.of mixedOrders Tryz.func130 (by kernel_rfl) (by kernel_rfl)

theorem specFlashSync_ac {h : H} {vs vd : Value} {f : UFlash} (hv : FlR h f vs vd) (ho : flashOk f) : AC Tryz.prog 130 [.agg #[vs, vd]] h fun r h' => Ext h h' ∧ ∃ us ud, r = .agg #[us, ud, str [], i64 0] ∧ FlO h h' (flashSync f) us ud := by
 have o1 := hv.1.one
 have o2 := hv.2.one
 have hsm := flashOk_small ho
 skip
 refine w_spec_FlashSync (by simp) ?_
 unfold b_spec_FlashSync
 simp -implicitDefEqProofs only [go_sem, o1, o2]
 intro b1 hb_b1 n_b1
 simp -implicitDefEqProofs only [go_sem, o1, o2, hb_b1]
 intro b2 hb_b2 m0_b2
 obtain ⟨z_b2_b1, y_b2_b1, n_b2⟩ := fne m0_b2
 simp only [H.set_base] at hb_b2
 simp -implicitDefEqProofs only [go_sem, o1, o2, hb_b1, hb_b2, z_b2_b1, y_b2_b1]
 refine (specFlashRight_pc (hv.ext (((Ext.refl _).set' n_b1 _).set' n_b2 _)) ⟨by omega, by omega⟩).use ?_
 simp -implicitDefEqProofs only [go_sem, ho, o1, o2, hb_b1, hb_b2, z_b2_b1, y_b2_b1]
 refine AC_of (l03Sync_ac (hv.ext (((Ext.refl _).set' n_b1 _).set' n_b2 _)) ⟨by omega, by omega⟩ (fun i hi => by have := (ho.2.2.2 i hi).1; omega)) ?_
 rintro _ h1 - ⟨e1, us, ud, rfl, o⟩
 have p1 := o.1.sl.one
 have p2 := o.2.1.sl.one
 have g2 := e1.2.g b2 _ (by simp -implicitDefEqProofs only [go_sem, o1, o2, hb_b1, hb_b2, z_b2_b1, y_b2_b1]; rfl)
 have hbb := e1.1
 simp only [H.set_base] at hbb
 simp -implicitDefEqProofs only [go_sem, p1, p2, stc_get g2, hbb, o1, o2, hb_b1, hb_b2, z_b2_b1, y_b2_b1]
 exact ⟨(((((Ext.refl _).set' n_b1 _).set' n_b2 _)).trans e1).set' n_b2 _, us, ud, rfl, FlO.back (FlO.setK o (H.set_get_same _ _ _) _) (((Ext.refl _).set' n_b1 _).set' n_b2 _)⟩
def b_spec_l03Put : C := (jo [⟨(some 3), none, .box (.t 0)⟩, ⟨(some 6), none, .alloc [nils, nils]⟩]
 (jo [jd 9 2 3, jc 10 129 [(.t 9)], ⟨(some 7), none, .alloc [nils, nils]⟩, js 2 7 10]
 (.seq (jo [q 8 (.mv (.c (i64 0)))]
 (.block 0 (.loop (.seq (jo [jm 11 8, jf 12 1 7, jl 13 12, q 14 (.len (.t 13)), jb 15 .lss 11 14]
 (.cond (.t 15) .skip (.exit 0)))
 (.seq (.block 1 (jo [jf 18 1 7, jl 19 18, jm 20 8, q 21 (.idx 2 (.t 19) (.t 20)), jf 22 0 21, jl 23 22, jm 24 1, jb 25 .eql 23 24]
 (.cond (.t 25) (jo [jf 26 1 7, jl 27 26, jm 28 8, jm 29 2, q 30 (.idx 2 (.t 27) (.t 28)), jf 31 1 30, js 1 31 29]
 (jo [jd 32 2 7, js 2 6 32]
 .ret)) .skip)))
 (.ops [jm 16 8, jk 17 .add 16 1, jm 8 17]))))))
 (jo [jf 33 1 7, jl 34 33, jm 35 1, jm 36 2, q 37 (.build [(i64 0), (str [])] [(0, 1, (.t 35)), (1, 1, (.t 36))]), ⟨(some 38), none, .bsl 1 [(i64 0), (str [])] [(0, 2, (.t 37))]⟩, ⟨(some 39), none, .app 2 24 (.t 34) (.t 38)⟩, jf 40 1 7, js 1 40 39]
 (jo [jd 41 2 7, js 2 6 41]
 .ret)))))
theorem w_spec_l03Put : Wk Tryz.prog 199 42 [.cell 6 true 2] b_spec_l03Put := Wk.of mixedOrders Tryz.func199 (by kernel_rfl) (by kernel_rfl)

set_option maxHeartbeats 1600000 in
theorem l03Put_ac {h : H} {vs vd : Value} {f : UFlash} {n : Int} {d : List UInt8} (hv : FlR h f vs vd) (hs : f.fin1) (hs2 : f.dirty.length ≤ 1000) : AC Tryz.prog 199 [.agg #[vs, vd], i64 n, str d] h fun r h' => Ext h h' ∧ ∃ us ud, r = .agg #[us, ud] ∧ FlO h h' (flashPut f n d) us ud := by
 have o1 := hv.1.one
 have o2 := hv.2.one
 have l2 : (f.dirty.map UDirty.cells).length = f.dirty.length := by simp
 skip
 refine w_spec_l03Put (by simp) ?_
 unfold b_spec_l03Put
 simp -implicitDefEqProofs only [go_sem, o1, o2]
 intro b3 hb_b3 n_b3
 simp -implicitDefEqProofs only [go_sem, o1, o2, hb_b3]
 intro b6 hb_b6 m0_b6
 obtain ⟨z_b6_b3, y_b6_b3, n_b6⟩ := fne m0_b6
 simp only [H.set_base] at hb_b6
 have E0 := (Ext.set' (Ext.set' (Ext.refl h) n_b3 ⟨[vs, vd], 2⟩) n_b6 ⟨[nils, nils], 2⟩)
 simp -implicitDefEqProofs only [go_sem, o1, o2, hb_b3, hb_b6, z_b6_b3, y_b6_b3]
 generalize hH : (h.set b3 ⟨[vs, vd], 2⟩).set b6 ⟨[nils, nils], 2⟩ = hh at E0 ⊢
 have g6 : hh.get b6 = some ⟨[nils, nils], 2⟩ := by rw [← hH]; exact H.set_get_same _ _ _
 have hb6 : hh.base ≤ b6 := by rw [← hH]; simp only [H.set_base]; exact hb_b6
 refine AC_of (l03Copy_ac (hv.ext E0) hs) ?_
 rintro _ h1 - ⟨e1, us, ud, rfl, o⟩
 have p1 := o.1.sl.one
 have p2 := o.2.1.sl.one
 skip
 simp -implicitDefEqProofs only [go_sem, p1, p2, o1, o2]
 intro b7 hb7 n7
 have hB := Box.of o e1 n7 hb7
 obtain ⟨xs, xd, gB, w1, w2, ap, nx1, nx2, n0, hbB, eB⟩ := hB
 rw [H.set_get_same] at gB
 simp only [Option.some.injEq, Ob.mk.injEq, List.cons.injEq, and_true] at gB
 obtain ⟨rfl, rfl⟩ := gB
 have gB : (h1.set b7 ⟨[us, ud], 2⟩).get b7 = some ⟨[us, ud], 2⟩ := H.set_get_same _ _ _
 obtain ⟨a2, c2, rfl⟩ := o.2.1.shape
 rw [l2] at w1 w2 gB nx2 ap p2 eB
 have p3 := o.1.sl.vcl
 simp -implicitDefEqProofs only [go_sem, p1, p2, hb7, l2, o1, o2]
 generalize hX : h1.set b7 ⟨[us, .slice a2 f.dirty.length c2], 2⟩ = hx at *
 have gg := eB.2.g b6 _ g6
 have hbx : hx.base ≤ b6 := by rw [eB.1]; exact hb6
 have ne67 : b6 ≠ b7 := fun e => by rw [e, n0] at g6; cases g6
 have fin : ∀ {cur : H} {f' : UFlash} {v1 v2 : Value}, FlO hh cur f' v1 v2 → Ext hh cur → Ext h (cur.set b6 ⟨[v1, v2], 2⟩) ∧ ∃ us ud, Value.agg #[v1, v2] = .agg #[us, ud] ∧ FlO h (cur.set b6 ⟨[v1, v2], 2⟩) f' us ud := fun o e => ⟨(E0.trans e).set' n_b6 _, _, _, rfl, FlO.back (FlO.setK o g6 _) E0⟩
 refine loopW_of (fun m f1 h' => ∃ k, m + k = f.dirty.length ∧ h' = hx ∧ f1 1 = i64 n ∧ f1 2 = str d ∧ f1 6 = ptr b6 0 ∧ f1 7 = ptr b7 0 ∧ f1 8 = i64 k ∧ ∀ i, (hi : i < f.dirty.length) → i < k → f.dirty[i].place ≠ n) f.dirty.length
  ⟨0, by simp, rfl, by simp -implicitDefEqProofs only [go_sem, o1, o2], by simp -implicitDefEqProofs only [go_sem, o1, o2], by simp -implicitDefEqProofs only [go_sem, o1, o2], by simp -implicitDefEqProofs only [go_sem, o1, o2], by simp -implicitDefEqProofs only [go_sem, o1, o2]; rfl, by omega⟩ ?_
 rintro m f1 h' ⟨k, hm, hhx, f01, f02, f06, f07, f08, hok⟩
 have hhx := hhx.symm
 subst hhx
 by_cases hk : k < f.dirty.length
 ·obtain ⟨_, _, bd, od, e', hc', r2, r3⟩ := w2.sl
  rw [l2] at e' r2
  simp only [Value.slice.injEq, true_and] at e'
  obtain ⟨rfl, rfl⟩ := e'
  have d1 := r3 k (f.dirty[k]).cells (by simp [hk])
  have d2 := ldc_part d1 0 1 (by omega)
  simp only [List.drop_zero, List.drop_succ_cons, List.take_succ_cons, List.take_zero, Nat.add_zero] at d2
  by_cases p : f.dirty[k].place = n
  ·rw [flashPut_at hk p (fun i hi => hok i (by omega) hi)]
   obtain ⟨b2, c, z, e2, hb2, nb2, g2, hst, o3⟩ := own_putD w2 hk d
   simp only [sl, Value.slice.injEq, true_and] at e2
   obtain ⟨rfl, rfl⟩ := e2
   rw [p] at hst o3
   have hne : b2 ≠ b7 := fun e => nx2 (by rw [← e]; rfl)
   have hne6 : b2 ≠ b6 := fun e => by rw [← e, nb2] at g6; cases g6
   simp only [asR_mk, Option.some.injEq, Prod.mk.injEq] at r2
   obtain ⟨rfl, rfl, -⟩ := r2
   rw [Nat.zero_add] at d2
   simp -implicitDefEqProofs only [go_sem, f01, f02, f06, f07, f08, ldc_get gB, Int.ofNat_lt, Int.natCast_nonneg, hk, d2, decide_eq_true p, hb2, hst, o1, o2]
   have gB2 : (hx.set b2 ⟨((f.dirty.set k ⟨n, d⟩).map UDirty.cells).flatten, z⟩).get b7 = some ⟨[us, sl b2 0 f.dirty.length c2], 2⟩ := by rw [H.set_get_ne _ _ _ _ (Ne.symm hne)]; exact gB
   have gg2 : (hx.set b2 ⟨((f.dirty.set k ⟨n, d⟩).map UDirty.cells).flatten, z⟩).get b6 = some ⟨[nils, nils], 2⟩ := by rw [H.set_get_ne _ _ _ _ (Ne.symm hne6)]; exact gg
   simp -implicitDefEqProofs only [go_sem, f06, f07, ldc_get gB2, stc_get gg2, hbx, p1, eq_false hne, eq_false (Ne.symm hne), eq_false hne6, eq_false (Ne.symm hne6), o1, o2]
   exact fin (f' := { f with dirty := f.dirty.set k ⟨n, d⟩ }) (v2 := sl b2 0 f.dirty.length c2) ⟨w1.setOb (fun e => ap _ e rfl) _, o3, ap⟩ (eB.set' nb2 _)
  ·simp -implicitDefEqProofs only [go_sem, f01, f02, f06, f07, f08, ldc_get gB, Int.ofNat_lt, Int.natCast_nonneg, hk, r2, d2, p, wrap_i64 (show -(9223372036854775808 : Int) ≤ ((k : Int) + 1) by omega) (show ((k : Int) + 1) < 9223372036854775808 by omega), o1, o2]
   refine ⟨m - 1, by omega, _, Ext.refl _, k + 1, by omega, rfl, rfl, fun i hi1 hi2 => ?_⟩
   by_cases e : i = k
   ·subst e; exact p
   ·exact hok i hi1 (by omega)
 ·have e : k = f.dirty.length := by omega
  subst e
  rw [flashPut_new (fun i hi => hok i hi hi)]
  simp -implicitDefEqProofs only [go_sem, f01, f02, f06, f07, f08, ldc_get gB, Int.ofNat_lt, Nat.lt_irrefl, o1, o2]
  intro b9 hb9 n9
  have hne : b7 ≠ b9 := fun e => by rw [← e, gB] at n9; cases n9
  have e9 := fun x => (Ext.refl hx).set n9 x
  simp -implicitDefEqProofs only [go_sem, (eq_false hne), f07, ldc_get gB, o1, o2]
  refine appW_ownB (h0 := hh) (by_ := 24) (rows := f.dirty.map UDirty.cells) (new := [UDirty.cells ⟨n, d⟩]) (fun c hc => ?_) (w2.ext (e9 _)) (by simp -implicitDefEqProofs only [go_sem, o1, o2]; rfl) (by intro r hr; simp at hr; subst hr; rfl) rfl (by simp; omega) ?_ (by simp)
  ·by_cases e : c = b9
   ·subst e; exact eB.none n9
   ·rw [H.set_get_ne _ _ _ _ e] at hc; exact eB.none hc
  ·intro v' b' x nb' hb' hob o3
   have nb2 : b' ≠ b7 := fun e => by
    subst e
    rcases hb' with hb' | hb'
    ·exact nx2 hb'
    ·rw [H.set_get_ne _ _ _ _ hne, gB] at hb'; cases hb'
   have nb6 : b' ≠ b6 := fun e => by rw [← e, nb'] at g6; cases g6
   have ne96 : b6 ≠ b9 := fun e => by rw [← e, gg] at n9; cases n9
   have gX : ((hx.set b9 ⟨[i64 n, str d], 2⟩).set b' x).get b7 = some ⟨[us, .slice a2 f.dirty.length c2], 2⟩ := by rw [H.set_get_ne _ _ _ _ (Ne.symm nb2), H.set_get_ne _ _ _ _ hne]; exact gB
   have gY : ∀ y, (((hx.set b9 ⟨[i64 n, str d], 2⟩).set b' x).set b7 y).get b6 = some ⟨[nils, nils], 2⟩ := fun y => by rw [H.set_get_ne _ _ _ _ ne67, H.set_get_ne _ _ _ _ (Ne.symm nb6), H.set_get_ne _ _ _ _ ne96]; exact gg
   have q1 := o3.sl.one
   have q2 := o3.sl.vcl
   have hb7' : hx.base ≤ b7 := by rw [← hX]; exact hb7
   have hnv : ob us ≠ some b' := fun e => by
    rcases hb' with hb' | hb'
    ·exact ap _ e hb'
    ·obtain ⟨_, _, z, hg⟩ := w1.ob_new e
     rw [H.set_get_ne _ _ _ _ (fun q => by rw [← q] at n9; rw [hg] at n9; cases n9), hg] at hb'
     cases hb'
   have hnv3 : ob us ≠ some b9 := fun e => by
    obtain ⟨_, _, z, hg⟩ := w1.ob_new e
    rw [hg] at n9; cases n9
   have nbv : ob v' ≠ some b7 := fun e => nb2 (hob _ e).symm
   have o3' : Own hh ((hx.set b9 ⟨[i64 n, str d], 2⟩).set b' x) v' 2 ((f.dirty ++ [UDirty.mk n d]).map UDirty.cells) := by simpa using o3
   have F : ∀ y, FlO hh (((hx.set b9 ⟨[i64 n, str d], 2⟩).set b' x).set b7 y) (UFlash.mk f.sec (f.dirty ++ [UDirty.mk n d])) us v' := fun y =>
    ⟨((w1.setOb hnv3 _).setOb hnv _).setOb nx1 _, o3'.setOb nbv _, fun q h1 h2 => hnv (by rw [h1, hob q h2])⟩
   have eX : ∀ y, Ext hh (((hx.set b9 ⟨[i64 n, str d], 2⟩).set b' x).set b7 y) := fun y => ((eB.set n9 _).set' nb' _).set' n0 _
   have zne : (b7 = b6) = False := eq_false (Ne.symm ne67)
   have zne' : (b6 = b7) = False := eq_false ne67
   have gZ : ((hx.set b9 ⟨[i64 n, str d], 2⟩).set b' x).get b6 = some ⟨[nils, nils], 2⟩ := by rw [H.set_get_ne _ _ _ _ (Ne.symm nb6), H.set_get_ne _ _ _ _ ne96]; exact gg
   simp -implicitDefEqProofs only [go_sem, f06, f07, stc_get gX, q1, q2, p1, hb7', zne, zne', hbx, stc_get gZ, o1, o2]
   rw [H.set_comm _ _ _ (Ne.symm ne67)]
   exact fin (F _) (eX _)
def b_spec_FlashWrite : C := (jo [⟨(some 3), none, .box (.t 0)⟩, ⟨(some 6), none, .alloc [nils, nils, (str []), (i64 0)]⟩]
 (.seq (jo [jm 7 2, q 8 (.slen (.t 7)), jk 9 .gtr 8 8000]
 (.cond (.t 9) (jo [jc 10 132 [(.c (i64 2))], js 4 6 10]
 .ret) .skip))
 (.seq (jo [jd 11 2 3, jc 12 197 [(.t 11)], q 13 (.un .not (.t 12)), jm 14 13, qg 15 14 false (.mv (.t 2)), qg 16 14 false (.slen (.t 15)), qg 17 14 false (.bin .gtr (.t 16) (.c (i64 96))), q 18 (.pick (.t 14) (.c (.bool true)) (.t 17))]
 (.cond (.t 18) (jo [jc 19 132 [(.c (i64 1))], js 4 6 19]
 .ret) .skip))
 (.seq (jo [jm 20 1, jf 21 0 3, jl 22 21, q 23 (.len (.t 22)), jk 24 .sub 23 1, jc 25 118 [(.t 20), (.c (i64 0)), (.t 24)], q 26 (.un .not (.t 25))]
 (.cond (.t 26) (jo [jc 27 132 [(.c (i64 8))], js 4 6 27]
 .ret) .skip))
 (jo [jd 28 2 3, jm 29 1, jm 30 2, jc 31 199 [(.t 28), (.t 29), (.t 30)], q 32 (.build [nils, nils, (str []), (i64 0)] [(0, 2, (.t 31))]), js 4 6 32]
 .ret)))))
theorem w_spec_FlashWrite : Wk Tryz.prog 131 33 [.cell 6 true 4] b_spec_FlashWrite := Wk.of mixedOrders Tryz.func131 (by kernel_rfl) (by kernel_rfl)

theorem specFlashWrite_ac {h : H} {vs vd : Value} {f : UFlash} {n : Int} {d : List UInt8} (hv : FlR h f vs vd) (ho : flashOk f) (hn : 0 ≤ n ∧ n < f.sec.length) (hd : d.length ≤ 96) : AC Tryz.prog 131 [.agg #[vs, vd], i64 n, str d] h fun r h' => Ext h h' ∧ ∃ us ud, r = .agg #[us, ud, str [], i64 0] ∧ FlO h h' (flashPut f n d) us ud := by
 obtain ⟨a1, c1, a2, c2, rfl, rfl⟩ := hv.shape
 have hsm := flashOk_small ho
 refine w_spec_FlashWrite (by simp) ?_
 unfold b_spec_FlashWrite
 simp -implicitDefEqProofs only [go_sem]
 intro b1 hb_b1 n_b1
 simp -implicitDefEqProofs only [go_sem, hb_b1]
 intro b2 hb_b2 m0_b2
 obtain ⟨z_b2_b1, y_b2_b1, n_b2⟩ := fne m0_b2
 simp only [H.set_base] at hb_b2
 simp -implicitDefEqProofs only [go_sem, show ¬ (8000 : Int) < (d.length : Int) by omega, hb_b1, hb_b2, z_b2_b1, y_b2_b1]
 refine (specFlashRight_pc (hv.ext (((Ext.refl _).set' n_b1 _).set' n_b2 _)) ⟨by omega, by omega⟩).use ?_
 simp -implicitDefEqProofs only [go_sem, ho, show ¬ (96 : Int) < (d.length : Int) by omega, wrap_i64 (show -(9223372036854775808 : Int) ≤ ((f.sec.length : Int) - 1) by omega) (show ((f.sec.length : Int) - 1) < 9223372036854775808 by omega), hb_b1, hb_b2, z_b2_b1, y_b2_b1]
 refine (l03Is_pc _ _ _ _).use ?_
 simp -implicitDefEqProofs only [go_sem, hn.1, show n ≤ (f.sec.length : Int) - 1 by omega, hb_b1, hb_b2, z_b2_b1, y_b2_b1]
 refine AC_of (l03Put_ac (hv.ext (((Ext.refl _).set' n_b1 _).set' n_b2 _)) ⟨by omega, by omega⟩ (by omega)) ?_
 rintro _ h1 - ⟨e1, us, ud, rfl, o⟩
 have p1 := o.1.sl.one
 have p2 := o.2.1.sl.one
 have g2 := e1.2.g b2 _ (by simp -implicitDefEqProofs only [go_sem, hb_b1, hb_b2, z_b2_b1, y_b2_b1]; rfl)
 have hbb := e1.1
 simp only [H.set_base] at hbb
 simp -implicitDefEqProofs only [go_sem, p1, p2, stc_get g2, hbb, hb_b1, hb_b2, z_b2_b1, y_b2_b1]
 exact ⟨(((((Ext.refl _).set' n_b1 _).set' n_b2 _)).trans e1).set' n_b2 _, us, ud, rfl, FlO.back (FlO.setK o (H.set_get_same _ _ _) _) (((Ext.refl _).set' n_b1 _).set' n_b2 _)⟩
def b_spec_l04Do : C := (jo [⟨(some 2), none, .box (.t 0)⟩, ⟨(some 4), none, .alloc [nils, nils, (str []), (i64 0)]⟩]
 (jo [jd 7 2 2, jc 8 129 [(.t 7)], q 9 (.build [nils, nils, (str []), (i64 0)] [(0, 2, (.t 8))]), ⟨(some 5), none, .alloc [nils, nils, (str []), (i64 0)]⟩, js 4 5 9]
 (.seq (jo [q 6 (.mv (.c (i64 0)))]
 (.block 0 (.loop (.seq (jo [jm 10 6, jm 11 1, q 12 (.len (.t 11)), jb 13 .lss 10 12, jm 14 13, qg 15 14 true (.fld 3 (.t 5)), qg 16 14 true (.ld false 1 (.t 15)), qg 17 14 true (.bin .eql (.t 16) (.c (i64 0))), q 18 (.pick (.t 14) (.t 17) (.c (.bool false)))]
 (.cond (.t 18) .skip (.exit 0)))
 (.seq (.block 1 (jo [jm 21 1, jm 22 6, q 23 (.idx 3 (.t 21) (.t 22)), jf 24 0 23, jl 25 24]
 (.cond (.t 25) (.ops [jf 26 0 5, jd 27 2 26, jc 28 130 [(.t 27)], js 4 5 28]) (.dops true (.tk (jf 29 0 5) (.tk (jd 30 2 29) (.tk (jm 31 1) (.tk (jm 32 6) (.tk (q 33 (.idx 3 (.t 31) (.t 32))) (.tk (jf 34 1 33) (.tk (jl 35 34) (.tk (jm 36 1) (.tk (jm 37 6) (.tk (q 38 (.idx 3 (.t 36) (.t 37))) (.tk (jf 39 2 38) (.tk (jl 40 39) (.sq (jc 41 131 [(.t 30), (.t 35), (.t 40)]) (.lt (js 4 5 41) .nil))))))))))))))))))
 (.ops [jm 19 6, jk 20 .add 19 1, jm 6 20]))))))
 (.seq (jo [jf 42 3 5, jl 43 42, jk 44 .neq 43 0]
 (.cond (.t 44) (jo [jf 45 3 5, jl 46 45, jc 47 132 [(.t 46)], js 4 4 47]
 .ret) .skip))
 (jo [jd 48 4 5, js 4 4 48]
 .ret)))))
theorem w_spec_l04Do : Wk Tryz.prog 68 49 [.cell 4 true 4] b_spec_l04Do := Wk.of mixedOrders Tryz.func68 (by kernel_rfl) (by kernel_rfl)

set_option maxHeartbeats 1600000 in
theorem l04Do_ac {h : H} {vs vd va : Value} {f : UFlash} {l : List UAct} (hv : FlR h f vs vd) (ha : Sl h va 3 (l.map UAct.cells)) (ho : flashOk f) (hl : ∀ a ∈ l, actOk f.sec.length a) (hn : l.length ≤ 1000) : AC Tryz.prog 68 [.agg #[vs, vd], va] h fun r h' => Ext h h' ∧ ∃ us ud, r = .agg #[us, ud, str [], i64 0] ∧ FlF h h' (actsDo f l) us ud := by
 have o1 := hv.1.one
 have o2 := hv.2.one
 have hsm := flashOk_small ho
 obtain ⟨aa, ca, rfl⟩ := ha.shape
 have ll : (l.map UAct.cells).length = l.length := by simp
 rw [ll] at ha
 skip
 refine w_spec_l04Do (by simp) ?_
 unfold b_spec_l04Do
 simp -implicitDefEqProofs only [go_sem, o1, o2, ll]
 intro b2 hb_b2 n_b2
 simp -implicitDefEqProofs only [go_sem, o1, o2, ll, hb_b2]
 intro b4 hb_b4 m0_b4
 obtain ⟨z_b4_b2, y_b4_b2, n_b4⟩ := fne m0_b4
 simp only [H.set_base] at hb_b4
 simp -implicitDefEqProofs only [go_sem, o1, o2, ll, hb_b2, hb_b4, z_b4_b2, y_b4_b2]
 refine AC_of (l03Copy_ac (hv.ext (((Ext.refl _).set' n_b2 _).set' n_b4 _)) ⟨by omega, by omega⟩) ?_
 rintro _ h1 - ⟨e1, us, ud, rfl, o⟩
 have p1 := o.1.sl.one
 have p2 := o.2.1.sl.one
 have E0 := (Ext.set' (Ext.set' (Ext.refl h) n_b2 ⟨[vs, vd], 2⟩) n_b4 ⟨[nils, nils, str [], i64 0], 4⟩)
 generalize hH : (h.set b2 ⟨[vs, vd], 2⟩).set b4 ⟨[nils, nils, str [], i64 0], 4⟩ = hh at e1 o E0 ⊢
 have g4 : hh.get b4 = some ⟨[nils, nils, str [], i64 0], 4⟩ := by rw [← hH]; exact H.set_get_same _ _ _
 have hb4 : hh.base ≤ b4 := by rw [← hH]; simp only [H.set_base]; exact hb_b4
 simp -implicitDefEqProofs only [go_sem, p1, p2, o1, o2, ll, hb_b2, hb_b4, z_b4_b2, y_b4_b2]
 intro b5 hb5 n5
 have n5h := e1.none n5
 have hb5h : hh.base ≤ b5 := by rw [← e1.1]; exact hb5
 have ne45 : b4 ≠ b5 := fun e => by rw [e, n5h] at g4; cases g4
 have st : ∀ {cur : H} {f' : UFlash} {v1 v2 : Value}, FlO hh cur f' v1 v2 → Ext hh cur → cur.get b5 = none ∨ (∃ x, cur.get b5 = some x ∧ ob v1 ≠ some b5 ∧ ob v2 ≠ some b5) → ∀ y, FlO hh (cur.set b5 y) f' v1 v2 ∧ Ext hh (cur.set b5 y) := fun {cur f' v1 v2} o e hc y => by
  have n1 : ob v1 ≠ some b5 := fun q => by
   rcases hc with hc | ⟨_, _, h1, _⟩
   ·obtain ⟨_, _, z, hg⟩ := o.1.ob_new q; rw [hc] at hg; cases hg
   ·exact h1 q
  have n2 : ob v2 ≠ some b5 := fun q => by
   rcases hc with hc | ⟨_, _, _, h1⟩
   ·obtain ⟨_, _, z, hg⟩ := o.2.1.ob_new q; rw [hc] at hg; cases hg
   ·exact h1 q
  exact ⟨⟨o.1.setOb n1 _, o.2.1.setOb n2 _, o.2.2⟩, e.set' n5h _⟩
 have hst := st o e1 (.inl n5)
 skip
 simp -implicitDefEqProofs only [go_sem, p1, p2, hb5, ll, o1, o2, ll]
 refine loopW_of (fun m f1 h' => ∃ k vs vd, m + k = l.length ∧ h'.get b5 = some ⟨[vs, vd, str [], i64 0], 4⟩ ∧ FlO hh h' (actsDo f (l.take k)) vs vd ∧ Ext hh h' ∧ f1 1 = .slice aa l.length ca ∧ f1 4 = ptr b4 0 ∧ f1 5 = ptr b5 0 ∧ f1 6 = i64 k) l.length
  ⟨0, us, ud, by simp, H.set_get_same _ _ _, by simpa [actsDo] using (hst _).1, (hst ⟨[us, ud, str [], i64 0], 4⟩).2, by simp -implicitDefEqProofs only [go_sem, o1, o2, ll], by simp -implicitDefEqProofs only [go_sem, o1, o2, ll], by simp -implicitDefEqProofs only [go_sem, o1, o2, ll], by simp -implicitDefEqProofs only [go_sem, o1, o2, ll]; rfl⟩ ?_
 rintro m f1 h' ⟨k, ws, wd, hm, g5, oo, ee, f01, f04, f05, f06⟩
 have q1 := oo.1.sl.one
 have q2 := oo.2.1.sl.one
 have hb5' : h'.base ≤ b5 := by rw [ee.1]; exact hb5h
 by_cases hk : k < l.length
 rotate_left
 ·have e : k = l.length := by omega
  subst e
  rw [List.take_length] at oo
  have g4'' := ee.2.g b4 _ g4
  have hb4' : h'.base ≤ b4 := by rw [ee.1]; exact hb4
  simp -implicitDefEqProofs only [go_sem, f01, f04, f05, f06, Int.ofNat_lt, Nat.lt_irrefl, ldc_get g5, stc_get g4'', hb4', q1, q2, o1, o2, ll]
  exact ⟨(E0.trans ee).set' n_b4 _, ws, wd, rfl, (FlO.back (FlO.setK oo g4 _) E0).f⟩
 obtain ⟨_, _, bd, od, e', hc', r2, r3⟩ := (ha.ext (E0.trans ee))
 rw [ll] at e' r2
 simp only [Value.slice.injEq, true_and] at e'
 obtain ⟨rfl, rfl⟩ := e'
 have d1 := r3 k (l[k]).cells (by simp [hk])
 have d2 := ldc_part d1 0 1 (by omega)
 have d3 := ldc_part d1 1 1 (by omega)
 have d4 := ldc_part d1 2 1 (by omega)
 simp only [List.drop_zero, List.drop_succ_cons, List.take_succ_cons, List.take_zero, Nat.add_zero] at d2 d3 d4
 have hok := actsDo_ok (l.take k) ho (fun a h => hl a (List.mem_of_mem_take h))
 have hlen := actsDo_len (l.take k) f
 have hnext := actsDo_take f l k hk
 have hak := hl _ (List.getElem_mem hk)
 unfold actDo at hnext
 cases hsy : (l[k]).sync with
 | true =>
  rw [if_pos hsy] at hnext
  simp -implicitDefEqProofs only [go_sem, f01, f04, f05, f06, Int.ofNat_lt, Int.natCast_nonneg, hk, r2, d2, ldc_get g5, hsy, q1, q2, o1, o2, ll]
  refine AC_of (specFlashSync_ac oo.r hok) ?_
  rintro _ h8 - ⟨e8, us8, ud8, rfl, o8⟩
  rw [← hnext] at o8
  have g58 := e8.2.g b5 _ g5
  have w1 := o8.1.sl.one
  have w2 := o8.2.1.sl.one
  have hb58 : h8.base ≤ b5 := by rw [e8.1]; exact hb5'
  have o9 := FlO.setK o8 g5 ⟨[us8, ud8, str [], i64 0], 4⟩
  simp -implicitDefEqProofs only [go_sem, f05, f06, stc_get g58, hb58, w1, w2, wrap_i64 (show -(9223372036854775808 : Int) ≤ ((k : Int) + 1) by omega) (show ((k : Int) + 1) < 9223372036854775808 by omega), o1, o2, ll]
  exact ⟨m - 1, by omega, _, Ext.refl _, k + 1, us8, ud8, by omega, H.set_get_same _ _ _, FlO.back o9 ee, (ee.trans e8).set' n5h _, f01, f04, rfl⟩
 | false =>
  obtain ⟨ha1, ha2⟩ := hak hsy
  rw [if_neg (by rw [hsy]; simp)] at hnext
  simp -implicitDefEqProofs only [go_sem, f01, f04, f05, f06, Int.ofNat_lt, Int.natCast_nonneg, hk, r2, d2, d3, d4, ldc_get g5, hsy, q1, q2, Sub.refl, o1, o2, ll]
  refine AC_of (specFlashWrite_ac oo.r hok (by omega) ha2) ?_
  rintro _ h8 - ⟨e8, us8, ud8, rfl, o8⟩
  rw [← hnext] at o8
  have g58 := e8.2.g b5 _ g5
  have w1 := o8.1.sl.one
  have w2 := o8.2.1.sl.one
  have hb58 : h8.base ≤ b5 := by rw [e8.1]; exact hb5'
  have o9 := FlO.setK o8 g5 ⟨[us8, ud8, str [], i64 0], 4⟩
  refine ⟨e8.2, ?_⟩
  simp -implicitDefEqProofs only [go_sem, f05, f06, stc_get g58, hb58, w1, w2, wrap_i64 (show -(9223372036854775808 : Int) ≤ ((k : Int) + 1) by omega) (show ((k : Int) + 1) < 9223372036854775808 by omega), o1, o2, ll]
  exact ⟨m - 1, by omega, _, Ext.refl _, k + 1, us8, ud8, by omega, H.set_get_same _ _ _, FlO.back o9 ee, (ee.trans e8).set' n5h _, f01, f04, rfl⟩
end Go.Proofs.YthjbhdmjfakfaaaGreatDoor