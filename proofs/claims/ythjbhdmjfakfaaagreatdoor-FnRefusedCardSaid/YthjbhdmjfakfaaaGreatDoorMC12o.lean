/- A helper of this seat's claims (contracts of the functions): what it shows is shown for every input that its statements name, on no other condition. -/
import Derived.Test.YthjbhdmjfakfaaaGreatDoorC12r
import Derived.Test.YthjbhdmjfakfaaaGreatDoorC04g
set_option linter.unusedVariables false
set_option linter.unusedSimpArgs false
set_option maxRecDepth 100000
namespace Go.Proofs.YthjbhdmjfakfaaaGreatDoor
open Go.KH

/-! ## What StateRead answers: the laws' helpers -/
abbrev spSto (o : UState × Int) : List Sp := [.v (i64 o.1.phase), .v (i64 o.1.tries), .v (i64 o.1.need), .v (i64 o.1.stash), .v (i64 o.1.done), .v (str o.1.digest), .s 1 (ints o.1.held), .s 1 (ints o.1.mine), .v (i64 o.2)]
theorem sto_r {h : H} {o : UState × Int} {cs : List Value} : RepR h (spSto o) cs ↔ ∃ vh vm, cs = o.1.cells vh vm ++ [i64 o.2] ∧ Sl h vh 1 (ints o.1.held) ∧ Sl h vm 1 (ints o.1.mine) := by
  simp only [spSto, RepR_i, RepR_str, RepR_s, RepR_nil]
  constructor
  · rintro ⟨_, rfl, _, rfl, _, rfl, _, rfl, _, rfl, _, rfl, vh, _, rfl, h1, vm, _, rfl, h2, _, rfl, rfl⟩; exact ⟨vh, vm, rfl, h1, h2⟩
  · rintro ⟨vh, vm, rfl, h1, h2⟩; exact ⟨_, rfl, _, rfl, _, rfl, _, rfl, _, rfl, _, rfl, vh, _, rfl, h1, vm, _, rfl, h2, _, rfl, rfl⟩
theorem sto_f {h0 h : H} {o : UState × Int} {cs : List Value} : RepF h0 h (spSto o) cs ↔ StoF h0 h cs o := by
  simp only [spSto, RepF_i, RepF_str, RepF_s, RepF_nil]
  constructor
  · rintro ⟨_, rfl, _, rfl, _, rfl, _, rfl, _, rfl, _, rfl, vh, _, rfl, h1, d1, vm, _, rfl, h2, d2, _, rfl, rfl⟩; exact ⟨_, rfl, vh, vm, rfl, h1, h2, d1 vm (by simp)⟩
  · rintro ⟨_, rfl, vh, vm, rfl, h1, h2, d⟩
    simp only [UState.cells, List.cons_append, List.nil_append]
    refine ⟨_, rfl, _, rfl, _, rfl, _, rfl, _, rfl, _, rfl, vh, _, rfl, h1, ?_, vm, _, rfl, h2, ?_, _, rfl, rfl⟩
    · intro x hx
      simp only [List.mem_cons, List.not_mem_nil, or_false] at hx
      rcases hx with rfl | rfl <;> first | exact d | exact Dj.nb rfl
    · intro x hx
      simp only [List.mem_cons, List.not_mem_nil, or_false] at hx
      subst hx; exact Dj.nb rfl
end Go.Proofs.YthjbhdmjfakfaaaGreatDoor

set_option linter.unusedVariables false
set_option linter.unusedSimpArgs false
set_option maxRecDepth 100000
namespace Go.Proofs.YthjbhdmjfakfaaaGreatDoor
open Go.KH

/-! ## The state of a machine -/
def machFit (m : UMach) : Prop := (1 ≤ m.blocks ∧ m.blocks ≤ 8) ∧ flashOk m.flash ∧ (m.flash.sec.length : Int) = 27 + m.blocks
instance (m : UMach) : Decidable (machFit m) := by unfold machFit; infer_instance
def stM (m : UMach) : Option UState := if machFit m ∧ (metaGet m.flash).1.2 = 0 then stI (metaGet m.flash).1.1.2 else none
theorem metaGet_at (f : UFlash) : ((metaGet f).1.2 = 0 ↔ 0 ≤ (metaGet f).2) := by
  unfold metaGet
  by_cases h1 : (metaR (flashGet f 0)).2 = 0
  · by_cases h2 : (metaR (flashGet f 1)).2 = 0
    · by_cases h3 : (metaR (flashGet f 1)).1.1 ≤ (metaR (flashGet f 0)).1.1 <;> simp [h1, h2, h3]
    · simp [h1, h2]
  · by_cases h2 : (metaR (flashGet f 1)).2 = 0 <;> simp [h1, h2]
theorem metaR_len (t : List UInt8) : (metaR t).1.2.length ≤ 80 ∧ 0 ≤ (metaR t).1.1 ∧ (metaR t).1.1 ≤ 1000000 := by
  unfold metaR metaI
  split
  · simp only
    split
    · rename_i h; exact ⟨h.2.2.2, by simp only; omega, h.2.2.1.2⟩
    · simp
  · simp
theorem metaGet_len (f : UFlash) : (metaGet f).1.1.2.length ≤ 80 ∧ 0 ≤ (metaGet f).1.1.1 ∧ (metaGet f).1.1.1 ≤ 1000000 := by
  unfold metaGet
  simp only
  split
  · exact metaR_len _
  · split
    · exact metaR_len _
    · simp
theorem stM_no {m : UMach} (h : ¬ machFit m) : stM m = none := by unfold stM; rw [if_neg (fun k => h k.1)]
def b_impl_stateOf : C := (jo [⟨(some 1), none, .box (.t 0)⟩, ⟨(some 2), none, .alloc [(i64 0), (i64 0), (i64 0), (i64 0), (i64 0), (str []), nils, nils]⟩, q 3 (.mv (.c (.bool false)))]
 (.seq (.seq (.dops true (.tk (jf 6 0 1) (.tk (jl 7 6) (.sq (jc 8 84 [(.t 7)]) (.tk (q 9 (.un .not (.t 8))) (.tk (jm 10 9) (.tk (qg 11 10 false (.fld 1 (.t 1))) (.tk (qg 12 10 false (.ld true 2 (.t 11))) (.sq (jcg 13 10 false 161 [(.t 12)]) (.tk (qg 14 10 false (.un .not (.t 13))) (.tk (q 15 (.pick (.t 10) (.c (.bool true)) (.t 14))) (.tk (jm 16 15) (.tk (qg 17 16 false (.fld 1 (.t 1))) (.tk (qg 18 16 false (.fld 0 (.t 17))) (.tk (qg 19 16 false (.ld false 1 (.t 18))) (.tk (qg 21 16 false (.fld 0 (.t 1))) (.tk (qg 22 16 false (.ld false 1 (.t 21))) (.tk (qg 23 16 false (.bin .add (.c (i64 3)) (.t 22))) (.tk (qg 24 16 false (.bin .add (.t 23) (.c (i64 24)))) (.sq (jcg 20 16 false 35 [(.t 19)]) (.tk (qg 25 16 false (.bin .neq (.t 20) (.t 24))) (.tk (q 26 (.pick (.t 16) (.c (.bool true)) (.t 25))) .nil))))))))))))))))))))))
 (.cond (.t 26) (jo [q 27 (.build [(i64 0), (i64 0), (i64 0), (i64 0), (i64 0), (str []), nils, nils] []), js 8 2 27, q 3 (.mv (.c (.bool false)))]
 .ret) .skip))
 (jo [jf 29 1 1, jd 30 2 29, jc 31 142 [(.t 30)], jm 28 31, q 32 (.ext 0 (.t 28)), q 33 (.ext 1 (.t 28)), ⟨(some 4), none, .alloc [(i64 0), (str []), (i64 0)]⟩, js 3 4 32, jm 5 33]
 (.seq (jo [jm 34 5, jk 35 .lss 34 0]
 (.cond (.t 35) (jo [q 36 (.build [(i64 0), (i64 0), (i64 0), (i64 0), (i64 0), (str []), nils, nils] []), js 8 2 36, q 3 (.mv (.c (.bool false)))]
 .ret) .skip))
 (jo [jf 37 1 4, jl 38 37, jc 39 162 [(.t 38)], q 40 (.ext 0 (.t 39)), q 41 (.ext 1 (.t 39)), js 8 2 40, jm 3 41]
 .ret)))))
theorem w_impl_stateOf : Wk Tryz.prog 76 42 [.cell 2 true 8, .tmp 3] b_impl_stateOf := Wk.of mixedOrders Tryz.func76 (by kernel_rfl) (by kernel_rfl)

set_option maxHeartbeats 1600000 in
theorem stateOf_ac {h : H} {cs : List Value} {m : UMach} (hv : RepR h (spMach m) cs) (hs : m.flash.fin1) : AC Tryz.prog 76 [.agg cs.toArray] h fun r h' => Ext h h' ∧ ∃ cs', r = .tuple #[.agg cs'.toArray, .bool (stM m).isSome] ∧ StF h h' cs' ((stM m).getD zeroS) := by
  obtain ⟨vs, vd, rfl, r⟩ := mach_r.1 hv
  have o1 := r.1.one
  have o2 := r.2.one
  have nofit : ∀ {h'}, ¬ machFit m → Ext h h' → Ext h h' ∧ ∃ cs', Value.tuple #[.agg #[i64 0, i64 0, i64 0, i64 0, i64 0, str [], nils, nils], .bool false] = .tuple #[.agg cs'.toArray, .bool (stM m).isSome] ∧ StF h h' cs' ((stM m).getD zeroS) := fun hn e => by
    rw [stM_no hn]; exact ⟨e, _, rfl, zero_f _ _⟩
  refine w_impl_stateOf (by simp) ?_
  unfold b_impl_stateOf
  refine wpc_cut (fun f1 h1 => ∃ b1 b2, f1 1 = ptr b1 0 ∧ f1 2 = ptr b2 0 ∧ h1.get b1 = some ⟨[i64 m.blocks, vs, vd], 3⟩ ∧ h1.get b2 = some ⟨[i64 0, i64 0, i64 0, i64 0, i64 0, str [], nils, nils], 8⟩ ∧ h1.base ≤ b2 ∧ h.get b2 = none ∧ Ext h h1) ?_ ?_
  · simp -implicitDefEqProofs only [go_sem, o1, o2]
    intro b1 hb1 n1
    simp -implicitDefEqProofs only [go_sem, o1, o2]
    intro b2 hb2 n2
    obtain ⟨z, y, n2'⟩ := fne n2
    simp -implicitDefEqProofs only [go_sem, o1, o2, z, y]
    exact ⟨b1, b2, rfl, rfl, by simp -implicitDefEqProofs only [go_sem, y], by simp -implicitDefEqProofs only [go_sem], hb2, n2', ((Ext.refl h).set n1 _).set n2 _⟩
  rintro f1 h1 ⟨b1, b2, f01, f02, g1, g2, hb2, n2, e1⟩
  have o3 : vcl vs = [vs] := r.1.vcl
  skip
  refine wpc_cut (fun f2 h2 => h2 = h1 ∧ f2 1 = ptr b1 0 ∧ f2 2 = ptr b2 0 ∧ machFit m) ?_ ?_
  · simp -implicitDefEqProofs only [go_sem, f01, ldc_get g1, Sub.refl, o1, o2, o3, ldc_get g2, stc_get g2, hb2]
    refine (isBlocks_pc _ _).use ?_
    by_cases p1 : 1 ≤ m.blocks ∧ m.blocks ≤ 8
    rotate_left
    · simp -implicitDefEqProofs only [go_sem, f01, f02, ldc_get g1, Sub.refl, p1, o1, o2, o3, ldc_get g2, stc_get g2, hb2]
      exact nofit (fun h => p1 h.1) (e1.set' n2 _)
    have w1 : IntKind.i64.wrap (3 + m.blocks) = 3 + m.blocks := wrap_i64 (by omega) (by omega)
    have w2 : IntKind.i64.wrap (3 + m.blocks + 24) = 3 + m.blocks + 24 := wrap_i64 (by omega) (by omega)
    simp -implicitDefEqProofs only [go_sem, f01, ldc_get g1, Sub.refl, p1, o1, o2, o3, ldc_get g2, stc_get g2, hb2]
    refine (isFlash_pc (r.ext e1) hs).use ?_
    by_cases p2 : flashOk m.flash
    rotate_left
    · simp -implicitDefEqProofs only [go_sem, f01, f02, ldc_get g1, Sub.refl, p1, p2, o1, o2, o3, ldc_get g2, stc_get g2, hb2]
      exact nofit (fun h => p2 h.2.1) (e1.set' n2 _)
    simp -implicitDefEqProofs only [go_sem, f01, ldc_get g1, Sub.refl, p1, p2, o1, o2, o3, ldc_get g2, stc_get g2, hb2]
    refine (sizeStr_pc (r.1.ext e1)).use ?_
    by_cases p3 : (m.flash.sec.length : Int) = 3 + m.blocks + 24
    rotate_left
    · simp -implicitDefEqProofs only [go_sem, f01, f02, ldc_get g1, Sub.refl, p1, p2, w1, w2, p3, o1, o2, o3, ldc_get g2, stc_get g2, hb2]
      exact nofit (fun h => p3 (by have := h.2.2; omega)) (e1.set' n2 _)
    · simp -implicitDefEqProofs only [go_sem, f01, f02, ldc_get g1, Sub.refl, p1, p2, w1, w2, decide_eq_true p3, p3, o1, o2, o3, ldc_get g2, stc_get g2, hb2]
      exact ⟨p1, p2, by omega⟩
  rintro f2 h2 ⟨rfl, q1, q2, hfit⟩
  have h27 := hfit.2.2
  have hb8 := hfit.1
  have hml := metaGet_len m.flash
  have hat := metaGet_at m.flash
  obtain ⟨M, hM⟩ : ∃ M, metaGet m.flash = M := ⟨_, rfl⟩
  have hst : stM m = if M.1.2 = 0 then stI M.1.1.2 else none := by
    unfold stM
    rw [hM]
    by_cases h0 : M.1.2 = 0
    · rw [if_pos ⟨hfit, h0⟩, if_pos h0]
    · rw [if_neg (fun h => h0 h.2), if_neg h0]
  rw [hM] at hml hat
  simp -implicitDefEqProofs only [go_sem, q1, ldc_get g1, o1, o2, o3, ldc_get g2, stc_get g2, hb2]
  refine (metaGet_pc (r.ext e1) hfit.2.1 (by omega)).use ?_
  rw [hM]
  simp -implicitDefEqProofs only [go_sem, q1, q2, o1, o2, o3, ldc_get g2, stc_get g2, hb2]
  intro b4 hb4 n4
  have z42 : (b2 = b4) = False := eq_false fun e => by rw [← e, g2] at n4; cases n4
  have y42 : (b4 = b2) = False := eq_false fun e => (of_eq_false z42) e.symm
  have g2' : ∀ x, (h2.set b4 x).get b2 = some ⟨[i64 0, i64 0, i64 0, i64 0, i64 0, str [], nils, nils], 8⟩ := fun x => by rw [H.set_get_ne _ _ _ _ (of_eq_false z42)]; exact g2
  have e4 := fun x => e1.set n4 x
  skip
  by_cases h0 : M.1.2 = 0
  rotate_left
  · simp -implicitDefEqProofs only [go_sem, show M.2 < 0 by omega, o1, o2, o3, ldc_get g2, stc_get g2, hb2, q1, q2, hb4, z42, y42]
    rw [hst, if_neg h0]
    exact ⟨(e1.set' n2 _).set' (e1.none n4) _, _, rfl, zero_f _ _⟩
  rw [if_pos h0] at hst
  simp -implicitDefEqProofs only [go_sem, show ¬ M.2 < 0 by omega, o1, o2, o3, ldc_get g2, stc_get g2, hb2, q1, q2, hb4, z42, y42]
  refine AC_of (stateRead_ac (by omega)) ?_
  rintro _ h5 - ⟨e5, cs5, rfl, F5⟩
  rw [hst]
  have l5 := F5.r.len
  have t5 := take_len l5
  have o5 := F5.r.one
  have g5 := e5.2.g b2 _ (g2' _)
  have hb5 : h5.base ≤ b2 := by rw [e5.1]; exact hb2
  have eh := (e4 ⟨metaC M.1, 3⟩).trans e5
  simp -implicitDefEqProofs only [go_sem, l5, t5, o5, ldc_get g5, stc_get g5, hb5, o1, o2, o3, ldc_get g2, stc_get g2, hb2, q1, q2, hb4, z42, y42]
  obtain ⟨uh, um, rfl, p1, p2, d⟩ := F5
  exact ⟨eh.set' n2 _, _, rfl, uh, um, rfl, (p1.set (g2' _) _).back (e4 _), (p2.set (g2' _) _).back (e4 _), d⟩
end Go.Proofs.YthjbhdmjfakfaaaGreatDoor

set_option linter.unusedVariables false
set_option linter.unusedSimpArgs false
set_option maxRecDepth 100000
namespace Go.Proofs.YthjbhdmjfakfaaaGreatDoor
open Go.KH

/-! ## Machines that can be started: what is read -/
theorem stI_ok {t : List UInt8} {s : UState} (h : stI t = some s) : stateOk s := by
  unfold stI at h
  simp only at h
  split at h
  · rename_i hc
    simp only [Option.some.injEq] at h
    rw [← h]; exact hc.2.2.2.2
  · cases h
theorem stM_ok {m : UMach} {s : UState} (h : stM m = some s) : machFit m ∧ stateOk s := by
  unfold stM at h
  split at h
  · rename_i hc; exact ⟨hc.1, stI_ok h⟩
  · cases h
def stateOfOut (m : UMach) : UState × Int := match stM m with | some s => (s, 0) | none => (zeroS, 1)
def b_impl_StateOf : C := (jo [⟨(some 1), none, .box (.t 0)⟩, ⟨(some 2), none, .alloc [(i64 0), (i64 0), (i64 0), (i64 0), (i64 0), (str []), nils, nils, (i64 0)]⟩]
 (jo [jd 6 3 1, jc 7 76 [(.t 6)], jm 5 7, q 8 (.ext 0 (.t 5)), q 9 (.ext 1 (.t 5)), ⟨(some 3), none, .alloc [(i64 0), (i64 0), (i64 0), (i64 0), (i64 0), (str []), nils, nils]⟩, js 8 3 8, jm 4 9]
 (.seq (jo [jm 10 4, q 11 (.un .not (.t 10))]
 (.cond (.t 11) (jo [q 12 (.build [(i64 0), (i64 0), (i64 0), (i64 0), (i64 0), (str []), nils, nils, (i64 0)] [(8, 1, (.c (i64 1)))]), js 9 2 12]
 .ret) .skip))
 (jo [jd 13 8 3, q 14 (.build [(i64 0), (i64 0), (i64 0), (i64 0), (i64 0), (str []), nils, nils, (i64 0)] [(0, 8, (.t 13))]), js 9 2 14]
 .ret))))
theorem w_impl_StateOf : Wk Tryz.prog 28 15 [.cell 2 true 9] b_impl_StateOf := Wk.of mixedOrders Tryz.func28 (by kernel_rfl) (by kernel_rfl)

theorem implStateOf_ac {h : H} {cs : List Value} {m : UMach} (hv : RepR h (spMach m) cs) (hs : m.flash.fin1) : AC Tryz.prog 28 [.agg cs.toArray] h fun r h' => Ext h h' ∧ ∃ cs', r = .agg cs'.toArray ∧ RepF h h' (spSto (stateOfOut m)) cs' := by
  have l1 := hv.len
  simp only [List.length_cons, List.length_nil, Nat.reduceAdd] at l1
  have t1 := take_len l1
  have o1 := hv.one
  unfold stateOfOut
  skip
  refine w_impl_StateOf (by simp) ?_
  unfold b_impl_StateOf
  simp -implicitDefEqProofs only [go_sem, l1, t1, o1]
  intro b1 hb_b1 n_b1
  simp -implicitDefEqProofs only [go_sem, l1, t1, o1, hb_b1]
  intro b2 hb_b2 m0_b2
  obtain ⟨z_b2_b1, y_b2_b1, n_b2⟩ := fne m0_b2
  simp only [H.set_base] at hb_b2
  simp -implicitDefEqProofs only [go_sem, l1, t1, o1, hb_b1, hb_b2, z_b2_b1, y_b2_b1]
  refine AC_of (stateOf_ac (hv.ext (((Ext.refl _).set' n_b1 _).set' n_b2 _)) hs) ?_
  rintro _ h2 - ⟨e2, cs2, rfl, F2⟩
  have l2 := F2.r.len
  have t2 := take_len l2
  have o2 := F2.r.one
  have g2 := e2.2.g b2 _ (by simp -implicitDefEqProofs only [go_sem, l1, t1, o1, hb_b1, hb_b2, z_b2_b1, y_b2_b1]; rfl)
  have hb5 := e2.1
  simp only [H.set_base] at hb5
  simp -implicitDefEqProofs only [go_sem, l2, t2, o2, l1, t1, o1, hb_b1, hb_b2, z_b2_b1, y_b2_b1]
  intro b3 hb3 n3
  have z32 : (b2 = b3) = False := eq_false fun e => by rw [← e, g2] at n3; cases n3
  have y32 : (b3 = b2) = False := eq_false fun e => (of_eq_false z32) e.symm
  have e3 := fun x => (Ext.refl h2).set n3 x
  have hb3' := hb3
  rw [hb5] at hb3'
  have E2 := ((((Ext.refl _).set' n_b1 _).set' n_b2 _)).trans e2
  have n3h := E2.none n3
  cases hst : stM m with
  | none =>
    simp -implicitDefEqProofs only [go_sem, l2, t2, o2, hb3, hb3', z32, y32, stc_get g2, hb5, Option.isSome_none, l1, t1, o1, hb_b1, hb_b2, z_b2_b1, y_b2_b1]
    exact ⟨(E2.set' n_b2 _).set' n3h _, _, rfl, sto_f.2 ⟨_, rfl, zero_f _ _⟩⟩
  | some s =>
    rw [hst] at F2
    obtain ⟨uh, um, rfl, p1, p2, d⟩ := F2
    have q1 := p1.sl.one
    have q2 := p2.sl.one
    simp -implicitDefEqProofs only [go_sem, q1, q2, l2, t2, hb3, hb3', z32, y32, stc_get g2, hb5, Option.isSome_some, Option.getD_some, l1, t1, o1, hb_b1, hb_b2, z_b2_b1, y_b2_b1]
    refine ⟨(E2.set' n_b2 _).set' n3h _, _, rfl, sto_f.2 ⟨_, rfl, uh, um, rfl, ?_, ?_, d⟩⟩
    · exact ((p1.set (b := b2) (H.set_get_same _ _ _) _).ext ((Ext.refl _).set (by rw [H.set_get_ne _ _ _ _ (of_eq_false y32)]; exact n3) _)).back (((Ext.refl _).set' n_b1 _).set' n_b2 _)
    · exact ((p2.set (b := b2) (H.set_get_same _ _ _) _).ext ((Ext.refl _).set (by rw [H.set_get_ne _ _ _ _ (of_eq_false y32)]; exact n3) _)).back (((Ext.refl _).set' n_b1 _).set' n_b2 _)
def areaOf (m : UMach) (n : Int) : List UInt8 := flashGet m.flash (3 + m.blocks + n)
theorem areaOf_len {m : UMach} (hf : machFit m) (n : Int) : (areaOf m n).length ≤ 96 := flashGet_len hf.2.1 _
def b_impl_Machine_areaAt : C := (jo [⟨(some 2), none, .box (.t 0)⟩, q 4 (.mv (.c (i64 0)))]
 (jo [jf 5 0 2, jl 6 5, q 7 (.bin .add (.c (i64 3)) (.t 6)), jm 8 1, jb 9 .add 7 8, jm 4 9]
 .ret))
theorem w_impl_Machine_areaAt : Wk Tryz.prog 164 10 [.tmp 4] b_impl_Machine_areaAt := Wk.of mixedOrders Tryz.func164 (by kernel_rfl) (by kernel_rfl)

theorem areaAt_pc {h : H} {cs : List Value} {m : UMach} {n : Int} (hv : RepR h (spMach m) cs) (hb : 1 ≤ m.blocks ∧ m.blocks ≤ 8) (hn : 0 ≤ n ∧ n ≤ 100) : PC Tryz.prog 164 [.agg cs.toArray, i64 n] h (i64 (3 + m.blocks + n)) := by
  obtain ⟨vs, vd, rfl, r⟩ := mach_r.1 hv
  have o1 := r.1.one
  have o2 := r.2.one
  refine PC_of ?_
  skip
  refine w_impl_Machine_areaAt (by simp) ?_
  unfold b_impl_Machine_areaAt
  simp -implicitDefEqProofs only [go_sem, o1, o2]
  intro b1 hb_b1 n_b1
  simp -implicitDefEqProofs only [go_sem, wrap_i64 (show -(9223372036854775808 : Int) ≤ (3 + m.blocks) by omega) (show (3 + m.blocks) < 9223372036854775808 by omega), wrap_i64 (show -(9223372036854775808 : Int) ≤ (3 + m.blocks + n) by omega) (show (3 + m.blocks + n) < 9223372036854775808 by omega), o1, o2, hb_b1]
  exact ((Ext.refl _).set' n_b1 _)
def b_impl_Machine_area : C := (jo [⟨(some 2), none, .box (.t 0)⟩, q 4 (.mv (.c (str [])))]
 (.seq (.dops true (.tk (jf 5 1 2) (.tk (jd 6 2 5) (.tk (jd 7 3 2) (.tk (jm 8 1) (.sq (jc 9 164 [(.t 7), (.t 8)]) (.sq (jc 10 166 [(.t 6), (.t 9)]) (.tk (jm 4 10) .nil))))))))
 .ret))
theorem w_impl_Machine_area : Wk Tryz.prog 163 11 [.tmp 4] b_impl_Machine_area := Wk.of mixedOrders Tryz.func163 (by kernel_rfl) (by kernel_rfl)

theorem area_pc {h : H} {cs : List Value} {m : UMach} {n : Int} (hv : RepR h (spMach m) cs) (hf : machFit m) (hn : 0 ≤ n ∧ n ≤ 23) : PC Tryz.prog 163 [.agg cs.toArray, i64 n] h (str (areaOf m n)) := by
  have hv0 := hv
  obtain ⟨vs, vd, rfl, r⟩ := mach_r.1 hv
  have o1 := r.1.one
  have o2 := r.2.one
  have hd := flashOk_small hf.2.1
  have h27 := hf.2.2
  have hb := hf.1
  refine PC_of ?_
  skip
  refine w_impl_Machine_area (by simp) ?_
  unfold b_impl_Machine_area
  simp -implicitDefEqProofs only [go_sem, o1, o2]
  intro b1 hb_b1 n_b1
  simp -implicitDefEqProofs only [go_sem, o1, o2, hb_b1]
  refine (areaAt_pc (hv0.ext ((Ext.refl _).set' n_b1 _)) hb (by omega)).use ?_
  simp -implicitDefEqProofs only [go_sem, Sub.refl, o1, o2, hb_b1]
  refine (read_pc (r.ext ((Ext.refl _).set' n_b1 _)) (by omega) (by omega)).use ?_
  simp -implicitDefEqProofs only [go_sem, Sub.refl, o1, o2, hb_b1]
  exact ⟨((Ext.refl _).set' n_b1 _), rfl⟩
theorem stateOk_stash {s : UState} (hok : stateOk s) : 0 ≤ s.stash ∧ s.stash ≤ 4 := by
  have h5 := hok.2.2.2.2
  by_cases p : s.phase = 1
  · rw [if_pos p] at h5; omega
  · rw [if_neg p] at h5; omega
end Go.Proofs.YthjbhdmjfakfaaaGreatDoor
