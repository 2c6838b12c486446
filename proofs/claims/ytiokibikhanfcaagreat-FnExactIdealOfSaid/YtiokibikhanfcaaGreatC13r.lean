/- A helper of this seat's claims (contracts of the functions): what it shows is shown for every input that its statements name, on no other condition. -/
import Derived.Test.YtiokibikhanfcaaGreatC13l
import Derived.Test.YtiokibikhanfcaaGreatC11u
import Derived.Test.YtiokibikhanfcaaGreatC11
import Derived.Test.YtiokibikhanfcaaGreatC07
set_option linter.unusedVariables false
set_option linter.unusedSimpArgs false
set_option maxRecDepth 100000
namespace Go.Proofs.YtiokibikhanfcaaGreat
open Go.KH

/-! ## Machines that are right -/
def baseTo (m : UMach) (k : Nat) : List (List UInt8) := (List.range k).map fun j : Nat => flashGet m.flash (3 + (j : Int))
def baseOf (m : UMach) : List (List UInt8) := baseTo m m.blocks.toNat
theorem baseTo_len (m : UMach) (k : Nat) : (baseTo m k).length = k := by unfold baseTo; simp
theorem baseTo_succ (m : UMach) (k : Nat) : baseTo m (k + 1) = baseTo m k ++ [flashGet m.flash (3 + (k : Int))] := by unfold baseTo; rw [List.range_succ, List.map_append]; rfl
theorem baseOf_len {m : UMach} (hf : machFit m) : (baseOf m).length ≤ 8 ∧ ((baseOf m).length : Int) = m.blocks := by
  have := hf.1
  unfold baseOf
  rw [baseTo_len]
  omega
/-- (impl.Machine).base -/
def b_impl_Machine_base : C := (.seq (.ops [⟨(some 1), none, .box (.t 0)⟩, q 2 (.mv (.c nils))])
 (.seq (.ops [q 3 (.mv (.c nils))])
 (.seq (.seq (.ops [q 5 (.fld 0 (.t 1)), q 6 (.ld false 1 (.t 5)), q 7 (.mv (.c (i64 0)))])
 (.block 0 (.loop (.seq (.ops [q 8 (.bin .lss (.t 7) (.t 6))])
 (.seq (.cond (.t 8) .skip (.exit 0))
 (.seq (.block 1 (.seq (.ops [q 9 (.mv (.t 7)), q 4 (.mv (.t 9))])
 (.ops [q 10 (.mv (.t 3)), q 11 (.fld 1 (.t 1)), q 12 (.ld true 2 (.t 11)), q 13 (.mv (.t 4)), q 14 (.bin .add (.c (i64 3)) (.t 13)), ⟨(some 15), none, .call (.c (.func (.func 99) #[] #[])) [(.t 12), (.t 14)]⟩, ⟨(some 16), none, .bsl 1 [(str [])] [(0, 1, (.t 15))]⟩, ⟨(some 17), none, .app 1 16 (.t 10) (.t 16)⟩, q 3 (.mv (.t 17))])))
 (.ops [q 18 (.bin .add (.t 7) (.c (i64 1))), q 7 (.mv (.t 18))])))))))
 (.seq (.ops [q 19 (.mv (.t 3)), q 2 (.mv (.t 19))])
 .ret))))
theorem w_impl_Machine_base {args : List Value} {h : H} {Q : Value → H → Prop} (hl : args.length ≤ 20) (hk : wpc Tryz.prog b_impl_Machine_base (retw [.tmp 2] Q) (argsFr args) h) : AC Tryz.prog 53 args h Q :=
  AC.of_wpc mixedOrders Tryz.func53 (by kernel_rfl) (by kernel_rfl : prepF Tryz.prog Tryz.f53 = some ⟨20, [.tmp 2], b_impl_Machine_base⟩) hl hk

theorem base_ac {h : H} {cs : List Value} {m : UMach} (hv : RepR h (spMach m) cs) (hf : machFit m) : AC Tryz.prog 53 [.agg cs.toArray] h fun r h' => Ext h h' ∧ Own h h' r 1 (strs (baseOf m)) := by
  obtain ⟨vs, vd, rfl, fr⟩ := mach_r.1 hv
  have o4 := fr.1.one
  have o5 := fr.2.one
  have c4 : vcl vs = [vs] := fr.1.vcl
  have c5 : vcl vd = [vd] := fr.2.vcl
  have hd := flashOk_small hf.2.1
  have h27 := hf.2.2
  have hb := hf.1
  skip
  refine w_impl_Machine_base (by simp) ?_
  unfold b_impl_Machine_base
  simp -implicitDefEqProofs only [go_sem, o4, o5, c4, c5]
  intro b1 hb_b1 n_b1
  have E0 : Ext h (h.set b1 ⟨[i64 m.blocks, vs, vd], 3⟩) := ((Ext.refl _).set' n_b1 _)
  have frS := fr.ext E0
  have g1 : (h.set b1 ⟨[i64 m.blocks, vs, vd], 3⟩).get b1 = some ⟨[i64 m.blocks, vs, vd], 3⟩ := H.set_get_same _ _ _
  simp -implicitDefEqProofs only [go_sem, o4, o5, c4, c5, hb_b1]
  generalize hH : h.set b1 ⟨[i64 m.blocks, vs, vd], 3⟩ = hS at E0 frS g1 ⊢
  skip
  refine loopW_of (fun n f h' => ∃ (k : Nat) (w : Value), n + k = m.blocks.toNat ∧ f 1 = ptr b1 0 ∧ f 6 = i64 m.blocks ∧ f 7 = i64 k ∧ f 3 = w ∧ Ext hS h' ∧ Own hS h' w 1 (strs (baseTo m k))) m.blocks.toNat
    ⟨0, nils, by simp, by simp -implicitDefEqProofs only [go_sem, o4, o5, c4, c5], by simp -implicitDefEqProofs only [go_sem, o4, o5, c4, c5], by simp -implicitDefEqProofs only [go_sem, o4, o5, c4, c5]; rfl, by simp -implicitDefEqProofs only [go_sem, o4, o5, c4, c5], Ext.refl _, Own.nil _ _ _⟩ ?_
  rintro n f h' ⟨k, w, hn, f1, f6, f7, f3, he, ho⟩
  obtain ⟨aw, cw, rfl⟩ := ho.shape
  have hlw : (strs (baseTo m k)).length = k := by rw [List.length_map, baseTo_len]
  rw [hlw] at ho f3
  have gh := he.2.g b1 _ g1
  skip
  by_cases hk : k < m.blocks.toNat
  · simp -implicitDefEqProofs only [go_sem, show (k : Int) < m.blocks by omega, wrap_i64 (show -(9223372036854775808 : Int) ≤ (3 + (k : Int)) by omega) (show (3 + (k : Int)) < 9223372036854775808 by omega), o4, o5, c4, c5, f1, f6, f7, f3, Int.ofNat_lt, Int.natCast_nonneg, ldc_get gh]
    refine (read_pc (frS.ext he) (by omega) (by omega)).use ?_
    simp -implicitDefEqProofs only [go_sem, o4, o5, c4, c5, f1, f6, f7, f3, Int.ofNat_lt, Int.natCast_nonneg, ldc_get gh]
    intro b8 hb8 n8
    simp -implicitDefEqProofs only [go_sem, o4, o5, c4, c5, f1, f6, f7, f3, Int.ofNat_lt, Int.natCast_nonneg, ldc_get gh]
    refine appW_own (new := [[str (flashGet m.flash (3 + (k : Int)))]]) (he.set n8 _) (ho.ext ((Ext.refl _).set n8 _)) rfl (by intro r hr; simp at hr; subst hr; rfl) rfl (by rw [hlw]; show (k + 1) * 16 ≤ _; omega) ?_
    intro v' h'' he2 ho2 _
    simp -implicitDefEqProofs only [go_sem, wrap_i64 (show -(9223372036854775808 : Int) ≤ ((k : Int) + 1) by omega) (show ((k : Int) + 1) < 9223372036854775808 by omega), o4, o5, c4, c5, f1, f6, f7, f3, Int.ofNat_lt, Int.natCast_nonneg, ldc_get gh]
    exact ⟨n - 1, by omega, h'', Ext.refl _, k + 1, v', by omega, rfl, rfl, he2, by rw [baseTo_succ]; simpa using ho2⟩
  · have e : k = m.blocks.toNat := by omega
    subst e
    simp -implicitDefEqProofs only [go_sem, show ¬ ((m.blocks.toNat : Int) < m.blocks) by omega, o4, o5, c4, c5, f1, f6, f7, f3, Int.ofNat_lt, Int.natCast_nonneg, ldc_get gh]
    exact ⟨E0.trans he, ho.back E0⟩
/-- spec.l13Base -/
def b_spec_l13Base : C := (.seq (.ops [⟨(some 1), none, .box (.t 0)⟩, q 2 (.mv (.c nils))])
 (.seq (.ops [⟨(some 5), none, .bsl 0 [] []⟩, q 3 (.mv (.t 5))])
 (.seq (.seq (.ops [q 4 (.mv (.c (i64 0)))])
 (.block 0 (.loop (.seq (.seq (.ops [q 6 (.mv (.t 4)), q 7 (.fld 0 (.t 1)), q 8 (.ld false 1 (.t 7)), q 9 (.bin .lss (.t 6) (.t 8))])
 (.cond (.t 9) .skip (.exit 0)))
 (.seq (.block 1 (.ops [q 12 (.mv (.t 3)), q 13 (.fld 1 (.t 1)), q 14 (.ld true 2 (.t 13)), q 15 (.mv (.t 4)), q 16 (.bin .add (.c (i64 3)) (.t 15)), ⟨(some 17), none, .call (.c (.func (.func 95) #[] #[])) [(.t 14), (.t 16)]⟩, ⟨(some 18), none, .bsl 1 [(str [])] [(0, 1, (.t 17))]⟩, ⟨(some 19), none, .app 1 16 (.t 12) (.t 18)⟩, q 3 (.mv (.t 19))]))
 (.ops [q 10 (.mv (.t 4)), q 11 (.bin .add (.t 10) (.c (i64 1))), q 4 (.mv (.t 11))]))))))
 (.seq (.ops [q 20 (.mv (.t 3)), q 2 (.mv (.t 20))])
 .ret))))
theorem w_spec_l13Base {args : List Value} {h : H} {Q : Value → H → Prop} (hl : args.length ≤ 21) (hk : wpc Tryz.prog b_spec_l13Base (retw [.tmp 2] Q) (argsFr args) h) : AC Tryz.prog 51 args h Q :=
  AC.of_wpc mixedOrders Tryz.func51 (by kernel_rfl) (by kernel_rfl : prepF Tryz.prog Tryz.f51 = some ⟨21, [.tmp 2], b_spec_l13Base⟩) hl hk

theorem l13Base_ac {h : H} {cs : List Value} {m : UMach} (hv : RepR h (spMach m) cs) (hf : machFit m) : AC Tryz.prog 51 [.agg cs.toArray] h fun r h' => Ext h h' ∧ Own h h' r 1 (strs (baseOf m)) := by
  obtain ⟨vs, vd, rfl, fr⟩ := mach_r.1 hv
  have o4 := fr.1.one
  have o5 := fr.2.one
  have c4 : vcl vs = [vs] := fr.1.vcl
  have c5 : vcl vd = [vd] := fr.2.vcl
  have hd := flashOk_small hf.2.1
  have h27 := hf.2.2
  have hb := hf.1
  skip
  refine w_spec_l13Base (by simp) ?_
  unfold b_spec_l13Base
  simp -implicitDefEqProofs only [go_sem, o4, o5, c4, c5]
  intro b1 hb_b1 n_b1
  have E0 : Ext h (h.set b1 ⟨[i64 m.blocks, vs, vd], 3⟩) := ((Ext.refl _).set' n_b1 _)
  have frS := fr.ext E0
  have g1 : (h.set b1 ⟨[i64 m.blocks, vs, vd], 3⟩).get b1 = some ⟨[i64 m.blocks, vs, vd], 3⟩ := H.set_get_same _ _ _
  simp -implicitDefEqProofs only [go_sem, o4, o5, c4, c5, hb_b1]
  generalize hH : h.set b1 ⟨[i64 m.blocks, vs, vd], 3⟩ = hS at E0 frS g1 ⊢
  skip
  intro b7 hb7 n7
  simp -implicitDefEqProofs only [go_sem, o4, o5, c4, c5]
  refine loopW_of (fun n f h' => ∃ (k : Nat) (w : Value), n + k = m.blocks.toNat ∧ f 1 = ptr b1 0 ∧ f 4 = i64 k ∧ f 3 = w ∧ Ext hS h' ∧ Own hS h' w 1 (strs (baseTo m k))) m.blocks.toNat
    ⟨0, sl b7 0 0 0, by simp, by simp -implicitDefEqProofs only [go_sem, o4, o5, c4, c5], by simp -implicitDefEqProofs only [go_sem, o4, o5, c4, c5]; rfl, by simp -implicitDefEqProofs only [go_sem, o4, o5, c4, c5], (Ext.refl hS).set n7 _, .inr ⟨b7, 0, 0, rfl, Nat.le_refl _, hb7, n7, H.set_get_same _ _ _, by simp, Wid.nil 1⟩⟩ ?_
  rintro n f h' ⟨k, w, hn, f1, f4, f3, he, ho⟩
  obtain ⟨aw, cw, rfl⟩ := ho.shape
  have hlw : (strs (baseTo m k)).length = k := by rw [List.length_map, baseTo_len]
  rw [hlw] at ho f3
  have gh := he.2.g b1 _ g1
  skip
  by_cases hk : k < m.blocks.toNat
  · simp -implicitDefEqProofs only [go_sem, show (k : Int) < m.blocks by omega, wrap_i64 (show -(9223372036854775808 : Int) ≤ (3 + (k : Int)) by omega) (show (3 + (k : Int)) < 9223372036854775808 by omega), o4, o5, c4, c5, f1, f4, f3, Int.ofNat_lt, Int.natCast_nonneg, ldc_get gh]
    refine (l03Get_pc (frS.ext he) (by omega) (by omega)).use ?_
    simp -implicitDefEqProofs only [go_sem, o4, o5, c4, c5, f1, f4, f3, Int.ofNat_lt, Int.natCast_nonneg, ldc_get gh]
    intro b8 hb8 n8
    simp -implicitDefEqProofs only [go_sem, o4, o5, c4, c5, f1, f4, f3, Int.ofNat_lt, Int.natCast_nonneg, ldc_get gh]
    refine appW_own (new := [[str (flashGet m.flash (3 + (k : Int)))]]) (he.set n8 _) (ho.ext ((Ext.refl _).set n8 _)) rfl (by intro r hr; simp at hr; subst hr; rfl) rfl (by rw [hlw]; show (k + 1) * 16 ≤ _; omega) ?_
    intro v' h'' he2 ho2 _
    simp -implicitDefEqProofs only [go_sem, wrap_i64 (show -(9223372036854775808 : Int) ≤ ((k : Int) + 1) by omega) (show ((k : Int) + 1) < 9223372036854775808 by omega), o4, o5, c4, c5, f1, f4, f3, Int.ofNat_lt, Int.natCast_nonneg, ldc_get gh]
    exact ⟨n - 1, by omega, h'', Ext.refl _, k + 1, v', by omega, rfl, rfl, he2, by rw [baseTo_succ]; simpa using ho2⟩
  · have e : k = m.blocks.toNat := by omega
    subst e
    simp -implicitDefEqProofs only [go_sem, show ¬ ((m.blocks.toNat : Int) < m.blocks) by omega, o4, o5, c4, c5, f1, f4, f3, Int.ofNat_lt, Int.natCast_nonneg, ldc_get gh]
    exact ⟨E0.trans he, ho.back E0⟩
noncomputable def movesM (m : UMach) (s : UState) : List UMove := planB ((logOf m s).filter isW)
def soundM (m : UMach) (s : UState) : Prop := s.phase ≤ 2 ∨ (codeOf (logOf m s) m.blocks = 0 ∧ slots (movesM m s) ≤ s.stash ∧ s.done ≤ (movesM m s).length)
noncomputable instance (m : UMach) (s : UState) : Decidable (soundM m s) := by unfold soundM; infer_instance
noncomputable def rightOut (m : UMach) : Bool := match stM m with | some s => decide (imageOk (baseOf m) ∧ soundM m s) | none => false
theorem moves_28 {m : UMach} {s : UState} (h : codeOf (logOf m s) m.blocks = 0) : (movesM m s).length ≤ 28 := by
  have h1 := planOut_small (logOf m s) m.blocks
  unfold planOut at h1
  have := (code_zero h).1.1
  rw [if_neg (by omega), if_pos h] at h1
  exact h1
/-- impl.isMachine -/
def b_impl_isMachine : C := (.seq (.ops [⟨(some 1), none, .box (.t 0)⟩, q 2 (.mv (.c (.bool false)))])
 (.seq (.ops [q 8 (.ld true 3 (.t 1)), ⟨(some 9), none, .call (.c (.func (.func 44) #[] #[])) [(.t 8)]⟩, q 7 (.mv (.t 9)), q 10 (.ext 0 (.t 7)), q 11 (.ext 1 (.t 7)), ⟨(some 3), none, .alloc [(i64 0), (i64 0), (i64 0), (i64 0), (i64 0), (str []), nils, nils]⟩, ⟨none, none, .st 8 (.t 3) (.t 10)⟩, q 4 (.mv (.t 11))])
 (.seq (.seq (.ops [q 12 (.mv (.t 4)), q 13 (.un .not (.t 12)), q 14 (.mv (.t 13)), qg 15 14 false (.ld true 3 (.t 1)), ⟨(some 16), (some (14, false)), .call (.c (.func (.func 53) #[] #[])) [(.t 15)]⟩, ⟨(some 17), (some (14, false)), .call (.c (.func (.func 96) #[] #[])) [(.t 16)]⟩, qg 18 14 false (.un .not (.t 17)), q 19 (.pick (.t 14) (.c (.bool true)) (.t 18))])
 (.cond (.t 19) (.seq (.ops [q 2 (.mv (.c (.bool false)))])
 .ret) .skip))
 (.seq (.seq (.ops [q 20 (.fld 0 (.t 3)), q 21 (.ld false 1 (.t 20)), q 22 (.bin .eql (.t 21) (.c (i64 1))), q 23 (.mv (.t 22)), qg 24 23 false (.fld 0 (.t 3)), qg 25 23 false (.ld false 1 (.t 24)), qg 26 23 false (.bin .eql (.t 25) (.c (i64 2))), q 27 (.pick (.t 23) (.c (.bool true)) (.t 26))])
 (.cond (.t 27) (.seq (.ops [q 2 (.mv (.c (.bool true)))])
 .ret) .skip))
 (.seq (.ops [q 28 (.ld true 3 (.t 1)), q 29 (.ld true 8 (.t 3)), ⟨(some 30), none, .call (.c (.func (.func 88) #[] #[])) [(.t 28), (.t 29)]⟩, q 5 (.mv (.t 30))])
 (.seq (.seq (.ops [q 31 (.mv (.t 5)), q 32 (.fld 0 (.t 1)), q 33 (.ld false 1 (.t 32)), ⟨(some 34), none, .call (.c (.func (.func 89) #[] #[])) [(.t 31), (.t 33)]⟩, q 35 (.bin .neq (.t 34) (.c (i64 0)))])
 (.cond (.t 35) (.seq (.ops [q 2 (.mv (.c (.bool false)))])
 .ret) .skip))
 (.seq (.ops [q 36 (.mv (.t 5)), ⟨(some 37), none, .call (.c (.func (.func 90) #[] #[])) [(.t 36)]⟩, q 6 (.mv (.t 37))])
 (.seq (.dops true (.tk (q 38 (.mv (.t 6))) (.tk (q 40 (.fld 3 (.t 3))) (.tk (q 41 (.ld false 1 (.t 40))) (.sq (⟨(some 39), none, .call (.c (.func (.func 97) #[] #[])) [(.t 38)]⟩) (.tk (q 42 (.bin .leq (.t 39) (.t 41))) (.tk (q 43 (.mv (.t 42))) (.tk (qg 44 43 true (.mv (.t 6))) (.tk (qg 46 43 true (.fld 4 (.t 3))) (.tk (qg 47 43 true (.ld false 1 (.t 46))) (.sq (⟨(some 45), (some (43, true)), .call (.c (.func (.func 98) #[] #[])) [(.t 44)]⟩) (.tk (qg 48 43 true (.bin .geq (.t 45) (.t 47))) (.tk (q 49 (.pick (.t 43) (.t 48) (.c (.bool false)))) (.tk (q 2 (.mv (.t 49))) .nil))))))))))))))
 .ret))))))))
theorem w_impl_isMachine {args : List Value} {h : H} {Q : Value → H → Prop} (hl : args.length ≤ 50) (hk : wpc Tryz.prog b_impl_isMachine (retw [.tmp 2] Q) (argsFr args) h) : AC Tryz.prog 52 args h Q :=
  AC.of_wpc mixedOrders Tryz.func52 (by kernel_rfl) (by kernel_rfl : prepF Tryz.prog Tryz.f52 = some ⟨50, [.tmp 2], b_impl_isMachine⟩) hl hk

set_option maxHeartbeats 1600000 in
theorem isMachine_pc {h : H} {cs : List Value} {m : UMach} (hv : RepR h (spMach m) cs) (hs : m.flash.fin1) : PC Tryz.prog 52 [.agg cs.toArray] h (.bool (rightOut m)) := by
  obtain ⟨R, hR⟩ : ∃ R, R = rightOut m := ⟨_, rfl⟩
  rw [← hR]
  unfold rightOut at hR
  have hv0 := hv
  obtain ⟨vs, vd, rfl, fr⟩ := mach_r.1 hv
  have o4 := fr.1.one
  have o5 := fr.2.one
  have c4 : vcl vs = [vs] := fr.1.vcl
  have c5 : vcl vd = [vd] := fr.2.vcl
  refine PC_of ?_
  skip
  refine w_impl_isMachine (by simp) ?_
  unfold b_impl_isMachine
  simp -implicitDefEqProofs only [go_sem, o4, o5, c4, c5]
  intro b1 hb_b1 n_b1
  simp -implicitDefEqProofs only [go_sem, o4, o5, c4, c5, hb_b1]
  refine AC_of (stateOf_ac (hv0.ext ((Ext.refl _).set' n_b1 _)) hs) ?_
  rintro _ h2 - ⟨e2, cs2, rfl, F2⟩
  have l2 := F2.r.len
  have t2 := take_len l2
  have o2 := F2.r.one
  have g1 := e2.2.g b1 _ (H.set_get_same _ _ _)
  have E2 := (((Ext.refl _).set' n_b1 _)).trans e2
  skip
  simp -implicitDefEqProofs only [go_sem, l2, t2, o2, o4, o5, c4, c5]
  intro b3 hb3 n3
  have z31 : (b1 = b3) = False := eq_false fun e => by rw [← e, g1] at n3; cases n3
  have e3 := (Ext.refl h2).set n3 ⟨cs2, 8⟩
  have E3 := E2.trans e3
  have G1 := e3.2.g b1 _ g1
  have G3 : (h2.set b3 ⟨cs2, 8⟩).get b3 = some ⟨cs2, 8⟩ := H.set_get_same _ _ _
  cases hst : stM m with
  | none =>
    simp -implicitDefEqProofs only [go_sem, l2, t2, o2, hb3, Option.isSome_none, o4, o5, c4, c5]
    exact ⟨E3, by rw [hR, hst]⟩
  | some s =>
    rw [hst] at F2
    simp only [Option.getD_some] at F2
    have hok := stM_ok hst
    have h20 := logOf_len m hok.2
    have hb8 := baseOf_len hok.1
    have hR2 : R = decide (imageOk (baseOf m) ∧ soundM m s) := by rw [hR, hst]
    simp -implicitDefEqProofs only [go_sem, l2, t2, o2, hb3, z31, ldc_get g1, Option.isSome_some, o4, o5, c4, c5]
    generalize hH : h2.set b3 ⟨cs2, 8⟩ = h3 at e3 E3 G1 G3 ⊢
    refine AC_of (base_ac (hv0.ext E3) hok.1) ?_
    rintro v4 h4 - ⟨e4, f4⟩
    have G1 := e4.2.g b1 _ G1
    have G3 := e4.2.g b3 _ G3
    have E4 := E3.trans e4
    simp -implicitDefEqProofs only [go_sem, f4.sl.vcl, o4, o5, c4, c5]
    refine (isImage_pc f4.sl (by omega)).use ?_
    by_cases hi : imageOk (baseOf m)
    rotate_left
    · simp -implicitDefEqProofs only [go_sem, hi, o4, o5, c4, c5]
      exact ⟨E4, by rw [hR2]; simp [hi]⟩
    obtain ⟨uh, um, rfl, sh, sm⟩ := F2.r
    have o6 := sh.vcl
    have o7 := sm.vcl
    have ph := hok.2.1
    have sd : ∀ x : Bool, (x = true ↔ soundM m s) → Value.bool x = Value.bool R := fun x hx => by rw [hR2]; cases x <;> simp [hi] at hx ⊢ <;> exact hx
    by_cases p1 : s.phase = 1
    · simp -implicitDefEqProofs only [go_sem, hi, ldc_get G3, o6, o7, p1, o4, o5, c4, c5]
      exact ⟨E4, sd true ⟨fun _ => .inl (by omega), fun _ => rfl⟩⟩
    by_cases p2 : s.phase = 2
    · simp -implicitDefEqProofs only [go_sem, hi, ldc_get G3, o6, o7, p2, o4, o5, c4, c5]
      exact ⟨E4, sd true ⟨fun _ => .inl (by omega), fun _ => rfl⟩⟩
    have p3 : ¬ s.phase ≤ 2 := by omega
    simp -implicitDefEqProofs only [go_sem, hi, ldc_get G3, o6, o7, p1, p2, ldc_get G1, o4, o5, c4, c5]
    refine AC_of (log_ac (hv0.ext E4) hok.1 ((F2.ext (e3.trans e4)).r) hok.2) ?_
    rintro v5 h5 - ⟨e5, f5⟩
    have G1 := e5.2.g b1 _ G1
    have G3 := e5.2.g b3 _ G3
    have E5 := E4.trans e5
    simp -implicitDefEqProofs only [go_sem, f5.sl.vcl, ldc_get G1, o4, o5, c4, c5]
    refine (stepsCode_pc f5.sl (by omega)).use ?_
    by_cases hc : codeOf (logOf m s) m.blocks = 0
    rotate_left
    · simp -implicitDefEqProofs only [go_sem, hc, o4, o5, c4, c5]
      exact ⟨E5, sd false ⟨fun h => by simp at h, fun h => absurd (h.resolve_left p3).1 hc⟩⟩
    have hco := (code_zero hc).1
    have h28 := moves_28 hc
    simp -implicitDefEqProofs only [go_sem, hc, o4, o5, c4, c5]
    refine AC_of (planOf_ac f5.sl h20 (steps_dst hco)) ?_
    rintro v6 h6 - ⟨e6, f6⟩
    have G3 := e6.2.g b3 _ G3
    have E6 := E5.trans e6
    simp -implicitDefEqProofs only [go_sem, f6.sl.vcl, ldc_get G3, o6, o7, o4, o5, c4, c5]
    refine (slotsOf_pc f6.sl (by unfold movesM at h28; omega)).use ?_
    by_cases k1 : slots (movesM m s) ≤ s.stash
    rotate_left
    · have k1' : ¬ slots (planB ((logOf m s).filter isW)) ≤ s.stash := k1
      simp -implicitDefEqProofs only [go_sem, k1', ldc_get G3, o6, o7, Sub.refl, o4, o5, c4, c5]
      exact ⟨E6, sd false ⟨fun h => by simp at h, fun h => absurd (h.resolve_left p3).2.1 k1⟩⟩
    have k1' : slots (planB ((logOf m s).filter isW)) ≤ s.stash := k1
    simp -implicitDefEqProofs only [go_sem, k1', ldc_get G3, o6, o7, Sub.refl, o4, o5, c4, c5]
    refine (sizeMove_pc f6.sl).use ?_
    have hl : ((planB ((logOf m s).filter isW)).map UMove.cells).length = (movesM m s).length := by simp [movesM]
    by_cases k2 : s.done ≤ (movesM m s).length
    · have k2' : ((movesM m s).length : Int) ≥ s.done := k2
      simp -implicitDefEqProofs only [go_sem, k2', hl, ldc_get G3, o6, o7, Sub.refl, o4, o5, c4, c5]
      exact ⟨E6, sd true ⟨fun _ => .inr ⟨hc, k1, k2⟩, fun _ => rfl⟩⟩
    · have k2' : ¬ ((movesM m s).length : Int) ≥ s.done := k2
      simp -implicitDefEqProofs only [go_sem, k2', hl, ldc_get G3, o6, o7, Sub.refl, o4, o5, c4, c5]
      exact ⟨E6, sd false ⟨fun h => by simp at h, fun h => absurd (h.resolve_left p3).2.2 k2⟩⟩
/-- spec.l13Sound -/
def b_spec_l13Sound : C := (.seq (.ops [⟨(some 2), none, .box (.t 0)⟩, ⟨(some 3), none, .box (.t 1)⟩, q 4 (.mv (.c (.bool false)))])
 (.seq (.seq (.ops [q 6 (.fld 0 (.t 3)), q 7 (.ld false 1 (.t 6)), q 8 (.bin .leq (.t 7) (.c (i64 2)))])
 (.cond (.t 8) (.seq (.ops [q 4 (.mv (.c (.bool true)))])
 .ret) .skip))
 (.seq (.dops true (.tk (q 9 (.ld true 3 (.t 2))) (.tk (q 10 (.ld true 8 (.t 3))) (.tk (q 12 (.fld 0 (.t 2))) (.tk (q 13 (.ld false 1 (.t 12))) (.alt (⟨(some 11), none, .call (.c (.func (.func 68) #[] #[])) [(.t 9), (.t 10)]⟩) (.alt (⟨(some 14), none, .call (.c (.func (.func 80) #[] #[])) [(.t 11), (.t 13)]⟩) (.sq (⟨(some 5), none, .alloc [nils, (i64 0)]⟩) (.lt (⟨none, none, .st 2 (.t 5) (.t 14)⟩) .nil)) (⟨(some 5), none, .alloc [nils, (i64 0)]⟩) (.sq (⟨(some 14), none, .call (.c (.func (.func 80) #[] #[])) [(.t 11), (.t 13)]⟩) (.lt (⟨none, none, .st 2 (.t 5) (.t 14)⟩) .nil))) (⟨(some 5), none, .alloc [nils, (i64 0)]⟩) (.sq (⟨(some 11), none, .call (.c (.func (.func 68) #[] #[])) [(.t 9), (.t 10)]⟩) (.sq (⟨(some 14), none, .call (.c (.func (.func 80) #[] #[])) [(.t 11), (.t 13)]⟩) (.lt (⟨none, none, .st 2 (.t 5) (.t 14)⟩) .nil)))))))))
 (.seq (.dops true (.tk (q 15 (.fld 1 (.t 5))) (.tk (q 16 (.ld false 1 (.t 15))) (.tk (q 17 (.bin .eql (.t 16) (.c (i64 0)))) (.tk (q 18 (.mv (.t 17))) (.tk (qg 19 18 true (.fld 0 (.t 5))) (.tk (qg 20 18 true (.ld false 1 (.t 19))) (.tk (qg 22 18 true (.fld 3 (.t 3))) (.tk (qg 23 18 true (.ld false 1 (.t 22))) (.sq (⟨(some 21), (some (18, true)), .call (.c (.func (.func 169) #[] #[])) [(.t 20)]⟩) (.tk (qg 24 18 true (.bin .leq (.t 21) (.t 23))) (.tk (q 25 (.pick (.t 18) (.t 24) (.c (.bool false)))) (.tk (q 26 (.mv (.t 25))) (.tk (qg 27 26 true (.fld 4 (.t 3))) (.tk (qg 28 26 true (.ld false 1 (.t 27))) (.tk (qg 29 26 true (.fld 0 (.t 5))) (.tk (qg 30 26 true (.ld false 1 (.t 29))) (.tk (qg 31 26 true (.len (.t 30))) (.tk (qg 32 26 true (.bin .leq (.t 28) (.t 31))) (.tk (q 33 (.pick (.t 26) (.t 32) (.c (.bool false)))) (.tk (q 4 (.mv (.t 33))) .nil)))))))))))))))))))))
 .ret))))
theorem w_spec_l13Sound {args : List Value} {h : H} {Q : Value → H → Prop} (hl : args.length ≤ 34) (hk : wpc Tryz.prog b_spec_l13Sound (retw [.tmp 4] Q) (argsFr args) h) : AC Tryz.prog 94 args h Q :=
  AC.of_wpc mixedOrders Tryz.func94 (by kernel_rfl) (by kernel_rfl : prepF Tryz.prog Tryz.f94 = some ⟨34, [.tmp 4], b_spec_l13Sound⟩) hl hk

set_option maxHeartbeats 1600000 in
theorem l13Sound_pc {h : H} {cs c2 : List Value} {m : UMach} {s : UState} (hv : RepR h (spMach m) cs) (hf : machFit m) (hst : StR h c2 s) (hok : stateOk s) : PC Tryz.prog 94 [.agg cs.toArray, .agg c2.toArray] h (.bool (decide (soundM m s))) := by
  have hv0 := hv
  have hst0 := hst
  have h20 := logOf_len m hok
  obtain ⟨vs, vd, rfl, fr⟩ := mach_r.1 hv
  have o4 := fr.1.one
  have o5 := fr.2.one
  have c4 : vcl vs = [vs] := fr.1.vcl
  have c5 : vcl vd = [vd] := fr.2.vcl
  obtain ⟨uh, um, rfl, sh, sm⟩ := hst
  have o6 := sh.vcl
  have o7 := sm.vcl
  have o8 := sh.one
  have o9 := sm.one
  have sd : ∀ x : Bool, (x = true ↔ soundM m s) → Value.bool x = Value.bool (decide (soundM m s)) := fun x hx => by
    have : x = decide (soundM m s) := by rw [Bool.eq_iff_iff, hx]; simp
    rw [this]
  refine PC_of ?_
  skip
  refine w_spec_l13Sound (by simp) ?_
  unfold b_spec_l13Sound
  refine wpc_cut (fun f1 h1 => ∃ b2 b3, f1 2 = ptr b2 0 ∧ f1 3 = ptr b3 0 ∧ h1.get b2 = some ⟨[i64 m.blocks, vs, vd], 3⟩ ∧ h1.get b3 = some ⟨s.cells uh um, 8⟩ ∧ Ext h h1) ?_ ?_
  · simp -implicitDefEqProofs only [go_sem, o4, o5, c4, c5, o6, o7, o8, o9]
    intro b2 hb_b2 n_b2
    simp -implicitDefEqProofs only [go_sem, o4, o5, c4, c5, o6, o7, o8, o9, hb_b2]
    intro b3 hb_b3 m0_b3
    obtain ⟨z_b3_b2, y_b3_b2, n_b3⟩ := fne m0_b3
    simp only [H.set_base] at hb_b3
    simp -implicitDefEqProofs only [go_sem, o4, o5, c4, c5, o6, o7, o8, o9, hb_b2, hb_b3, z_b3_b2, y_b3_b2]
    exact ⟨b2, b3, rfl, rfl, by simp -implicitDefEqProofs only [go_sem, o4, o5, c4, c5, o6, o7, o8, o9, hb_b2, hb_b3, z_b3_b2, y_b3_b2], by simp -implicitDefEqProofs only [go_sem, o4, o5, c4, c5, o6, o7, o8, o9, hb_b2, hb_b3, z_b3_b2, y_b3_b2], (((Ext.refl _).set' n_b2 _).set' n_b3 _)⟩
  skip
  rintro f1 hS ⟨b2, b3, q2, q3, g2, g3, E0⟩
  have hvS := hv0.ext E0
  have stS := hst0.ext E0
  refine wpc_cut (fun f2 h2 => h2 = hS ∧ f2 2 = ptr b2 0 ∧ f2 3 = ptr b3 0 ∧ ¬ s.phase ≤ 2) ?_ ?_
  · by_cases p1 : s.phase ≤ 2
    · simp -implicitDefEqProofs only [go_sem, q2, q3, ldc_get g3, p1, o4, o5, c4, c5, o6, o7, o8, o9]
      exact ⟨E0, sd true ⟨fun _ => .inl p1, fun _ => rfl⟩⟩
    · simp -implicitDefEqProofs only [go_sem, q2, q3, ldc_get g3, p1, o4, o5, c4, c5, o6, o7, o8, o9]
  rintro f2 h2 ⟨rfl, r2, r3, p1⟩
  refine wpc_cut (fun f3 h3 => ∃ b5 v, f3 3 = ptr b3 0 ∧ f3 5 = ptr b5 0 ∧ h3.get b5 = some ⟨[v, i64 (planOut (logOf m s) m.blocks).2], 2⟩ ∧ Sl h3 v 4 ((planOut (logOf m s) m.blocks).1.map UMove.cells) ∧ Ext h2 h3) ?_ ?_
  · simp -implicitDefEqProofs only [go_sem, r2, r3, ldc_get g2, ldc_get g3, o4, o5, c4, c5, o6, o7, o8, o9]
    refine ⟨?_, ?_⟩
    · refine AC_of (l13Log_ac hvS hf stS hok) ?_
      rintro v5 h5 - ⟨e5, f5⟩
      refine ⟨e5.2, ?_⟩
      simp -implicitDefEqProofs only [go_sem, f5.sl.vcl, o4, o5, c4, c5, o6, o7, o8, o9]
      refine ⟨?_, ?_⟩
      · refine AC_of (specPlanOf_own f5.sl (by omega)) ?_
        rintro _ h6 - ⟨e6, w, rfl, ow⟩
        refine ⟨(e5.trans e6).2, ?_⟩
        simp -implicitDefEqProofs only [go_sem, o4, o5, c4, c5, o6, o7, o8, o9]
        intro b5 hb5 n5
        refine ⟨((e5.trans e6).set n5 _).2, ?_⟩
        simp -implicitDefEqProofs only [go_sem, hb5, ow.sl.one, ow.sl.vcl, r3, o4, o5, c4, c5, o6, o7, o8, o9]
        exact ⟨b5, w, rfl, by rw [if_pos rfl], (ow.sl.ext ((Ext.refl _).set n5 _)), (e5.trans e6).set n5 _⟩
      · intro b5 hb5 n5
        have e6 := e5.set n5 ⟨[nils, i64 0], 2⟩
        refine ⟨e6.2, ?_⟩
        simp -implicitDefEqProofs only [go_sem, o4, o5, c4, c5, o6, o7, o8, o9]
        refine AC_of (specPlanOf_own (f5.sl.ext ((Ext.refl _).set n5 _)) (by omega)) ?_
        rintro _ h7 - ⟨e7, w, rfl, ow⟩
        have g5 := e7.2.g b5 _ (H.set_get_same _ _ _)
        have hb7 : h7.base ≤ b5 := by rw [e7.1, H.set_base]; exact hb5
        refine ⟨(e6.trans e7).2, ?_⟩
        simp -implicitDefEqProofs only [go_sem, hb7, ow.sl.one, ow.sl.vcl, stc_get g5, r3, o4, o5, c4, c5, o6, o7, o8, o9]
        exact ⟨b5, w, rfl, by rw [if_pos rfl], (ow.set0 (b := b5) (by rw [H.set_get_same]; simp) _).sl, (e6.trans e7).set' (e5.none n5) _⟩
    · intro b5 hb5 n5
      have e5 := (Ext.refl h2).set n5 ⟨[nils, i64 0], 2⟩
      refine ⟨e5.2, ?_⟩
      simp -implicitDefEqProofs only [go_sem, o4, o5, c4, c5, o6, o7, o8, o9]
      refine AC_of (l13Log_ac (hvS.ext e5) hf (stS.ext e5) hok) ?_
      rintro v6 h6 - ⟨e6, f6⟩
      refine ⟨(e5.trans e6).2, ?_⟩
      simp -implicitDefEqProofs only [go_sem, f6.sl.vcl, o4, o5, c4, c5, o6, o7, o8, o9]
      refine AC_of (specPlanOf_own f6.sl (by omega)) ?_
      rintro _ h7 - ⟨e7, w, rfl, ow⟩
      have g5 := (e6.trans e7).2.g b5 _ (H.set_get_same _ _ _)
      have hb7 : h7.base ≤ b5 := by rw [e7.1, e6.1, H.set_base]; exact hb5
      refine ⟨(e5.trans (e6.trans e7)).2, ?_⟩
      simp -implicitDefEqProofs only [go_sem, hb7, ow.sl.one, ow.sl.vcl, stc_get g5, r3, o4, o5, c4, c5, o6, o7, o8, o9]
      exact ⟨b5, w, rfl, by rw [if_pos rfl], (ow.set0 (b := b5) (by rw [e6.2.g b5 _ (H.set_get_same _ _ _)]; simp) _).sl, (e5.trans (e6.trans e7)).set' n5 _⟩
  rintro f3 h3 ⟨b5, v, s3, s5, g5, sl5, e5⟩
  have g3 := e5.2.g b3 _ g3
  have E5 := E0.trans e5
  have t7 := sl5.vcl
  unfold planOut at g5 sl5
  rw [if_neg (by omega)] at g5 sl5
  by_cases hc : codeOf (logOf m s) m.blocks = 0
  rotate_left
  · rw [if_neg hc] at g5
    simp -implicitDefEqProofs only [go_sem, s3, s5, ldc_get g5, hc, Sub.refl, o4, o5, c4, c5, o6, o7, o8, o9]
    exact ⟨E5, sd false ⟨fun h => by simp at h, fun h => absurd (h.resolve_left p1).1 hc⟩⟩
  rw [if_pos hc] at g5 sl5
  have h28 := moves_28 hc
  have sl6 : Sl h3 v 4 ((movesM m s).map UMove.cells) := sl5
  have hso : slotsOf (movesM m s) = slots (movesM m s) := by unfold slotsOf; rw [if_pos (by omega)]
  have hl : ((movesM m s).map UMove.cells).length = (movesM m s).length := by simp
  obtain ⟨av, cv, rfl⟩ := sl6.shape
  simp -implicitDefEqProofs only [go_sem, s3, s5, ldc_get g5, Sub.refl, t7, ldc_get g3, o4, o5, c4, c5, o6, o7, o8, o9]
  refine (specSlotsOf_pc sl6 (by omega)).use ?_
  by_cases k1 : slots (movesM m s) ≤ s.stash
  rotate_left
  · simp -implicitDefEqProofs only [go_sem, s3, s5, ldc_get g5, Sub.refl, t7, ldc_get g3, hso, k1, o4, o5, c4, c5, o6, o7, o8, o9]
    exact ⟨E5, sd false ⟨fun h => by simp at h, fun h => absurd (h.resolve_left p1).2.1 k1⟩⟩
  by_cases k2 : s.done ≤ (movesM m s).length
  · simp -implicitDefEqProofs only [go_sem, s3, s5, ldc_get g5, Sub.refl, t7, ldc_get g3, hso, k1, k2, hl, o4, o5, c4, c5, o6, o7, o8, o9]
    exact ⟨E5, sd true ⟨fun _ => .inr ⟨hc, k1, k2⟩, fun _ => rfl⟩⟩
  · simp -implicitDefEqProofs only [go_sem, s3, s5, ldc_get g5, Sub.refl, t7, ldc_get g3, hso, k1, k2, hl, o4, o5, c4, c5, o6, o7, o8, o9]
    exact ⟨E5, sd false ⟨fun h => by simp at h, fun h => absurd (h.resolve_left p1).2.2 k2⟩⟩
/-- spec.MachineRight -/
def b_spec_MachineRight : C := (.seq (.ops [⟨(some 1), none, .box (.t 0)⟩, q 2 (.mv (.c (.bool false)))])
 (.seq (.ops [q 6 (.ld true 3 (.t 1)), ⟨(some 7), none, .call (.c (.func (.func 41) #[] #[])) [(.t 6)]⟩, q 5 (.mv (.t 7)), q 8 (.ext 0 (.t 5)), q 9 (.ext 1 (.t 5)), ⟨(some 3), none, .alloc [(i64 0), (i64 0), (i64 0), (i64 0), (i64 0), (str []), nils, nils]⟩, ⟨none, none, .st 8 (.t 3) (.t 8)⟩, q 4 (.mv (.t 9))])
 (.seq (.ops [q 10 (.mv (.t 4)), q 11 (.mv (.t 10)), qg 12 11 true (.ld true 3 (.t 1)), ⟨(some 13), (some (11, true)), .call (.c (.func (.func 51) #[] #[])) [(.t 12)]⟩, ⟨(some 14), (some (11, true)), .call (.c (.func (.func 93) #[] #[])) [(.t 13)]⟩, q 15 (.pick (.t 11) (.t 14) (.c (.bool false))), q 16 (.mv (.t 15)), qg 17 16 true (.ld true 3 (.t 1)), qg 18 16 true (.ld true 8 (.t 3)), ⟨(some 19), (some (16, true)), .call (.c (.func (.func 94) #[] #[])) [(.t 17), (.t 18)]⟩, q 20 (.pick (.t 16) (.t 19) (.c (.bool false))), q 2 (.mv (.t 20))])
 .ret)))
theorem w_spec_MachineRight {args : List Value} {h : H} {Q : Value → H → Prop} (hl : args.length ≤ 21) (hk : wpc Tryz.prog b_spec_MachineRight (retw [.tmp 2] Q) (argsFr args) h) : AC Tryz.prog 49 args h Q :=
  AC.of_wpc mixedOrders Tryz.func49 (by kernel_rfl) (by kernel_rfl : prepF Tryz.prog Tryz.f49 = some ⟨21, [.tmp 2], b_spec_MachineRight⟩) hl hk

theorem specMachineRight_pc {h : H} {cs : List Value} {m : UMach} (hv : RepR h (spMach m) cs) (hs : m.flash.fin1) : PC Tryz.prog 49 [.agg cs.toArray] h (.bool (rightOut m)) := by
  obtain ⟨R, hR⟩ : ∃ R, R = rightOut m := ⟨_, rfl⟩
  rw [← hR]
  unfold rightOut at hR
  have hv0 := hv
  obtain ⟨vs, vd, rfl, fr⟩ := mach_r.1 hv
  have o4 := fr.1.one
  have o5 := fr.2.one
  have c4 : vcl vs = [vs] := fr.1.vcl
  have c5 : vcl vd = [vd] := fr.2.vcl
  refine PC_of ?_
  skip
  refine w_spec_MachineRight (by simp) ?_
  unfold b_spec_MachineRight
  simp -implicitDefEqProofs only [go_sem, o4, o5, c4, c5]
  intro b1 hb_b1 n_b1
  simp -implicitDefEqProofs only [go_sem, o4, o5, c4, c5, hb_b1]
  refine AC_of (l13State_ac (hv0.ext ((Ext.refl _).set' n_b1 _)) hs) ?_
  rintro _ h2 - ⟨e2, cs2, rfl, F2⟩
  have l2 := F2.r.len
  have t2 := take_len l2
  have o2 := F2.r.one
  have g1 := e2.2.g b1 _ (H.set_get_same _ _ _)
  have E2 := (((Ext.refl _).set' n_b1 _)).trans e2
  skip
  simp -implicitDefEqProofs only [go_sem, l2, t2, o2, o4, o5, c4, c5]
  intro b3 hb3 n3
  have z31 : (b1 = b3) = False := eq_false fun e => by rw [← e, g1] at n3; cases n3
  have e3 := (Ext.refl h2).set n3 ⟨cs2, 8⟩
  have E3 := E2.trans e3
  have G1 := e3.2.g b1 _ g1
  have G3 : (h2.set b3 ⟨cs2, 8⟩).get b3 = some ⟨cs2, 8⟩ := H.set_get_same _ _ _
  cases hst : stM m with
  | none =>
    simp -implicitDefEqProofs only [go_sem, l2, t2, o2, hb3, Option.isSome_none, o4, o5, c4, c5]
    exact ⟨E3, by rw [hR, hst]⟩
  | some s =>
    rw [hst] at F2
    simp only [Option.getD_some] at F2
    have hok := stM_ok hst
    have h20 := logOf_len m hok.2
    have hb8 := baseOf_len hok.1
    have hR2 : R = decide (imageOk (baseOf m) ∧ soundM m s) := by rw [hR, hst]
    simp -implicitDefEqProofs only [go_sem, l2, t2, o2, hb3, z31, ldc_get g1, Option.isSome_some, o4, o5, c4, c5]
    generalize hH : h2.set b3 ⟨cs2, 8⟩ = h3 at e3 E3 G1 G3 ⊢
    refine AC_of (l13Base_ac (hv0.ext E3) hok.1) ?_
    rintro v4 h4 - ⟨e4, f4⟩
    have G1 := e4.2.g b1 _ G1
    have G3 := e4.2.g b3 _ G3
    have E4 := E3.trans e4
    simp -implicitDefEqProofs only [go_sem, f4.sl.vcl, o4, o5, c4, c5]
    refine (specImageRight_pc f4.sl (by omega)).use ?_
    by_cases hi : imageOk (baseOf m)
    rotate_left
    · simp -implicitDefEqProofs only [go_sem, hi, o4, o5, c4, c5]
      exact ⟨E4, by rw [hR2]; simp [hi]⟩
    simp -implicitDefEqProofs only [go_sem, hi, ldc_get G1, ldc_get G3, l2, t2, o2, o4, o5, c4, c5]
    refine (l13Sound_pc (hv0.ext E4) hok.1 ((F2.ext (e3.trans e4)).r) hok.2).use ?_
    simp -implicitDefEqProofs only [go_sem, o4, o5, c4, c5]
    exact ⟨E4, by rw [hR2]; simp [hi]⟩
end Go.Proofs.YtiokibikhanfcaaGreat
