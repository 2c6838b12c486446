/- A right state comes back from its bytes, which have room in the meta; what is idle has what others hold and nothing else: the given statement, with no condition. -/
import Derived.Test.YtdofcojbjcpikaaCYc
import Derived.Test.YtdofcojbjcpikaaC12i
import Derived.Test.YtdofcojbjcpikaaC12o
import Derived.Test.YtdofcojbjcpikaaCF
import Derived.Test.YtdofcojbjcpikaaRows
import Derived.ProofKit
import Derived.ShutString
import Derived.ChangeOld
import Derived.Below
set_option linter.unusedVariables false
set_option linter.unusedSimpArgs false
set_option maxRecDepth 100000
namespace Go.Proofs.Ytdofcojbjcpikaa
open Go.KH

theorem br_cut {P : Program} {p : Prop} {a b r : C} {Q : Ex → Fr → H → Prop} {f : Fr} {h : H} (R : Fr → H → Prop) (ha : p → wpc P a (cutQ R Q) f h) (hb : ¬ p → wpc P b (cutQ R Q) f h) (hr : ∀ f' h', R f' h' → wpc P r Q f' h') : Br p (wpc P a (thenQ P r Q) f h) (wpc P b (thenQ P r Q) f h) :=
  Br.of (fun hp => wpc_cutT R (ha hp) hr) (fun hp => wpc_cutT R (hb hp) hr)
/-- laws.lwNums -/
def b_laws_lwNums : C := (.seq (.ops [q 4 (.mv (.c (.bool false)))])
 (.seq (.seq (.ops [q 6 (.mv (.t 0)), q 7 (.len (.t 6)), q 8 (.mv (.t 1)), q 9 (.len (.t 8)), q 10 (.bin .neq (.t 7) (.t 9))])
 (.cond (.t 10) (.seq (.ops [q 4 (.mv (.c (.bool false)))])
 .ret) .skip))
 (.seq (.seq (.ops [q 5 (.mv (.c (i64 0)))])
 (.block 0 (.loop (.seq (.seq (.ops [q 11 (.mv (.t 5)), q 12 (.mv (.t 0)), q 13 (.len (.t 12)), q 14 (.bin .lss (.t 11) (.t 13))])
 (.cond (.t 14) .skip (.exit 0)))
 (.seq (.block 1 (.seq (.dops true (.tk (q 17 (.mv (.t 0))) (.tk (q 18 (.mv (.t 5))) (.tk (q 19 (.idx 1 (.t 17) (.t 18))) (.tk (q 20 (.ld false 1 (.t 19))) (.tk (q 21 (.mv (.t 1))) (.tk (q 22 (.mv (.t 5))) (.tk (q 23 (.idx 1 (.t 21) (.t 22))) (.tk (q 24 (.ld false 1 (.t 23))) (.tk (q 25 (.bin .neq (.t 20) (.t 24))) .nil))))))))))
 (.cond (.t 25) (.seq (.ops [q 4 (.mv (.c (.bool false)))])
 .ret) .skip)))
 (.ops [q 15 (.mv (.t 5)), q 16 (.bin .add (.t 15) (.c (i64 1))), q 5 (.mv (.t 16))]))))))
 (.seq (.ops [q 4 (.mv (.c (.bool true)))])
 .ret))))
theorem w_laws_lwNums {args : List Value} {h : H} {Q : Value → H → Prop} (hl : args.length ≤ 26) (hk : wpc Try.prog b_laws_lwNums (retw [.tmp 4] Q) (argsFr args) h) : AC Try.prog 15 args h Q :=
  AC.of_wpc mixedOrders Try.func15 (by kernel_rfl) (by kernel_rfl : prepF Try.prog Try.f15 = some ⟨26, [.tmp 4], b_laws_lwNums⟩) hl hk

theorem lwNums_pc {h : H} {v1 v2 : Value} {l1 l2 : List Int} (hv : Sl h v1 1 (ints l1)) (hu : Sl h v2 1 (ints l2)) (hn : l1.length ≤ 1048576) : PC Try.prog 15 [v1, v2] h (.bool (decide (l1 = l2))) := by
  obtain ⟨a, c, b, o, rfl, hc, r2, r3⟩ := hv
  obtain ⟨a', c', b', o', rfl, hc', q2, q3⟩ := hu
  have e1 := ints_len l1
  have e2 := ints_len l2
  rw [e1] at r2
  rw [e2] at q2
  skip
  by_cases hl : l1.length = l2.length
  rotate_left
  · refine w_laws_lwNums (by simp) ?_
    unfold b_laws_lwNums
    simp -implicitDefEqProofs only [go_sem, hl, show ¬ ((l1.length : Int) = (l2.length : Int)) by omega, e1, e2]
    exact dec_f fun h => hl (by rw [h])
  have hl0 : decide ((l1.length : Int) = (l2.length : Int)) = true := decide_eq_true (by omega)
  have hl1 : ((l1.length : Int) ≠ (l2.length : Int)) = False := eq_false fun h => h (by omega)
  refine w_laws_lwNums (by simp) ?_
  unfold b_laws_lwNums
  simp -implicitDefEqProofs only [go_sem, hl0, hl1, e1, e2]
  refine loopW_of (fun m f h' => ∃ k, m + k = l1.length ∧ h' = h ∧ f 0 = .slice a l1.length c ∧ f 1 = .slice a' l2.length c' ∧ f 5 = i64 k ∧ l1.take k = l2.take k) l1.length
    ⟨0, by simp, rfl, by simp -implicitDefEqProofs only [go_sem, e1, e2], by simp -implicitDefEqProofs only [go_sem, e1, e2], by simp -implicitDefEqProofs only [go_sem, e1, e2]; rfl, by simp⟩ ?_
  rintro m f h' ⟨k, hm, rfl, f0, f1, f5, ht⟩
  skip
  by_cases hk : k < l1.length
  · have hk2 : k < l2.length := by omega
    have d1 := r3 k _ (show (ints l1)[k]? = some [i64 l1[k]] by simp [hk])
    have d2 := q3 k _ (show (ints l2)[k]? = some [i64 l2[k]] by simp [hk2])
    have hs : l1.take (k + 1) = l2.take (k + 1) ↔ l1[k] = l2[k] := by
      rw [List.take_succ_eq_append_getElem hk, List.take_succ_eq_append_getElem hk2, ht]
      exact ⟨fun h => (List.cons.inj (List.append_cancel_left h)).1, fun h => by rw [h]⟩
    by_cases he : l1[k] = l2[k]
    · skip
      simp -implicitDefEqProofs only [go_sem, hk, hk2, r2, q2, d1, d2, he, wrap_i64 (show -(9223372036854775808 : Int) ≤ ((k : Int) + 1) by omega) (show ((k : Int) + 1) < 9223372036854775808 by omega), e1, e2, f0, f1, f5, Int.ofNat_lt, Int.natCast_nonneg]
      exact ⟨m - 1, by omega, h', Ext.refl _, k + 1, by omega, rfl, rfl, hs.2 he⟩
    · skip
      simp -implicitDefEqProofs only [go_sem, hk, hk2, r2, q2, d1, d2, he, e1, e2, f0, f1, f5, Int.ofNat_lt, Int.natCast_nonneg]
      exact dec_f fun h => he (hs.1 (by rw [h]))
  · have e : k = l1.length := by omega
    subst e
    simp -implicitDefEqProofs only [go_sem, Nat.lt_irrefl, e1, e2, f0, f1, f5, Int.ofNat_lt, Int.natCast_nonneg]
    exact dec_t (by rw [List.take_length, hl, List.take_length] at ht; exact ht)
/-- laws.lwState -/
def b_laws_lwState : C := (.seq (.ops [⟨(some 2), none, .box (.t 0)⟩, ⟨(some 3), none, .box (.t 1)⟩, q 4 (.mv (.c (.bool false)))])
 (.seq (.dops true (.tk (q 7 (.fld 0 (.t 2))) (.tk (q 8 (.ld true 8 (.t 7))) (.tk (q 9 (.fld 0 (.t 3))) (.tk (q 10 (.ld true 8 (.t 9))) (.alt (⟨(some 5), none, .alloc [(i64 0), (i64 0), (i64 0), (i64 0), (i64 0), (str []), nils, nils]⟩) (.sq (⟨(some 6), none, .alloc [(i64 0), (i64 0), (i64 0), (i64 0), (i64 0), (str []), nils, nils]⟩) (.sq (⟨none, none, .st 8 (.t 5) (.t 8)⟩) (.lt (⟨none, none, .st 8 (.t 6) (.t 10)⟩) .nil))) (⟨(some 6), none, .alloc [(i64 0), (i64 0), (i64 0), (i64 0), (i64 0), (str []), nils, nils]⟩) (.sq (⟨(some 5), none, .alloc [(i64 0), (i64 0), (i64 0), (i64 0), (i64 0), (str []), nils, nils]⟩) (.sq (⟨none, none, .st 8 (.t 5) (.t 8)⟩) (.lt (⟨none, none, .st 8 (.t 6) (.t 10)⟩) .nil)))))))))
 (.seq (.ops [q 11 (.fld 8 (.t 2)), q 12 (.ld false 1 (.t 11)), q 13 (.fld 8 (.t 3)), q 14 (.ld false 1 (.t 13)), q 15 (.bin .eql (.t 12) (.t 14)), q 16 (.mv (.t 15)), qg 17 16 true (.fld 0 (.t 5)), qg 18 16 true (.ld false 1 (.t 17)), qg 19 16 true (.fld 0 (.t 6)), qg 20 16 true (.ld false 1 (.t 19)), qg 21 16 true (.bin .eql (.t 18) (.t 20)), q 22 (.pick (.t 16) (.t 21) (.c (.bool false))), q 23 (.mv (.t 22)), qg 24 23 true (.fld 1 (.t 5)), qg 25 23 true (.ld false 1 (.t 24)), qg 26 23 true (.fld 1 (.t 6)), qg 27 23 true (.ld false 1 (.t 26)), qg 28 23 true (.bin .eql (.t 25) (.t 27)), q 29 (.pick (.t 23) (.t 28) (.c (.bool false))), q 30 (.mv (.t 29)), qg 31 30 true (.fld 2 (.t 5)), qg 32 30 true (.ld false 1 (.t 31)), qg 33 30 true (.fld 2 (.t 6)), qg 34 30 true (.ld false 1 (.t 33)), qg 35 30 true (.bin .eql (.t 32) (.t 34)), q 36 (.pick (.t 30) (.t 35) (.c (.bool false))), q 37 (.mv (.t 36)), qg 38 37 true (.fld 3 (.t 5)), qg 39 37 true (.ld false 1 (.t 38)), qg 40 37 true (.fld 3 (.t 6)), qg 41 37 true (.ld false 1 (.t 40)), qg 42 37 true (.bin .eql (.t 39) (.t 41)), q 43 (.pick (.t 37) (.t 42) (.c (.bool false))), q 44 (.mv (.t 43)), qg 45 44 true (.fld 4 (.t 5)), qg 46 44 true (.ld false 1 (.t 45)), qg 47 44 true (.fld 4 (.t 6)), qg 48 44 true (.ld false 1 (.t 47)), qg 49 44 true (.bin .eql (.t 46) (.t 48)), q 50 (.pick (.t 44) (.t 49) (.c (.bool false))), q 51 (.mv (.t 50)), qg 52 51 true (.fld 5 (.t 5)), qg 53 51 true (.ld false 1 (.t 52)), qg 54 51 true (.fld 5 (.t 6)), qg 55 51 true (.ld false 1 (.t 54)), qg 56 51 true (.bin .eql (.t 53) (.t 55)), q 57 (.pick (.t 51) (.t 56) (.c (.bool false))), q 58 (.mv (.t 57)), qg 59 58 true (.fld 6 (.t 5)), qg 60 58 true (.ld false 1 (.t 59)), qg 61 58 true (.fld 6 (.t 6)), qg 62 58 true (.ld false 1 (.t 61)), ⟨(some 63), (some (58, true)), .call (.c (.func (.func 15) #[] #[])) [(.t 60), (.t 62)]⟩, q 64 (.pick (.t 58) (.t 63) (.c (.bool false))), q 65 (.mv (.t 64)), qg 66 65 true (.fld 7 (.t 5)), qg 67 65 true (.ld false 1 (.t 66)), qg 68 65 true (.fld 7 (.t 6)), qg 69 65 true (.ld false 1 (.t 68)), ⟨(some 70), (some (65, true)), .call (.c (.func (.func 15) #[] #[])) [(.t 67), (.t 69)]⟩, q 71 (.pick (.t 65) (.t 70) (.c (.bool false))), q 4 (.mv (.t 71))])
 .ret)))
theorem w_laws_lwState {args : List Value} {h : H} {Q : Value → H → Prop} (hl : args.length ≤ 72) (hk : wpc Try.prog b_laws_lwState (retw [.tmp 4] Q) (argsFr args) h) : AC Try.prog 10 args h Q :=
  AC.of_wpc mixedOrders Try.func10 (by kernel_rfl) (by kernel_rfl : prepF Try.prog Try.f10 = some ⟨72, [.tmp 4], b_laws_lwState⟩) hl hk

theorem lwState_same {h : H} (s : UState) (c : Int) {vh vm wh wm : Value} (a1 : Sl h vh 1 (ints s.held)) (a2 : Sl h vm 1 (ints s.mine)) (b1 : Sl h wh 1 (ints s.held)) (b2 : Sl h wm 1 (ints s.mine)) (hs : s.small) :
    PC Try.prog 10 [.agg (s.cells vh vm ++ [i64 c]).toArray, .agg (s.cells wh wm ++ [i64 c]).toArray] h (.bool true) := by
  refine PC_of ?_
  have p1 := a1.one
  have p2 := a2.one
  have p3 := b1.one
  have p4 := b2.one
  refine w_laws_lwState (by simp) ?_
  unfold b_laws_lwState
  refine wpc_cut2 (fun f h' => ∃ x2 x3 x5 x6 : Nat, f 2 = ptr x2 0 ∧ f 3 = ptr x3 0 ∧ f 5 = ptr x5 0 ∧ f 6 = ptr x6 0 ∧ Ext h h' ∧ h'.get x2 = some ⟨s.cells vh vm ++ [i64 c], 9⟩ ∧ h'.get x3 = some ⟨s.cells wh wm ++ [i64 c], 9⟩ ∧ h'.get x5 = some ⟨s.cells vh vm, 8⟩ ∧ h'.get x6 = some ⟨s.cells wh wm, 8⟩) ?_ ?_
  · simp -implicitDefEqProofs only [go_sem]
    intro x2 hx2 n2
    have e2 := (Ext.refl h).set n2 ⟨s.cells vh vm ++ [i64 c], 9⟩
    simp -implicitDefEqProofs only [go_sem]
    intro x3 hx3 n3
    have z23 : x2 ≠ x3 := fun e => by rw [← e, H.set_get_same] at n3; cases n3
    have e3 := e2.set n3 ⟨s.cells wh wm ++ [i64 c], 9⟩
    have g3 : ((h.set x2 ⟨s.cells vh vm ++ [i64 c], 9⟩).set x3 ⟨s.cells wh wm ++ [i64 c], 9⟩).get x3 = some ⟨s.cells wh wm ++ [i64 c], 9⟩ := H.set_get_same _ _ _
    have g2 : ((h.set x2 ⟨s.cells vh vm ++ [i64 c], 9⟩).set x3 ⟨s.cells wh wm ++ [i64 c], 9⟩).get x2 = some ⟨s.cells vh vm ++ [i64 c], 9⟩ := by rw [H.set_get_ne _ _ _ _ z23]; exact H.set_get_same _ _ _
    simp only [UState.cells, List.cons_append, List.nil_append] at e3 g2 g3 ⊢
    generalize hH : (h.set x2 ⟨[i64 s.phase, i64 s.tries, i64 s.need, i64 s.stash, i64 s.done, str s.digest, vh, vm, i64 c], 9⟩).set x3 ⟨[i64 s.phase, i64 s.tries, i64 s.need, i64 s.stash, i64 s.done, str s.digest, wh, wm, i64 c], 9⟩ = hA at e3 g2 g3 ⊢
    simp -implicitDefEqProofs only [go_sem, ldc_get g2, ldc_get g3]
    refine ⟨?_, ?_⟩
    · intro x5 hx5 n5
      refine ⟨((Ext.refl hA).set' n5 _).2, ?_⟩
      simp -implicitDefEqProofs only [go_sem]
      intro x6 hx6 n6
      have zz : x5 ≠ x6 := fun e => by rw [← e, H.set_get_same] at n6; cases n6
      have n6A := ((Ext.refl hA).set n5 _).none n6
      refine ⟨(((Ext.refl hA).set' n5 _).set' n6A _).2, ?_⟩
      simp only [H.set_base] at hx6
      simp -implicitDefEqProofs only [go_sem, hx5, p1, p2, eq_false zz, eq_false zz.symm]
      refine ⟨?_, ?_⟩
      · first | exact (((Ext.refl hA).set' n5 _).set' n6A _).2 | exact (((Ext.refl hA).set' n6A _).set' n5 _).2
      simp -implicitDefEqProofs only [go_sem, hx6, p3, p4, eq_false zz, eq_false zz.symm]
      have G : ∀ {b : Nat} {o : Ob}, hA.get b = some o → b ≠ x5 ∧ b ≠ x6 := fun hb => ⟨(fun e => by rw [← e, hb] at n5; cases n5), (fun e => by rw [← e, hb] at n6A; cases n6A)⟩
      refine ⟨x2, x3, x5, x6, rfl, rfl, rfl, rfl, e3.trans ?_, ?_⟩
      · first | exact (((Ext.refl hA).set' n5 _).set' n6A _) | exact (((Ext.refl hA).set' n6A _).set' n5 _)
      · simp only [if_neg (G g2).1, if_neg (G g2).2, if_neg (G g3).1, if_neg (G g3).2, if_neg zz, if_neg zz.symm, if_true, g2, g3, and_self]
    · intro x6 hx6 n6
      refine ⟨((Ext.refl hA).set' n6 _).2, ?_⟩
      simp -implicitDefEqProofs only [go_sem]
      intro x5 hx5 n5
      have zz : x6 ≠ x5 := fun e => by rw [← e, H.set_get_same] at n5; cases n5
      have n5A := ((Ext.refl hA).set n6 _).none n5
      refine ⟨(((Ext.refl hA).set' n6 _).set' n5A _).2, ?_⟩
      simp only [H.set_base] at hx5
      simp -implicitDefEqProofs only [go_sem, hx5, p1, p2, eq_false zz, eq_false zz.symm]
      refine ⟨?_, ?_⟩
      · first | exact (((Ext.refl hA).set' n6 _).set' n5A _).2 | exact (((Ext.refl hA).set' n5A _).set' n6 _).2
      simp -implicitDefEqProofs only [go_sem, hx6, p3, p4, eq_false zz, eq_false zz.symm]
      have G : ∀ {b : Nat} {o : Ob}, hA.get b = some o → b ≠ x5 ∧ b ≠ x6 := fun hb => ⟨(fun e => by rw [← e, hb] at n5A; cases n5A), (fun e => by rw [← e, hb] at n6; cases n6)⟩
      refine ⟨x2, x3, x5, x6, rfl, rfl, rfl, rfl, e3.trans ?_, ?_⟩
      · first | exact (((Ext.refl hA).set' n6 _).set' n5A _) | exact (((Ext.refl hA).set' n5A _).set' n6 _)
      · simp only [if_neg (G g2).1, if_neg (G g2).2, if_neg (G g3).1, if_neg (G g3).2, if_neg zz, if_neg zz.symm, if_true, g2, g3, and_self]
  rintro f h1 ⟨x2, x3, x5, x6, f2, f3, f5, f6, e, g2, g3, g5, g6⟩
  simp only [UState.cells, List.cons_append, List.nil_append] at g2 g3
  simp -implicitDefEqProofs only [go_sem, f2, f3, f5, f6, ldc_get g2, ldc_get g3, ldc_get g5, ldc_get g6]
  refine (lwNums_pc (a1.ext e) (b1.ext e) hs.1).use ?_
  simp -implicitDefEqProofs only [go_sem, f2, f3, f5, f6, ldc_get g2, ldc_get g3, ldc_get g5, ldc_get g6]
  refine (lwNums_pc (a2.ext e) (b2.ext e) hs.2).use ?_
  simp -implicitDefEqProofs only [go_sem, f2, f3, f5, f6, ldc_get g2, ldc_get g3, ldc_get g5, ldc_get g6]
  exact e
/-- laws.FnState -/
def b_laws_FnState : C := (.seq (.ops [q 4 (.mv (.c (.bool false)))])
 (.seq (.seq (.ops [q 10 (.mv (.t 0)), q 11 (.len (.t 10)), q 12 (.bin .gtr (.t 11) (.c (i64 1048576))), q 13 (.mv (.t 12)), qg 14 13 false (.mv (.t 1)), qg 15 13 false (.len (.t 14)), qg 16 13 false (.bin .gtr (.t 15) (.c (i64 1048576))), q 17 (.pick (.t 13) (.c (.bool true)) (.t 16))])
 (.cond (.t 17) (.seq (.ops [q 4 (.mv (.c (.bool true)))])
 .ret) .skip))
 (.seq (.ops [q 18 (.mv (.t 0)), ⟨(some 19), none, .call (.c (.func (.func 4) #[] #[])) [(.t 18)]⟩, ⟨(some 5), none, .alloc [(i64 0), (i64 0), (i64 0), (i64 0), (i64 0), (str []), nils, nils]⟩, ⟨none, none, .st 8 (.t 5) (.t 19)⟩])
 (.seq (.ops [q 20 (.ld true 8 (.t 5)), ⟨(some 21), none, .call (.c (.func (.func 5) #[] #[])) [(.t 20)]⟩, q 6 (.mv (.t 21))])
 (.seq (.ops [q 22 (.mv (.t 1)), ⟨(some 23), none, .call (.c (.func (.func 6) #[] #[])) [(.t 22)]⟩, q 7 (.mv (.t 23))])
 (.seq (.ops [q 24 (.mv (.t 7)), ⟨(some 25), none, .call (.c (.func (.func 7) #[] #[])) [(.t 24)]⟩, ⟨(some 8), none, .alloc [(i64 0), (i64 0), (i64 0), (i64 0), (i64 0), (str []), nils, nils, (i64 0)]⟩, ⟨none, none, .st 9 (.t 8) (.t 25)⟩])
 (.seq (.ops [q 26 (.ld true 8 (.t 5)), ⟨(some 27), none, .call (.c (.func (.func 8) #[] #[])) [(.t 26)]⟩, ⟨(some 9), none, .alloc [(i64 0), (i64 0), (i64 0), (i64 0), (i64 0), (str []), nils, nils]⟩, ⟨none, none, .st 8 (.t 9) (.t 27)⟩])
 (.seq (.seq (.dops true (.tk (q 28 (.mv (.t 6))) (.tk (q 29 (.ld true 8 (.t 5))) (.sq (⟨(some 30), none, .call (.c (.func (.func 9) #[] #[])) [(.t 29)]⟩) (.tk (q 31 (.bin .neq (.t 28) (.t 30))) (.tk (q 32 (.mv (.t 31))) (.tk (qg 33 32 false (.ld true 9 (.t 8))) (.tk (qg 34 32 false (.mv (.t 7))) (.sq (⟨(some 35), (some (32, false)), .call (.c (.func (.func 11) #[] #[])) [(.t 34)]⟩) (.sq (⟨(some 36), (some (32, false)), .call (.c (.func (.func 10) #[] #[])) [(.t 33), (.t 35)]⟩) (.tk (qg 37 32 false (.un .not (.t 36))) (.tk (q 38 (.pick (.t 32) (.c (.bool true)) (.t 37))) (.tk (q 39 (.mv (.t 38))) (.tk (qg 40 39 false (.ld true 8 (.t 9))) (.tk (qg 41 39 false (.build [(i64 0), (i64 0), (i64 0), (i64 0), (i64 0), (str []), nils, nils, (i64 0)] [(0, 8, (.t 40))])) (.tk (qg 42 39 false (.ld true 8 (.t 5))) (.sq (⟨(some 43), (some (39, false)), .call (.c (.func (.func 12) #[] #[])) [(.t 42)]⟩) (.tk (qg 44 39 false (.build [(i64 0), (i64 0), (i64 0), (i64 0), (i64 0), (str []), nils, nils, (i64 0)] [(0, 8, (.t 43))])) (.sq (⟨(some 45), (some (39, false)), .call (.c (.func (.func 10) #[] #[])) [(.t 41), (.t 44)]⟩) (.tk (qg 46 39 false (.un .not (.t 45))) (.tk (q 47 (.pick (.t 39) (.c (.bool true)) (.t 46))) (.tk (q 48 (.mv (.t 47))) (.tk (qg 49 48 false (.ld true 8 (.t 5))) (.tk (qg 51 48 false (.ld true 8 (.t 5))) (.sq (⟨(some 50), (some (48, false)), .call (.c (.func (.func 13) #[] #[])) [(.t 49)]⟩) (.sq (⟨(some 52), (some (48, false)), .call (.c (.func (.func 14) #[] #[])) [(.t 51)]⟩) (.tk (qg 53 48 false (.eqb true (.t 50) (.t 52))) (.tk (q 54 (.pick (.t 48) (.c (.bool true)) (.t 53))) .nil))))))))))))))))))))))))))))
 (.cond (.t 54) (.seq (.ops [q 4 (.mv (.c (.bool false)))])
 .ret) .skip))
 (.seq (.seq (.ops [q 55 (.fld 8 (.t 8)), q 56 (.ld false 1 (.t 55)), q 57 (.bin .eql (.t 56) (.c (i64 0))), q 58 (.mv (.t 57)), qg 59 58 true (.fld 0 (.t 8)), qg 60 58 true (.ld true 8 (.t 59)), ⟨(some 61), (some (58, true)), .call (.c (.func (.func 5) #[] #[])) [(.t 60)]⟩, qg 62 58 true (.mv (.t 7)), qg 63 58 true (.bin .neq (.t 61) (.t 62)), q 64 (.pick (.t 58) (.t 63) (.c (.bool false)))])
 (.cond (.t 64) (.seq (.ops [q 4 (.mv (.c (.bool false)))])
 .ret) .skip))
 (.seq (.seq (.ops [q 65 (.mv (.t 6)), q 66 (.bin .eql (.t 65) (.c (str [])))])
 (.cond (.t 66) (.seq (.ops [q 67 (.ld true 8 (.t 5)), ⟨(some 68), none, .call (.c (.func (.func 14) #[] #[])) [(.t 67)]⟩, q 69 (.un .not (.t 68)), q 4 (.mv (.t 69))])
 .ret) .skip))
 (.seq (.dops true (.tk (q 70 (.mv (.t 6))) (.tk (q 71 (.slen (.t 70))) (.tk (q 72 (.bin .leq (.t 71) (.c (i64 80)))) (.tk (q 73 (.mv (.t 72))) (.tk (qg 74 73 true (.mv (.t 6))) (.tk (qg 76 73 true (.ld true 8 (.t 5))) (.tk (qg 77 73 true (.build [(i64 0), (i64 0), (i64 0), (i64 0), (i64 0), (str []), nils, nils, (i64 0)] [(0, 8, (.t 76))])) (.sq (⟨(some 75), (some (73, true)), .call (.c (.func (.func 7) #[] #[])) [(.t 74)]⟩) (.sq (⟨(some 78), (some (73, true)), .call (.c (.func (.func 10) #[] #[])) [(.t 75), (.t 77)]⟩) (.tk (q 79 (.pick (.t 73) (.t 78) (.c (.bool false)))) (.tk (q 80 (.mv (.t 79))) (.tk (qg 81 80 true (.ld true 8 (.t 9))) (.sq (⟨(some 82), (some (80, true)), .call (.c (.func (.func 13) #[] #[])) [(.t 81)]⟩) (.tk (q 83 (.pick (.t 80) (.t 82) (.c (.bool false)))) (.tk (q 84 (.mv (.t 83))) (.tk (qg 85 84 true (.fld 0 (.t 9))) (.tk (qg 86 84 true (.ld false 1 (.t 85))) (.tk (qg 87 84 true (.bin .eql (.t 86) (.c (i64 1)))) (.tk (q 88 (.pick (.t 84) (.t 87) (.c (.bool false)))) (.tk (q 89 (.mv (.t 88))) (.tk (qg 90 89 true (.fld 6 (.t 9))) (.tk (qg 91 89 true (.ld false 1 (.t 90))) (.tk (qg 92 89 true (.fld 6 (.t 5))) (.tk (qg 93 89 true (.ld false 1 (.t 92))) (.sq (⟨(some 94), (some (89, true)), .call (.c (.func (.func 15) #[] #[])) [(.t 91), (.t 93)]⟩) (.tk (q 95 (.pick (.t 89) (.t 94) (.c (.bool false)))) (.tk (q 96 (.mv (.t 95))) (.tk (qg 97 96 true (.fld 7 (.t 9))) (.tk (qg 98 96 true (.ld false 1 (.t 97))) (.tk (qg 99 96 true (.len (.t 98))) (.tk (qg 100 96 true (.bin .eql (.t 99) (.c (i64 0)))) (.tk (q 101 (.pick (.t 96) (.t 100) (.c (.bool false)))) (.tk (q 4 (.mv (.t 101))) .nil))))))))))))))))))))))))))))))))))
 .ret)))))))))))
theorem w_laws_FnState {args : List Value} {h : H} {Q : Value → H → Prop} (hl : args.length ≤ 102) (hk : wpc Try.prog b_laws_FnState (retw [.tmp 4] Q) (argsFr args) h) : AC Try.prog 3 args h Q :=
  AC.of_wpc mixedOrders Try.func3 (by kernel_rfl) (by kernel_rfl : prepF Try.prog Try.f3 = some ⟨102, [.tmp 4], b_laws_FnState⟩) hl hk

abbrev stoC (o : UState × Int) (vh vm : Value) : List Value := [i64 o.1.phase, i64 o.1.tries, i64 o.1.need, i64 o.1.stash, i64 o.1.done, str o.1.digest, vh, vm, i64 o.2]
theorem ok_idle0 {s : UState} (h : stateOk s) : stateOk ⟨1, 0, 0, 0, 0, [], s.held, []⟩ := by
  refine ⟨by simp, h.2.1, ?_, (fun x hx => by cases hx), ?_⟩
  · simp [listOk]
  · simp
theorem stateIdle_small {s : UState} (h1 : s.held.length ≤ 24) (h2 : s.mine.length ≤ 26) : (stateIdle s).small := by
  unfold stateIdle
  split
  · exact ⟨by simp only; omega, by simp⟩
  · exact ⟨by omega, by omega⟩
set_option maxHeartbeats 3200000 in
theorem fnState_walk {h : H} {va vb : Value} {l1 l2 : List UInt8} (A : Sl h va 1 (bys l1)) (B : Sl h vb 1 (bys l2)) : AC Try.prog 3 [va, vb] h fun r _ => r = .bool true := by
  have k1 : (bys l1).length = l1.length := by simp [bys]
  have k2 : (bys l2).length = l2.length := by simp [bys]
  obtain ⟨a1, c1, rfl⟩ := A.shape
  obtain ⟨a2, c2, rfl⟩ := B.shape
  rw [k1] at A
  rw [k2] at B
  skip
  refine w_laws_FnState (by simp) ?_
  unfold b_laws_FnState
  simp -implicitDefEqProofs only [go_sem, k1, k2]
  by_cases h1 : 1048576 < l1.length
  · simp -implicitDefEqProofs only [go_sem, show (1048576 : Int) < (l1.length : Int) by omega, k1, k2]
  by_cases h2 : 1048576 < l2.length
  · simp -implicitDefEqProofs only [go_sem, show ¬ (1048576 : Int) < (l1.length : Int) by omega, show (1048576 : Int) < (l2.length : Int) by omega, k1, k2]
  simp -implicitDefEqProofs only [go_sem, show ¬ (1048576 : Int) < (l1.length : Int) by omega, show ¬ (1048576 : Int) < (l2.length : Int) by omega, k1, k2]
  refine AC_of (drawStateBytes_ac A (by omega)) ?_
  rintro _ h3 - ⟨e3, s, uh, um, rfl, sh, sm, lh, lm⟩
  have hsm : s.small := ⟨by omega, by omega⟩
  have u1 := sh.one
  have u2 := sm.one
  simp -implicitDefEqProofs only [go_sem, k1, k2]
  intro b5 hb5 n5
  simp -implicitDefEqProofs only [go_sem, hb5, u1, u2, k1, k2]
  have e5 := (Ext.refl h3).set n5 ⟨s.cells uh um, 8⟩
  have g5 : (h3.set b5 ⟨s.cells uh um, 8⟩).get b5 = some ⟨s.cells uh um, 8⟩ := H.set_get_same _ _ _
  generalize hH5 : h3.set b5 ⟨s.cells uh um, 8⟩ = h4 at e5 g5 ⊢
  replace sh := sh.ext e5
  replace sm := sm.ext e5
  replace B := B.ext (e3.trans e5)
  simp -implicitDefEqProofs only [go_sem, ldc_get g5, k1, k2]
  refine (implStateBytes_pc s sh sm hsm).use ?_
  obtain ⟨t, ht⟩ : ∃ t, stateBytes s = t := ⟨_, rfl⟩
  rw [ht]
  simp -implicitDefEqProofs only [go_sem, k1, k2]
  refine AC_of (drawStateRead_ac B (by omega)) ?_
  rintro _ h6 - ⟨e6, u, hu, rfl⟩
  simp -implicitDefEqProofs only [go_sem, k1, k2]
  refine AC_of (implStateRead_ac (t := u)) ?_
  rintro _ h7 - ⟨e7, cs7, rfl, _, rfl, rh, rm, rfl, fh, fm, -⟩
  obtain ⟨ro, hro⟩ : ∃ ro, stOut u = ro := ⟨_, rfl⟩
  have hfin := stOut_fin u
  rw [hro] at fh fm hfin ⊢
  have hrs : ro.1.small := ⟨by omega, by omega⟩
  have v1 := fh.sl.one
  have v2 := fm.sl.one
  have g57 := (e6.trans e7).2.g b5 _ g5
  simp -implicitDefEqProofs only [go_sem, k1, k2]
  intro b8 hb8 n8
  have z58 : b5 ≠ b8 := fun e => by rw [← e, g57] at n8; cases n8
  simp -implicitDefEqProofs only [go_sem, hb8, v1, v2, eq_false z58, ldc_get g57, k1, k2]
  have e8 := (Ext.refl h7).set n8 ⟨stoC ro rh rm, 9⟩
  have g8 : (h7.set b8 ⟨stoC ro rh rm, 9⟩).get b8 = some ⟨stoC ro rh rm, 9⟩ := H.set_get_same _ _ _
  generalize hH8 : h7.set b8 ⟨stoC ro rh rm, 9⟩ = h9 at e8 g8 ⊢
  have g59 := e8.2.g b5 _ g57
  have rh9 := fh.sl.ext e8
  have rm9 := fm.sl.ext e8
  have E9 := (e6.trans e7).trans e8
  refine AC_of (implStateIdle_ac (s := s) ⟨uh, um, rfl, sh.ext E9, sm.ext E9⟩ hsm) ?_
  rintro _ h10 - ⟨e10, _, rfl, ih, im, rfl, jh, jm, -⟩
  obtain ⟨ii, hii⟩ : ∃ ii, stateIdle s = ii := ⟨_, rfl⟩
  have his := stateIdle_small (s := s) lh lm
  rw [hii] at jh jm his ⊢
  have w1 := jh.sl.one
  have w2 := jm.sl.one
  simp -implicitDefEqProofs only [go_sem, k1, k2]
  intro b9 hb9 n9
  have g5a := e10.2.g b5 _ g59
  have g8a := e10.2.g b8 _ g8
  have z59 : b5 ≠ b9 := fun e => by rw [← e, g5a] at n9; cases n9
  have z89 : b8 ≠ b9 := fun e => by rw [← e, g8a] at n9; cases n9
  simp -implicitDefEqProofs only [go_sem, hb9, w1, w2, eq_false z59, ldc_get g5a, k1, k2]
  have e11 := (Ext.refl h10).set n9 ⟨ii.cells ih im, 8⟩
  have g9 : (h10.set b9 ⟨ii.cells ih im, 8⟩).get b9 = some ⟨ii.cells ih im, 8⟩ := H.set_get_same _ _ _
  generalize hH9 : h10.set b9 ⟨ii.cells ih im, 8⟩ = hA at e11 g9 ⊢
  have eA := e10.trans e11
  have G5 := eA.2.g b5 _ g59
  have G8 := eA.2.g b8 _ g8
  have SH := (sh.ext E9).ext eA
  have SM := (sm.ext E9).ext eA
  have RH := rh9.ext eA
  have RM := rm9.ext eA
  have IH := jh.sl.ext e11
  have IM := jm.sl.ext e11
  clear e3 e5 e6 e7 e8 e10 e11 eA E9 A B sh sm rh9 rm9 jh jm fh fm g5 g57 g59 g8 hH5 hH8 hH9 n5 n8 n9 hb5 hb8 hb9
  refine (specStateBytes_pc s SH SM hsm).use ?_
  rw [ht]
  simp -implicitDefEqProofs only [go_sem, Sub.refl, ldc_get G8, k1, k2]
  refine AC_of (specStateRead_ac (t := u)) ?_
  rintro _ h12 - ⟨e12, cs12, rfl, _, rfl, ph, pm, rfl, qh, qm, -⟩
  rw [hro] at qh qm ⊢
  simp -implicitDefEqProofs only [go_sem, e12.2, k1, k2]
  refine (lwState_same ro.1 ro.2 (RH.ext e12) (RM.ext e12) qh.sl qm.sl hrs).use ?_
  have y5 := e12.2.g b5 _ G5
  have y8 := e12.2.g b8 _ G8
  have y9 := e12.2.g b9 _ g9
  simp -implicitDefEqProofs only [go_sem, e12.2, ldc_get G5, ldc_get g9, k1, k2]
  refine AC_of (specStateIdle_ac (s := s) ⟨uh, um, rfl, SH.ext e12, SM.ext e12⟩ hsm) ?_
  rintro _ h13 - ⟨e13, _, rfl, kh, km, rfl, xh, xm, -⟩
  rw [hii] at xh xm ⊢
  have e14 := e12.trans e13
  simp -implicitDefEqProofs only [go_sem, e14.2, k1, k2]
  refine (lwState_same ii 0 (IH.ext e14) (IM.ext e14) xh.sl xm.sl his).use ?_
  simp -implicitDefEqProofs only [go_sem, e14.2, ldc_get G5, k1, k2]
  refine (implStateRight_pc s (SH.ext e14) (SM.ext e14) hsm).use ?_
  simp -implicitDefEqProofs only [go_sem, e14.2, ldc_get G5, k1, k2]
  refine (specStateRight_pc s (SH.ext e14) (SM.ext e14) hsm).use ?_
  have z5 := e14.2.g b5 _ G5
  have z8 := e14.2.g b8 _ G8
  have z9 := e14.2.g b9 _ g9
  have PH := RH.ext e14
  have PM := RM.ext e14
  have QH := SH.ext e14
  have QM := SM.ext e14
  have JH := IH.ext e14
  have JM := IM.ext e14
  have hr0 : ro.2 = 0 → stateBytes ro.1 = u := fun h0 => by
    unfold stOut at hro
    split at hro
    · rw [← hro] at h0; cases h0
    · cases hq : stI u with
      | none => rw [hq] at hro; simp only at hro; rw [← hro] at h0; cases h0
      | some x =>
        rw [hq] at hro
        simp only at hro
        obtain ⟨q1, q2⟩ := stI_back hq
        rw [← hro]
        unfold stateBytes
        rw [if_pos q1]; exact q2
  clear e12 e13 qh qm xh xm SH SM RH RM IH IM G5 G8 g9 y5 y8 y9
  rw [show (decide (stateOk s) : Bool) = decide (stateOk s) from rfl]
  simp -implicitDefEqProofs only [go_sem, Sub.refl, e14.2, k1, k2]
  generalize h13 = hZ at *
  by_cases h0 : ro.2 = 0
  simp -implicitDefEqProofs only [go_sem, ldc_get z8, h0, k1, k2]
  refine (implStateBytes_pc ro.1 PH PM hrs).use ?_
  rw [hr0 h0]
  simp -implicitDefEqProofs only [go_sem, Sub.refl, k1, k2]
  rotate_left
  simp -implicitDefEqProofs only [go_sem, ldc_get z8, h0, k1, k2]
  all_goals
    by_cases hok : stateOk s
    rotate_left
    · have hn : t = [] := by rw [← ht]; unfold stateBytes; rw [if_neg hok]
      have hn' : decide (t = []) = true := decide_eq_true hn
      simp -implicitDefEqProofs only [go_sem, hn, ldc_get z5, k1, k2]
      refine (specStateRight_pc s QH QM hsm).use ?_
      simp -implicitDefEqProofs only [go_sem, hok, k1, k2]
    · have htb : stateB s = t := by rw [← ht]; unfold stateBytes; rw [if_pos hok]
      have hn : ¬ t = [] := fun e => by
        have := stateB_pos s
        rw [htb, e] at this; simp at this
      have h80 : t.length ≤ 80 := by
        have := stateB_46 hok
        rw [htb] at this; omega
      have hst : stOut t = (s, 0) := by
        have := stI_put hok
        rw [htb] at this
        unfold stOut
        rw [if_neg (by omega), this]
      have hidle : ii = ⟨1, 0, 0, 0, 0, [], s.held, []⟩ := by rw [← hii]; unfold stateIdle; rw [if_pos hok]
      have hiok : stateOk ii := by rw [hidle]; exact ok_idle0 hok
      simp -implicitDefEqProofs only [go_sem, eq_false hn, show (t.length : Int) ≤ 80 by omega, ldc_get z5, k1, k2]
      refine AC_of (implStateRead_ac (t := t)) ?_
      rintro _ h15 - ⟨e15, cs15, rfl, _, rfl, ph, pm, rfl, qh, qm, -⟩
      rw [hst] at qh qm ⊢
      have y9 := e15.2.g b9 _ z9
      have y5 := e15.2.g b5 _ z5
      simp -implicitDefEqProofs only [go_sem, e15.2, k1, k2]
      refine (lwState_same s 0 qh.sl qm.sl (QH.ext e15) (QM.ext e15) hsm).use ?_
      simp -implicitDefEqProofs only [go_sem, e15.2, ldc_get z9, k1, k2]
      refine (implStateRight_pc ii (JH.ext e15) (JM.ext e15) his).use ?_
      have JH' := JH.ext e15
      have JM' := JM.ext e15
      obtain ⟨am, cm, ejm⟩ := JM'.shape
      rw [hidle] at ejm JH'
      simp only [ints_len, List.length_nil] at ejm
      subst ejm
      rw [hidle] at z9
      simp -implicitDefEqProofs only [go_sem, e15.2, eq_true hiok, ldc_get z9, ldc_get z5, k1, k2]
      refine (lwNums_pc JH' (QH.ext e15) (by simp only; omega)).use ?_
      simp -implicitDefEqProofs only [go_sem, e15.2, ldc_get z9, k1, k2]
      rfl
theorem fnState_law (h : H) (args : List Value) (ha : okAs h [.one (.sl [.int .u8]), .one (.sl [.int .u8])] args) : AC Try.prog 3 args h fun r _ => r = .bool true := by
  obtain ⟨v, w, l1, l2, rfl, A, B⟩ := okAs_codes ha
  exact fnState_walk A B
section
open Go.ChangeShapes Go.WideShapes Go.ChangeAt Go.RowKit
theorem fnState_lifted (os : Os) (started : os.Started) (H' : Type) (enc : TypeId × Value → H') : ReturnsInHanded {} Try.checked os 3 .any (Rows.fnStateSpec.pre6 enc Try.prog Try.f3 Rows.fnStateRow.domain false) (Rows.fnStateSpec.post enc Try.prog Try.f3 false true false false) :=
  law_row (Ck := Try.checked) [.one (.sl [.int .u8]), .one (.sl [.int .u8])] (by kernel_rfl) started (by kernel_rfl) Try.func3 (ChangeSpec.witness6 (enc := enc) (C := Try.checked) false ⟨#[], #[.slice none 0 0, .slice none 0 0], []⟩ 8 (by kernel_rfl) (by kernel_rfl) (by kernel_rfl) (by kernel_rfl))
    (by kernel_rfl) (by kernel_rfl) rfl (by kernel_rfl : Try.prog.underlying (Try.f3.resultTypes.getD 0 0) = some .bool) rfl
    (fun ds hd => by
      rw [show Try.f3.params.toList.length = 2 by kernel_rfl] at hd
      match ds, hd with
      | [_, _], _ => rfl)
    (by kernel_rfl) fnState_law
theorem fnState_holds : Rows.FnStateSaid :=
  OpenClaim.holds_of_wide 3 Try.f3 rfl rfl rfl rfl rfl rfl rfl ⟨rfl, rfl, rfl, rfl, rfl⟩ rfl rfl rfl rfl rfl (by kernel_rfl) Try.func3 (by kernel_rfl)
    (of_decide_eq_true (by kernel_rfl)) (by unfold Func.isWrapper; first | (rw [if_pos (by decide +kernel)]; kernel_rfl) | (rw [if_neg (by decide +kernel)]; exact ⟨rfl, rfl⟩))
    (fun os started H' enc _ => fnState_lifted os started H' enc)
end
end Go.Proofs.Ytdofcojbjcpikaa
