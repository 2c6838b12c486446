/- IdealDo of the program returns what IdealDo of the reference returns, for all arguments: the given statement, with no condition. -/
import Derived.Test.YtdofcojbjcpikaaGreatDoorC15n
import Derived.Test.YtdofcojbjcpikaaGreatDoorMC15i
import Derived.Test.YtdofcojbjcpikaaGreatDoorMK31
import Derived.Test.YtdofcojbjcpikaaGreatDoorRows
import Derived.Test.YtdofcojbjcpikaaGreatDoorCards
import Derived.Test.YtdofcojbjcpikaaGreatDoorTie
import Derived.SevenTiedAt
import Derived.ProofKit
import Derived.ShutString
import Derived.ChangeOld
import Derived.Below
set_option linter.unusedVariables false
set_option linter.unusedSimpArgs false
set_option maxRecDepth 100000
namespace Go.Proofs.YtdofcojbjcpikaaGreatDoor
open Go.KH

/-- laws.FnExactIdealDo -/
def b_laws_FnExactIdealDo : C := (.seq (.ops [⟨(some 2), none, .box (.t 0)⟩, ⟨(some 3), none, .box (.t 1)⟩, q 4 (.mv (.c (.bool false)))])
 (.seq (.ops [q 5 (.mv (.c (i64 1048576)))])
 (.seq (.ops [q 13 (.ld true 9 (.t 2)), q 14 (.mv (.t 5)), ⟨(some 15), none, .call (.c (.func (.func 7) #[] #[])) [(.t 13), (.t 14)]⟩, q 5 (.mv (.t 15))])
 (.seq (.seq (.ops [q 16 (.mv (.t 5)), q 17 (.bin .lss (.t 16) (.c (i64 0)))])
 (.cond (.t 17) (.seq (.ops [q 4 (.mv (.c (.bool true)))])
 .ret) .skip))
 (.seq (.ops [q 18 (.ld true 8 (.t 3)), q 19 (.mv (.t 5)), ⟨(some 20), none, .call (.c (.func (.func 8) #[] #[])) [(.t 18), (.t 19)]⟩, q 5 (.mv (.t 20))])
 (.seq (.seq (.ops [q 21 (.mv (.t 5)), q 22 (.bin .lss (.t 21) (.c (i64 0)))])
 (.cond (.t 22) (.seq (.ops [q 4 (.mv (.c (.bool true)))])
 .ret) .skip))
 (.seq (.dopx (.tk (q 23 (.ld true 9 (.t 2))) (.tk (q 25 (.ld true 8 (.t 3))) (.alt (⟨(some 24), none, .call (.c (.func (.func 10) #[] #[])) [(.t 23)]⟩) (.alt (⟨(some 26), none, .call (.c (.func (.func 11) #[] #[])) [(.t 25)]⟩) (.alt (⟨(some 27), none, .call (.c (.func (.func 9) #[] #[])) [(.t 24), (.t 26)]⟩) (.sq (⟨(some 6), none, .alloc [(i64 0), (i64 0), (i64 0), (i64 0), (i64 0), (i64 0), (str []), nils, nils, (str []), nils, (i64 0)]⟩) (.lt (⟨none, none, .st 12 (.t 6) (.t 27)⟩) .nil)) (⟨(some 6), none, .alloc [(i64 0), (i64 0), (i64 0), (i64 0), (i64 0), (i64 0), (str []), nils, nils, (str []), nils, (i64 0)]⟩) (.sq (⟨(some 27), none, .call (.c (.func (.func 9) #[] #[])) [(.t 24), (.t 26)]⟩) (.lt (⟨none, none, .st 12 (.t 6) (.t 27)⟩) .nil))) (⟨(some 6), none, .alloc [(i64 0), (i64 0), (i64 0), (i64 0), (i64 0), (i64 0), (str []), nils, nils, (str []), nils, (i64 0)]⟩) (.sq (⟨(some 26), none, .call (.c (.func (.func 11) #[] #[])) [(.t 25)]⟩) (.sq (⟨(some 27), none, .call (.c (.func (.func 9) #[] #[])) [(.t 24), (.t 26)]⟩) (.lt (⟨none, none, .st 12 (.t 6) (.t 27)⟩) .nil)))) (⟨(some 6), none, .alloc [(i64 0), (i64 0), (i64 0), (i64 0), (i64 0), (i64 0), (str []), nils, nils, (str []), nils, (i64 0)]⟩) (.sq (⟨(some 24), none, .call (.c (.func (.func 10) #[] #[])) [(.t 23)]⟩) (.sq (⟨(some 26), none, .call (.c (.func (.func 11) #[] #[])) [(.t 25)]⟩) (.sq (⟨(some 27), none, .call (.c (.func (.func 9) #[] #[])) [(.t 24), (.t 26)]⟩) (.lt (⟨none, none, .st 12 (.t 6) (.t 27)⟩) .nil))))))))
 (.seq (.ops [q 28 (.ld true 9 (.t 2)), ⟨(some 29), none, .call (.c (.func (.func 10) #[] #[])) [(.t 28)]⟩, ⟨(some 7), none, .alloc [(i64 0), (i64 0), (i64 0), (i64 0), (i64 0), (i64 0), (str []), nils, nils]⟩, ⟨none, none, .st 9 (.t 7) (.t 29)⟩])
 (.seq (.dopx (.tk (q 30 (.ld true 9 (.t 7))) (.tk (q 31 (.ld true 8 (.t 3))) (.alt (⟨(some 32), none, .call (.c (.func (.func 11) #[] #[])) [(.t 31)]⟩) (.alt (⟨(some 33), none, .call (.c (.func (.func 12) #[] #[])) [(.t 30), (.t 32)]⟩) (.sq (⟨(some 8), none, .alloc [(i64 0), (i64 0), (i64 0), (i64 0), (i64 0), (i64 0), (str []), nils, nils, (str []), nils, (i64 0)]⟩) (.lt (⟨none, none, .st 12 (.t 8) (.t 33)⟩) .nil)) (⟨(some 8), none, .alloc [(i64 0), (i64 0), (i64 0), (i64 0), (i64 0), (i64 0), (str []), nils, nils, (str []), nils, (i64 0)]⟩) (.sq (⟨(some 33), none, .call (.c (.func (.func 12) #[] #[])) [(.t 30), (.t 32)]⟩) (.lt (⟨none, none, .st 12 (.t 8) (.t 33)⟩) .nil))) (⟨(some 8), none, .alloc [(i64 0), (i64 0), (i64 0), (i64 0), (i64 0), (i64 0), (str []), nils, nils, (str []), nils, (i64 0)]⟩) (.sq (⟨(some 32), none, .call (.c (.func (.func 11) #[] #[])) [(.t 31)]⟩) (.sq (⟨(some 33), none, .call (.c (.func (.func 12) #[] #[])) [(.t 30), (.t 32)]⟩) (.lt (⟨none, none, .st 12 (.t 8) (.t 33)⟩) .nil)))))))
 (.seq (.seq (.ops [q 34 (.ld true 12 (.t 8)), q 35 (.ld true 12 (.t 6)), ⟨(some 36), none, .call (.c (.func (.func 13) #[] #[])) [(.t 34), (.t 35)]⟩, q 37 (.un .not (.t 36))])
 (.cond (.t 37) (.seq (.ops [q 4 (.mv (.c (.bool false)))])
 .ret) .skip))
 (.seq (.seq (.dopx (.tk (q 38 (.ld true 9 (.t 7))) (.tk (q 39 (.ld true 9 (.t 2))) (.sq (⟨(some 40), none, .call (.c (.func (.func 10) #[] #[])) [(.t 39)]⟩) (.sq (⟨(some 41), none, .call (.c (.func (.func 14) #[] #[])) [(.t 38), (.t 40)]⟩) (.tk (q 42 (.un .not (.t 41))) .nil))))))
 (.cond (.t 42) (.seq (.ops [q 4 (.mv (.c (.bool false)))])
 .ret) .skip))
 (.seq (.ops [q 9 (.mv (.c (i64 1)))])
 (.seq (.ops [q 43 (.ld true 9 (.t 7)), q 44 (.mv (.t 9)), ⟨(some 45), none, .call (.c (.func (.func 15) #[] #[])) [(.t 43), (.t 44)]⟩, q 9 (.mv (.t 45))])
 (.seq (.seq (.ops [q 46 (.mv (.t 9)), q 47 (.bin .lss (.t 46) (.c (i64 0))), q 48 (.mv (.t 47)), qg 49 48 false (.ld true 12 (.t 8)), qg 50 48 false (.ld true 12 (.t 6)), ⟨(some 51), (some (48, false)), .call (.c (.func (.func 13) #[] #[])) [(.t 49), (.t 50)]⟩, qg 52 48 false (.un .not (.t 51)), q 53 (.pick (.t 48) (.c (.bool true)) (.t 52))])
 (.cond (.t 53) (.seq (.ops [q 4 (.mv (.c (.bool false)))])
 .ret) .skip))
 (.seq (.ops [q 10 (.mv (.c (i64 1)))])
 (.seq (.ops [q 54 (.ld true 12 (.t 8)), q 55 (.mv (.t 10)), ⟨(some 56), none, .call (.c (.func (.func 16) #[] #[])) [(.t 54), (.t 55)]⟩, q 10 (.mv (.t 56))])
 (.seq (.ops [q 11 (.mv (.c (i64 1)))])
 (.seq (.ops [q 57 (.ld true 12 (.t 8)), q 58 (.mv (.t 11)), ⟨(some 59), none, .call (.c (.func (.func 17) #[] #[])) [(.t 57), (.t 58)]⟩, q 11 (.mv (.t 59))])
 (.seq (.seq (.ops [q 60 (.mv (.t 11)), q 61 (.bin .lss (.t 60) (.c (i64 0)))])
 (.cond (.t 61) (.seq (.ops [q 4 (.mv (.c (.bool false)))])
 .ret) .skip))
 (.seq (.seq (.ops [q 62 (.mv (.t 11)), q 63 (.mv (.t 10)), q 64 (.bin .neq (.t 62) (.t 63))])
 (.cond (.t 64) (.seq (.ops [q 4 (.mv (.c (.bool false)))])
 .ret) .skip))
 (.seq (.dopx (.tk (q 65 (.ld true 9 (.t 2))) (.tk (q 67 (.ld true 8 (.t 3))) (.alt (⟨(some 66), none, .call (.c (.func (.func 10) #[] #[])) [(.t 65)]⟩) (.alt (⟨(some 68), none, .call (.c (.func (.func 11) #[] #[])) [(.t 67)]⟩) (.alt (⟨(some 69), none, .call (.c (.func (.func 12) #[] #[])) [(.t 66), (.t 68)]⟩) (.sq (⟨(some 12), none, .alloc [(i64 0), (i64 0), (i64 0), (i64 0), (i64 0), (i64 0), (str []), nils, nils, (str []), nils, (i64 0)]⟩) (.lt (⟨none, none, .st 12 (.t 12) (.t 69)⟩) .nil)) (⟨(some 12), none, .alloc [(i64 0), (i64 0), (i64 0), (i64 0), (i64 0), (i64 0), (str []), nils, nils, (str []), nils, (i64 0)]⟩) (.sq (⟨(some 69), none, .call (.c (.func (.func 12) #[] #[])) [(.t 66), (.t 68)]⟩) (.lt (⟨none, none, .st 12 (.t 12) (.t 69)⟩) .nil))) (⟨(some 12), none, .alloc [(i64 0), (i64 0), (i64 0), (i64 0), (i64 0), (i64 0), (str []), nils, nils, (str []), nils, (i64 0)]⟩) (.sq (⟨(some 68), none, .call (.c (.func (.func 11) #[] #[])) [(.t 67)]⟩) (.sq (⟨(some 69), none, .call (.c (.func (.func 12) #[] #[])) [(.t 66), (.t 68)]⟩) (.lt (⟨none, none, .st 12 (.t 12) (.t 69)⟩) .nil)))) (⟨(some 12), none, .alloc [(i64 0), (i64 0), (i64 0), (i64 0), (i64 0), (i64 0), (str []), nils, nils, (str []), nils, (i64 0)]⟩) (.sq (⟨(some 66), none, .call (.c (.func (.func 10) #[] #[])) [(.t 65)]⟩) (.sq (⟨(some 68), none, .call (.c (.func (.func 11) #[] #[])) [(.t 67)]⟩) (.sq (⟨(some 69), none, .call (.c (.func (.func 12) #[] #[])) [(.t 66), (.t 68)]⟩) (.lt (⟨none, none, .st 12 (.t 12) (.t 69)⟩) .nil))))))))
 (.seq (.seq (.ops [q 70 (.ld true 12 (.t 12)), q 71 (.ld true 12 (.t 6)), ⟨(some 72), none, .call (.c (.func (.func 13) #[] #[])) [(.t 70), (.t 71)]⟩, q 73 (.un .not (.t 72))])
 (.cond (.t 73) (.seq (.ops [q 4 (.mv (.c (.bool false)))])
 .ret) .skip))
 (.seq (.ops [q 11 (.mv (.c (i64 1)))])
 (.seq (.ops [q 74 (.ld true 12 (.t 8)), q 75 (.mv (.t 11)), ⟨(some 76), none, .call (.c (.func (.func 17) #[] #[])) [(.t 74), (.t 75)]⟩, q 11 (.mv (.t 76))])
 (.seq (.seq (.ops [q 77 (.mv (.t 11)), q 78 (.bin .lss (.t 77) (.c (i64 0)))])
 (.cond (.t 78) (.seq (.ops [q 4 (.mv (.c (.bool false)))])
 .ret) .skip))
 (.seq (.seq (.ops [q 79 (.mv (.t 11)), q 80 (.mv (.t 10)), q 81 (.bin .neq (.t 79) (.t 80))])
 (.cond (.t 81) (.seq (.ops [q 4 (.mv (.c (.bool false)))])
 .ret) .skip))
 (.seq (.ops [q 4 (.mv (.c (.bool true)))])
 .ret)))))))))))))))))))))))))))
theorem w_laws_FnExactIdealDo {args : List Value} {h : H} {Q : Value → H → Prop} (hl : args.length ≤ 82) (hk : wpc Tryz.prog b_laws_FnExactIdealDo (retw [.tmp 4] Q) (argsFr args) h) : AC Tryz.prog 3 args h Q :=
  AC.of_wpcx mixedOrders Tryz.func3 (by kernel_rfl) (by kernel_rfl : prepFx Tryz.prog Tryz.f3 = some ⟨82, [.tmp 4], b_laws_FnExactIdealDo⟩) hl hk

def RegK (n : Nat) (h0 x : H) (sp : List Sp) (v : Value) : Prop := ∃ bW wW, v = ptr bW 0 ∧ Ext h0 x ∧ h0.get bW = none ∧ h0.base ≤ bW ∧ x.get bW = some ⟨wW, n⟩ ∧ RepF h0 x sp wW ∧ ¬ blks wW bW
theorem RegK.of {n bW : Nat} {h0 h : H} {sp : List Sp} {wW : List Value} (E : Ext h0 h) (N : h0.get bW = none) (HB : h0.base ≤ bW) (WB : RepF h0 h sp wW) (NB : ¬ blks wW bW) : RegK n h0 (h.set bW ⟨wW, n⟩) sp (ptr bW 0) := ⟨bW, wW, rfl, E.set' N _, N, HB, H.set_get_same _ _ _, RepF.setNe WB NB _, NB⟩
theorem ite_small {p : Prop} [Decidable p] {a b : UIdealOut} (ha : p → a.small) (hb : ¬ p → b.small) : (if p then a else b).small := by
  split
  · exact ha ‹_›
  · exact hb ‹_›
theorem doI_small {i : UIdeal} {c : UCmd} (h : i.small) (hok : idealOk i) : (doI i c).small := by
  have h20 := idealOk_steps hok
  have h1 := h.1
  have h2 := h.2
  have hk := kept_le i.steps
  have hbo : (bootOf i).small := by
    unfold bootOf
    repeat' split
    all_goals first | exact h | exact ⟨h1, by simp only [List.length_take]; omega⟩ | exact ⟨h1, by simp [idleOf]⟩
  unfold doI
  repeat' first | (refine ite_small (fun _ => ?_) (fun _ => ?_))
  all_goals first | exact ⟨h, by simp [codeI]⟩ | exact ⟨h, by simp⟩ | exact ⟨hbo, by simp [codeI]⟩ | exact ⟨⟨h1, h2⟩, by simp [codeI]⟩ | exact ⟨⟨h1, by simp [codeI]; omega⟩, by simp [codeI]⟩ | exact ⟨⟨by simp only [codeI, applyB_len]; exact h1, h2⟩, by simp [codeI]⟩ | exact ⟨⟨h1, by simp [codeI, idleOf]⟩, by simp [codeI]⟩ | exact ⟨⟨h1, by simp [idleOf]⟩, by simp⟩ | exact ⟨⟨h1, h2⟩, by simp⟩
theorem idealDo_small {i : UIdeal} {c : UCmd} (h : i.small) : (idealDo i c).small := by
  unfold idealDo
  split
  · rename_i q
    exact doI_small h q.1
  · simp [illOut, ideal0, UIdealOut.small, UIdeal.small]
theorem idealDo_fin {i : UIdeal} {c : UCmd} (h : i.small) : (idealDo i c).fin := by
  have := idealDo_small (c := c) h
  have e := show maxLen = 9223372036854775807 from rfl
  unfold UIdealOut.small UIdeal.small at this
  unfold UIdealOut.fin UIdeal.fin
  omega
set_option maxHeartbeats 1600000 in
theorem idealDo_walk {h : H} (tb : Tabs h) {ca : List Value} {i : UIdeal} {c : UCmd} (A0 : RepR h (spIdeal i) ca) (ok1 : i.ok) (kc1 : c.digest.length ≤ maxLen) (kc2 : c.step.data.length ≤ maxLen) : AC Tryz.prog 3 [.agg ca.toArray, .agg c.cells.toArray] h fun r _ => r = .bool true := by
  have l_a := A0.len
  simp only [List.length_cons, List.length_nil, Nat.reduceAdd] at l_a
  have q_a := A0.one
  have t_a := take_len l_a
  refine w_laws_FnExactIdealDo (by simp) ?_
  unfold b_laws_FnExactIdealDo
  simp -implicitDefEqProofs only [go_sem, l_a, q_a, t_a]
  intro b_a hb_b_a n_b_a
  have E_b_a := (Ext.refl h).set n_b_a ⟨ca, 9⟩
  simp -implicitDefEqProofs only [go_sem, hb_b_a, l_a, q_a, t_a]
  have R1_a := RepR.ext A0 E_b_a
  have R1_tb := RepR.ext tb E_b_a
  have G1_b_a : (h.set b_a ⟨ca, 9⟩).get b_a = some ⟨ca, 9⟩ := H.set_get_same _ _ _
  intro b_c hb_b_c n_b_c
  have z_b_a_b_c : (b_a = b_c) = False := eq_false fun e => by subst e; rw [G1_b_a] at n_b_c; cases n_b_c
  have E_b_c := (Ext.refl (h.set b_a ⟨ca, 9⟩)).set n_b_c ⟨c.cells, 8⟩
  simp -implicitDefEqProofs only [go_sem, hb_b_c, ldc_get G1_b_a, z_b_a_b_c, l_a, q_a, t_a]
  have G2_b_a := E_b_c.2.g b_a _ G1_b_a
  have R2_a := RepR.ext R1_a E_b_c
  have R2_tb := RepR.ext R1_tb E_b_c
  have G2_b_c : ((h.set b_a ⟨ca, 9⟩).set b_c ⟨c.cells, 8⟩).get b_c = some ⟨c.cells, 8⟩ := H.set_get_same _ _ _
  refine (szIdeal_pc R2_a ok1 (by omega)).use ?_
  simp -implicitDefEqProofs only [go_sem, ldc_get G2_b_a, ldc_get G2_b_c, z_b_a_b_c, l_a, q_a, t_a]
  refine Br.of (fun hc0 => ?_) (fun hc0 => ?_)
  · simp -implicitDefEqProofs only [go_sem, hc0, ldc_get G2_b_a, ldc_get G2_b_c, z_b_a_b_c, l_a, q_a, t_a]
  have sz0 := lessn_nn hc0
  simp -implicitDefEqProofs only [go_sem, hc0, ldc_get G2_b_a, ldc_get G2_b_c, z_b_a_b_c, l_a, q_a, t_a]
  refine (szCmd_pc _ c kc1 kc2 (by omega)).use ?_
  simp -implicitDefEqProofs only [go_sem, ldc_get G2_b_a, ldc_get G2_b_c, z_b_a_b_c, l_a, q_a, t_a]
  refine Br.of (fun hc1 => ?_) (fun hc1 => ?_)
  · simp -implicitDefEqProofs only [go_sem, hc1, ldc_get G2_b_a, ldc_get G2_b_c, z_b_a_b_c, l_a, q_a, t_a]
  have sm := idealSz_small (by omega) hc0
  have hs1 := sm.1
  have hs2 := sm.2
  have hio := idealDo_small (c := c) sm
  have hfin := idealDo_fin (c := c) sm
  have hnn : 0 ≤ mkNIdealOut (idealDo i c) := by unfold mkNIdealOut; omega
  simp -implicitDefEqProofs only [go_sem, hc1, ldc_get G2_b_a, ldc_get G2_b_c, z_b_a_b_c, l_a, q_a, t_a]
  refine dopX_of _ (Sub.refl _) ?_
  refine dopw_mono (K := fun f x => f 2 = ptr b_a 0 ∧ f 3 = ptr b_c 0 ∧ RegK 12 ((h.set b_a ⟨ca, 9⟩).set b_c ⟨c.cells, 8⟩) x (spIdealOut (idealDo i c)) (f 6)) ?_ _ ?_
  rotate_left
  · have E := Ext.refl ((h.set b_a ⟨ca, 9⟩).set b_c ⟨c.cells, 8⟩)
    have R := R2_a
    have TB := R2_tb
    simp -implicitDefEqProofs only [go_sem, ldc_get G2_b_a, ldc_get G2_b_c, z_b_a_b_c, l_a, q_a, t_a]
    refine ⟨?_, ?_⟩
    · refine AC_of (toIdeal_ac R sm) ?_
      rintro _ y1 - ⟨e, uu, rfl, UF⟩
      have U := UF.r
      have lu := U.len
      simp only [List.length_cons, List.length_nil, Nat.reduceAdd] at lu
      have qu := U.one
      have tu := take_len lu
      have E := Ext.trans E e
      have R := RepR.ext R e
      have TB := RepR.ext TB e
      refine ⟨E.2, ?_⟩
      simp -implicitDefEqProofs only [go_sem, lu, qu, tu, ldc_get G2_b_a, ldc_get G2_b_c, z_b_a_b_c, l_a, q_a, t_a]
      refine ⟨?_, ?_⟩
      · refine (toCmd_pc _ c).use ?_
        refine ⟨E.2, ?_⟩
        simp -implicitDefEqProofs only [go_sem, lu, qu, tu, ldc_get G2_b_a, ldc_get G2_b_c, z_b_a_b_c, l_a, q_a, t_a]
        refine ⟨?_, ?_⟩
        · refine AC_of (specIdealDo_ac U sm) ?_
          rintro _ y3 - ⟨e, wW, rfl, WF⟩
          have WB := RepF.back WF E
          have lw := WF.r.len
          simp only [List.length_cons, List.length_nil, Nat.reduceAdd] at lw
          have qw := WF.r.one
          have tw := take_len lw
          have U := RepR.ext U e
          have E := Ext.trans E e
          have R := RepR.ext R e
          have TB := RepR.ext TB e
          refine ⟨E.2, ?_⟩
          simp -implicitDefEqProofs only [go_sem, lu, qu, tu, lw, qw, tw, ldc_get G2_b_a, ldc_get G2_b_c, z_b_a_b_c, l_a, q_a, t_a]
          intro bW hbW nW
          have e := (Ext.refl y3).set nW ⟨[i64 0, i64 0, i64 0, i64 0, i64 0, i64 0, str [], nils, nils, str [], nils, i64 0], 12⟩
          have N0 := Ext.none E nW
          have HB0 : ((h.set b_a ⟨ca, 9⟩).set b_c ⟨c.cells, 8⟩).base ≤ bW := by rw [← E.1]; exact hbW
          have NB := RepR.known WB.r |>.ne nW
          have WB := RepF.ext WB e
          have E := Ext.trans E e
          have R := RepR.ext R e
          have TB := RepR.ext TB e
          have U := RepR.ext U e
          have GA : (y3.set bW ⟨[i64 0, i64 0, i64 0, i64 0, i64 0, i64 0, str [], nils, nils, str [], nils, i64 0], 12⟩).get bW = some ⟨[i64 0, i64 0, i64 0, i64 0, i64 0, i64 0, str [], nils, nils, str [], nils, i64 0], 12⟩ := H.set_get_same _ _ _
          refine ⟨E.2, ?_⟩
          simp -implicitDefEqProofs only [go_sem, lu, qu, tu, lw, qw, tw, hbW, ldc_get G2_b_a, ldc_get G2_b_c, z_b_a_b_c, l_a, q_a, t_a]
          have HBc : (y3.set bW ⟨[i64 0, i64 0, i64 0, i64 0, i64 0, i64 0, str [], nils, nils, str [], nils, i64 0], 12⟩).base ≤ bW := by rw [E.1]; exact HB0
          try simp -implicitDefEqProofs only [go_sem, ldc_get GA, stc_get GA, HBc, lu, qu, tu, lw, qw, tw, hbW, ldc_get G2_b_a, ldc_get G2_b_c, z_b_a_b_c, l_a, q_a, t_a]
          first | exact RegK.of E N0 HB0 WB NB | (have q := RegK.of (n := 12) E N0 HB0 WB NB; rw [H.set_set] at q; exact q)
        · intro bW hbW nW
          have e := (Ext.refl y1).set nW ⟨[i64 0, i64 0, i64 0, i64 0, i64 0, i64 0, str [], nils, nils, str [], nils, i64 0], 12⟩
          have N0 := Ext.none E nW
          have HB0 : ((h.set b_a ⟨ca, 9⟩).set b_c ⟨c.cells, 8⟩).base ≤ bW := by rw [← E.1]; exact hbW
          have E := Ext.trans E e
          have R := RepR.ext R e
          have TB := RepR.ext TB e
          have U := RepR.ext U e
          have GA : (y1.set bW ⟨[i64 0, i64 0, i64 0, i64 0, i64 0, i64 0, str [], nils, nils, str [], nils, i64 0], 12⟩).get bW = some ⟨[i64 0, i64 0, i64 0, i64 0, i64 0, i64 0, str [], nils, nils, str [], nils, i64 0], 12⟩ := H.set_get_same _ _ _
          refine ⟨E.2, ?_⟩
          simp -implicitDefEqProofs only [go_sem, lu, qu, tu, hbW, ldc_get G2_b_a, ldc_get G2_b_c, z_b_a_b_c, l_a, q_a, t_a]
          refine AC_of (specIdealDo_ac U sm) ?_
          rintro _ y6 - ⟨e, wW, rfl, WF⟩
          have WB := RepF.back WF E
          have lw := WF.r.len
          simp only [List.length_cons, List.length_nil, Nat.reduceAdd] at lw
          have qw := WF.r.one
          have tw := take_len lw
          have NB := RepF.new WF |>.ne GA
          have GA := e.2.g _ _ GA
          have U := RepR.ext U e
          have E := Ext.trans E e
          have R := RepR.ext R e
          have TB := RepR.ext TB e
          refine ⟨E.2, ?_⟩
          simp -implicitDefEqProofs only [go_sem, lu, qu, tu, hbW, lw, qw, tw, ldc_get G2_b_a, ldc_get G2_b_c, z_b_a_b_c, l_a, q_a, t_a]
          have HBc : y6.base ≤ bW := by rw [E.1]; exact HB0
          try simp -implicitDefEqProofs only [go_sem, ldc_get GA, stc_get GA, HBc, lu, qu, tu, hbW, lw, qw, tw, ldc_get G2_b_a, ldc_get G2_b_c, z_b_a_b_c, l_a, q_a, t_a]
          first | exact RegK.of E N0 HB0 WB NB | (have q := RegK.of (n := 12) E N0 HB0 WB NB; rw [H.set_set] at q; exact q)
      · intro bW hbW nW
        have e := (Ext.refl y1).set nW ⟨[i64 0, i64 0, i64 0, i64 0, i64 0, i64 0, str [], nils, nils, str [], nils, i64 0], 12⟩
        have N0 := Ext.none E nW
        have HB0 : ((h.set b_a ⟨ca, 9⟩).set b_c ⟨c.cells, 8⟩).base ≤ bW := by rw [← E.1]; exact hbW
        have E := Ext.trans E e
        have R := RepR.ext R e
        have TB := RepR.ext TB e
        have U := RepR.ext U e
        have GA : (y1.set bW ⟨[i64 0, i64 0, i64 0, i64 0, i64 0, i64 0, str [], nils, nils, str [], nils, i64 0], 12⟩).get bW = some ⟨[i64 0, i64 0, i64 0, i64 0, i64 0, i64 0, str [], nils, nils, str [], nils, i64 0], 12⟩ := H.set_get_same _ _ _
        refine ⟨E.2, ?_⟩
        simp -implicitDefEqProofs only [go_sem, lu, qu, tu, hbW, ldc_get G2_b_a, ldc_get G2_b_c, z_b_a_b_c, l_a, q_a, t_a]
        refine (toCmd_pc _ c).use ?_
        refine ⟨E.2, ?_⟩
        simp -implicitDefEqProofs only [go_sem, lu, qu, tu, hbW, ldc_get G2_b_a, ldc_get G2_b_c, z_b_a_b_c, l_a, q_a, t_a]
        refine AC_of (specIdealDo_ac U sm) ?_
        rintro _ y9 - ⟨e, wW, rfl, WF⟩
        have WB := RepF.back WF E
        have lw := WF.r.len
        simp only [List.length_cons, List.length_nil, Nat.reduceAdd] at lw
        have qw := WF.r.one
        have tw := take_len lw
        have NB := RepF.new WF |>.ne GA
        have GA := e.2.g _ _ GA
        have U := RepR.ext U e
        have E := Ext.trans E e
        have R := RepR.ext R e
        have TB := RepR.ext TB e
        refine ⟨E.2, ?_⟩
        simp -implicitDefEqProofs only [go_sem, lu, qu, tu, hbW, lw, qw, tw, ldc_get G2_b_a, ldc_get G2_b_c, z_b_a_b_c, l_a, q_a, t_a]
        have HBc : y9.base ≤ bW := by rw [E.1]; exact HB0
        try simp -implicitDefEqProofs only [go_sem, ldc_get GA, stc_get GA, HBc, lu, qu, tu, hbW, lw, qw, tw, ldc_get G2_b_a, ldc_get G2_b_c, z_b_a_b_c, l_a, q_a, t_a]
        first | exact RegK.of E N0 HB0 WB NB | (have q := RegK.of (n := 12) E N0 HB0 WB NB; rw [H.set_set] at q; exact q)
    · intro bW hbW nW
      have e := (Ext.refl ((h.set b_a ⟨ca, 9⟩).set b_c ⟨c.cells, 8⟩)).set nW ⟨[i64 0, i64 0, i64 0, i64 0, i64 0, i64 0, str [], nils, nils, str [], nils, i64 0], 12⟩
      have N0 := Ext.none E nW
      have HB0 : ((h.set b_a ⟨ca, 9⟩).set b_c ⟨c.cells, 8⟩).base ≤ bW := by rw [← E.1]; exact hbW
      have E := Ext.trans E e
      have R := RepR.ext R e
      have TB := RepR.ext TB e
      have GA : (((h.set b_a ⟨ca, 9⟩).set b_c ⟨c.cells, 8⟩).set bW ⟨[i64 0, i64 0, i64 0, i64 0, i64 0, i64 0, str [], nils, nils, str [], nils, i64 0], 12⟩).get bW = some ⟨[i64 0, i64 0, i64 0, i64 0, i64 0, i64 0, str [], nils, nils, str [], nils, i64 0], 12⟩ := H.set_get_same _ _ _
      refine ⟨E.2, ?_⟩
      simp -implicitDefEqProofs only [go_sem, hbW, ldc_get G2_b_a, ldc_get G2_b_c, z_b_a_b_c, l_a, q_a, t_a]
      refine AC_of (toIdeal_ac R sm) ?_
      rintro _ y11 - ⟨e, uu, rfl, UF⟩
      have U := UF.r
      have lu := U.len
      simp only [List.length_cons, List.length_nil, Nat.reduceAdd] at lu
      have qu := U.one
      have tu := take_len lu
      have E := Ext.trans E e
      have R := RepR.ext R e
      have TB := RepR.ext TB e
      have GA := e.2.g _ _ GA
      refine ⟨E.2, ?_⟩
      simp -implicitDefEqProofs only [go_sem, hbW, lu, qu, tu, ldc_get G2_b_a, ldc_get G2_b_c, z_b_a_b_c, l_a, q_a, t_a]
      refine (toCmd_pc _ c).use ?_
      refine ⟨E.2, ?_⟩
      simp -implicitDefEqProofs only [go_sem, hbW, lu, qu, tu, ldc_get G2_b_a, ldc_get G2_b_c, z_b_a_b_c, l_a, q_a, t_a]
      refine AC_of (specIdealDo_ac U sm) ?_
      rintro _ y13 - ⟨e, wW, rfl, WF⟩
      have WB := RepF.back WF E
      have lw := WF.r.len
      simp only [List.length_cons, List.length_nil, Nat.reduceAdd] at lw
      have qw := WF.r.one
      have tw := take_len lw
      have NB := RepF.new WF |>.ne GA
      have GA := e.2.g _ _ GA
      have U := RepR.ext U e
      have E := Ext.trans E e
      have R := RepR.ext R e
      have TB := RepR.ext TB e
      refine ⟨E.2, ?_⟩
      simp -implicitDefEqProofs only [go_sem, hbW, lu, qu, tu, lw, qw, tw, ldc_get G2_b_a, ldc_get G2_b_c, z_b_a_b_c, l_a, q_a, t_a]
      have HBc : y13.base ≤ bW := by rw [E.1]; exact HB0
      try simp -implicitDefEqProofs only [go_sem, ldc_get GA, stc_get GA, HBc, hbW, lu, qu, tu, lw, qw, tw, ldc_get G2_b_a, ldc_get G2_b_c, z_b_a_b_c, l_a, q_a, t_a]
      first | exact RegK.of E N0 HB0 WB NB | (have q := RegK.of (n := 12) E N0 HB0 WB NB; rw [H.set_set] at q; exact q)
  rintro f x1 ⟨fr_1_2, fr_1_3, b_w0, w0, fr_1_6, e1, nW1, hbW1, gW1, T_w0, nb1⟩
  have z_b_a_b_w0 : (b_a = b_w0) = False := eq_false fun e => by subst e; rw [G2_b_a] at nW1; cases nW1
  have z_b_c_b_w0 : (b_c = b_w0) = False := eq_false fun e => by subst e; rw [G2_b_c] at nW1; cases nW1
  have nn_w0_b_a := RepF.new T_w0 |>.ne G2_b_a
  have nn_w0_b_c := RepF.new T_w0 |>.ne G2_b_c
  have D_a_w0 := DjL.of (RepR.known R2_a) (RepF.new T_w0)
  have D_tb_w0 := DjL.of (RepR.known R2_tb) (RepF.new T_w0)
  have G3_b_a := e1.2.g b_a _ G2_b_a
  have G3_b_c := e1.2.g b_c _ G2_b_c
  have R3_a := RepR.ext R2_a e1
  have R3_tb := RepR.ext R2_tb e1
  have l_w0 := T_w0.r.len
  simp only [List.length_cons, List.length_nil, Nat.reduceAdd] at l_w0
  have q_w0 := T_w0.r.one
  have t_w0 := take_len l_w0
  simp -implicitDefEqProofs only [go_sem, ldc_get G3_b_a, ldc_get G3_b_c, ldc_get gW1, z_b_a_b_c, z_b_a_b_w0, z_b_c_b_w0, l_a, q_a, t_a, fr_1_2, fr_1_3, fr_1_6, l_w0, q_w0, t_w0]
  refine AC_of (toIdeal_ac R3_a sm) ?_
  rintro _ x2 - ⟨e2, v_xa, rfl, T_xa⟩
  have nn_xa_b_a := RepF.new T_xa |>.ne G3_b_a
  have nn_xa_b_c := RepF.new T_xa |>.ne G3_b_c
  have nn_xa_b_w0 := RepF.new T_xa |>.ne gW1
  have D_a_xa := DjL.of (RepR.known R3_a) (RepF.new T_xa)
  have D_tb_xa := DjL.of (RepR.known R3_tb) (RepF.new T_xa)
  have D_w0_xa := DjL.of (RepR.known T_w0.r) (RepF.new T_xa)
  have G4_b_a := e2.2.g b_a _ G3_b_a
  have G4_b_c := e2.2.g b_c _ G3_b_c
  have G4_b_w0 := e2.2.g b_w0 _ gW1
  have R4_a := RepR.ext R3_a e2
  have R4_tb := RepR.ext R3_tb e2
  have R4_w0 := RepR.ext T_w0.r e2
  have F4_w0 := RepF.ext T_w0 e2
  have l_v_xa := T_xa.r.len
  simp only [List.length_cons, List.length_nil, Nat.reduceAdd] at l_v_xa
  have q_v_xa := T_xa.r.one
  have t_v_xa := take_len l_v_xa
  simp -implicitDefEqProofs only [go_sem, ldc_get G4_b_a, ldc_get G4_b_c, ldc_get G4_b_w0, z_b_a_b_c, z_b_a_b_w0, z_b_c_b_w0, l_a, q_a, t_a, fr_1_2, fr_1_3, fr_1_6, l_w0, q_w0, t_w0, l_v_xa, q_v_xa, t_v_xa]
  intro b_xa hb_b_xa n_b_xa
  have z_b_a_b_xa : (b_a = b_xa) = False := eq_false fun e => by subst e; rw [G4_b_a] at n_b_xa; cases n_b_xa
  have z_b_c_b_xa : (b_c = b_xa) = False := eq_false fun e => by subst e; rw [G4_b_c] at n_b_xa; cases n_b_xa
  have z_b_w0_b_xa : (b_w0 = b_xa) = False := eq_false fun e => by subst e; rw [G4_b_w0] at n_b_xa; cases n_b_xa
  have nn_w0_b_xa := F4_w0.r.known.ne n_b_xa
  have nn_xa_b_xa := T_xa.r.known.ne n_b_xa
  have E_b_xa := (Ext.refl x2).set n_b_xa ⟨v_xa, 9⟩
  simp -implicitDefEqProofs only [go_sem, hb_b_xa, ldc_get G4_b_a, ldc_get G4_b_c, ldc_get G4_b_w0, z_b_a_b_c, z_b_a_b_w0, z_b_c_b_w0, z_b_a_b_xa, z_b_c_b_xa, z_b_w0_b_xa, l_a, q_a, t_a, fr_1_2, fr_1_3, fr_1_6, l_w0, q_w0, t_w0, l_v_xa, q_v_xa, t_v_xa]
  have G5_b_a := E_b_xa.2.g b_a _ G4_b_a
  have G5_b_c := E_b_xa.2.g b_c _ G4_b_c
  have G5_b_w0 := E_b_xa.2.g b_w0 _ G4_b_w0
  have R5_a := RepR.ext R4_a E_b_xa
  have R5_tb := RepR.ext R4_tb E_b_xa
  have R5_w0 := RepR.ext F4_w0.r E_b_xa
  have R5_xa := RepR.ext T_xa.r E_b_xa
  have F5_w0 := RepF.ext F4_w0 E_b_xa
  have F5_xa := RepF.ext T_xa E_b_xa
  have G5_b_xa : (x2.set b_xa ⟨v_xa, 9⟩).get b_xa = some ⟨v_xa, 9⟩ := H.set_get_same _ _ _
  refine dopX_of _ (Sub.refl _) ?_
  refine dopw_mono (K := fun f x => f 2 = ptr b_a 0 ∧ f 3 = ptr b_c 0 ∧ f 6 = ptr b_w0 0 ∧ f 7 = ptr b_xa 0 ∧ RegK 12 (x2.set b_xa ⟨v_xa, 9⟩) x (spIdealOut (idealDo i c)) (f 8)) ?_ _ ?_
  rotate_left
  · have E := Ext.refl (x2.set b_xa ⟨v_xa, 9⟩)
    have R := R5_a
    have TB := R5_tb
    have U := F5_xa.r
    simp -implicitDefEqProofs only [go_sem, ldc_get G5_b_a, ldc_get G5_b_c, ldc_get G5_b_w0, ldc_get G5_b_xa, z_b_a_b_c, z_b_a_b_w0, z_b_c_b_w0, z_b_a_b_xa, z_b_c_b_xa, z_b_w0_b_xa, l_a, q_a, t_a, fr_1_2, fr_1_3, fr_1_6, l_w0, q_w0, t_w0, l_v_xa, q_v_xa, t_v_xa]
    refine ⟨?_, ?_⟩
    · refine (toCmd_pc _ c).use ?_
      refine ⟨E.2, ?_⟩
      simp -implicitDefEqProofs only [go_sem, ldc_get G5_b_a, ldc_get G5_b_c, ldc_get G5_b_w0, ldc_get G5_b_xa, z_b_a_b_c, z_b_a_b_w0, z_b_c_b_w0, z_b_a_b_xa, z_b_c_b_xa, z_b_w0_b_xa, l_a, q_a, t_a, fr_1_2, fr_1_3, fr_1_6, l_w0, q_w0, t_w0, l_v_xa, q_v_xa, t_v_xa]
      refine ⟨?_, ?_⟩
      · refine AC_of (implIdealDo_ac TB U sm) ?_
        rintro _ y2 - ⟨e, wW, rfl, WF⟩
        have WB := RepF.back WF E
        have lw := WF.r.len
        simp only [List.length_cons, List.length_nil, Nat.reduceAdd] at lw
        have qw := WF.r.one
        have tw := take_len lw
        have U := RepR.ext U e
        have E := Ext.trans E e
        have R := RepR.ext R e
        have TB := RepR.ext TB e
        refine ⟨E.2, ?_⟩
        simp -implicitDefEqProofs only [go_sem, lw, qw, tw, ldc_get G5_b_a, ldc_get G5_b_c, ldc_get G5_b_w0, ldc_get G5_b_xa, z_b_a_b_c, z_b_a_b_w0, z_b_c_b_w0, z_b_a_b_xa, z_b_c_b_xa, z_b_w0_b_xa, l_a, q_a, t_a, fr_1_2, fr_1_3, fr_1_6, l_w0, q_w0, t_w0, l_v_xa, q_v_xa, t_v_xa]
        intro bW hbW nW
        have e := (Ext.refl y2).set nW ⟨[i64 0, i64 0, i64 0, i64 0, i64 0, i64 0, str [], nils, nils, str [], nils, i64 0], 12⟩
        have N0 := Ext.none E nW
        have HB0 : (x2.set b_xa ⟨v_xa, 9⟩).base ≤ bW := by rw [← E.1]; exact hbW
        have NB := RepR.known WB.r |>.ne nW
        have WB := RepF.ext WB e
        have E := Ext.trans E e
        have R := RepR.ext R e
        have TB := RepR.ext TB e
        have U := RepR.ext U e
        have GA : (y2.set bW ⟨[i64 0, i64 0, i64 0, i64 0, i64 0, i64 0, str [], nils, nils, str [], nils, i64 0], 12⟩).get bW = some ⟨[i64 0, i64 0, i64 0, i64 0, i64 0, i64 0, str [], nils, nils, str [], nils, i64 0], 12⟩ := H.set_get_same _ _ _
        refine ⟨E.2, ?_⟩
        simp -implicitDefEqProofs only [go_sem, lw, qw, tw, hbW, ldc_get G5_b_a, ldc_get G5_b_c, ldc_get G5_b_w0, ldc_get G5_b_xa, z_b_a_b_c, z_b_a_b_w0, z_b_c_b_w0, z_b_a_b_xa, z_b_c_b_xa, z_b_w0_b_xa, l_a, q_a, t_a, fr_1_2, fr_1_3, fr_1_6, l_w0, q_w0, t_w0, l_v_xa, q_v_xa, t_v_xa]
        have HBc : (y2.set bW ⟨[i64 0, i64 0, i64 0, i64 0, i64 0, i64 0, str [], nils, nils, str [], nils, i64 0], 12⟩).base ≤ bW := by rw [E.1]; exact HB0
        try simp -implicitDefEqProofs only [go_sem, ldc_get GA, stc_get GA, HBc, lw, qw, tw, hbW, ldc_get G5_b_a, ldc_get G5_b_c, ldc_get G5_b_w0, ldc_get G5_b_xa, z_b_a_b_c, z_b_a_b_w0, z_b_c_b_w0, z_b_a_b_xa, z_b_c_b_xa, z_b_w0_b_xa, l_a, q_a, t_a, fr_1_2, fr_1_3, fr_1_6, l_w0, q_w0, t_w0, l_v_xa, q_v_xa, t_v_xa]
        first | exact RegK.of E N0 HB0 WB NB | (have q := RegK.of (n := 12) E N0 HB0 WB NB; rw [H.set_set] at q; exact q)
      · intro bW hbW nW
        have e := (Ext.refl (x2.set b_xa ⟨v_xa, 9⟩)).set nW ⟨[i64 0, i64 0, i64 0, i64 0, i64 0, i64 0, str [], nils, nils, str [], nils, i64 0], 12⟩
        have N0 := Ext.none E nW
        have HB0 : (x2.set b_xa ⟨v_xa, 9⟩).base ≤ bW := by rw [← E.1]; exact hbW
        have E := Ext.trans E e
        have R := RepR.ext R e
        have TB := RepR.ext TB e
        have U := RepR.ext U e
        have GA : ((x2.set b_xa ⟨v_xa, 9⟩).set bW ⟨[i64 0, i64 0, i64 0, i64 0, i64 0, i64 0, str [], nils, nils, str [], nils, i64 0], 12⟩).get bW = some ⟨[i64 0, i64 0, i64 0, i64 0, i64 0, i64 0, str [], nils, nils, str [], nils, i64 0], 12⟩ := H.set_get_same _ _ _
        refine ⟨E.2, ?_⟩
        simp -implicitDefEqProofs only [go_sem, hbW, ldc_get G5_b_a, ldc_get G5_b_c, ldc_get G5_b_w0, ldc_get G5_b_xa, z_b_a_b_c, z_b_a_b_w0, z_b_c_b_w0, z_b_a_b_xa, z_b_c_b_xa, z_b_w0_b_xa, l_a, q_a, t_a, fr_1_2, fr_1_3, fr_1_6, l_w0, q_w0, t_w0, l_v_xa, q_v_xa, t_v_xa]
        refine AC_of (implIdealDo_ac TB U sm) ?_
        rintro _ y5 - ⟨e, wW, rfl, WF⟩
        have WB := RepF.back WF E
        have lw := WF.r.len
        simp only [List.length_cons, List.length_nil, Nat.reduceAdd] at lw
        have qw := WF.r.one
        have tw := take_len lw
        have NB := RepF.new WF |>.ne GA
        have GA := e.2.g _ _ GA
        have U := RepR.ext U e
        have E := Ext.trans E e
        have R := RepR.ext R e
        have TB := RepR.ext TB e
        refine ⟨E.2, ?_⟩
        simp -implicitDefEqProofs only [go_sem, hbW, lw, qw, tw, ldc_get G5_b_a, ldc_get G5_b_c, ldc_get G5_b_w0, ldc_get G5_b_xa, z_b_a_b_c, z_b_a_b_w0, z_b_c_b_w0, z_b_a_b_xa, z_b_c_b_xa, z_b_w0_b_xa, l_a, q_a, t_a, fr_1_2, fr_1_3, fr_1_6, l_w0, q_w0, t_w0, l_v_xa, q_v_xa, t_v_xa]
        have HBc : y5.base ≤ bW := by rw [E.1]; exact HB0
        try simp -implicitDefEqProofs only [go_sem, ldc_get GA, stc_get GA, HBc, hbW, lw, qw, tw, ldc_get G5_b_a, ldc_get G5_b_c, ldc_get G5_b_w0, ldc_get G5_b_xa, z_b_a_b_c, z_b_a_b_w0, z_b_c_b_w0, z_b_a_b_xa, z_b_c_b_xa, z_b_w0_b_xa, l_a, q_a, t_a, fr_1_2, fr_1_3, fr_1_6, l_w0, q_w0, t_w0, l_v_xa, q_v_xa, t_v_xa]
        first | exact RegK.of E N0 HB0 WB NB | (have q := RegK.of (n := 12) E N0 HB0 WB NB; rw [H.set_set] at q; exact q)
    · intro bW hbW nW
      have e := (Ext.refl (x2.set b_xa ⟨v_xa, 9⟩)).set nW ⟨[i64 0, i64 0, i64 0, i64 0, i64 0, i64 0, str [], nils, nils, str [], nils, i64 0], 12⟩
      have N0 := Ext.none E nW
      have HB0 : (x2.set b_xa ⟨v_xa, 9⟩).base ≤ bW := by rw [← E.1]; exact hbW
      have E := Ext.trans E e
      have R := RepR.ext R e
      have TB := RepR.ext TB e
      have U := RepR.ext U e
      have GA : ((x2.set b_xa ⟨v_xa, 9⟩).set bW ⟨[i64 0, i64 0, i64 0, i64 0, i64 0, i64 0, str [], nils, nils, str [], nils, i64 0], 12⟩).get bW = some ⟨[i64 0, i64 0, i64 0, i64 0, i64 0, i64 0, str [], nils, nils, str [], nils, i64 0], 12⟩ := H.set_get_same _ _ _
      refine ⟨E.2, ?_⟩
      simp -implicitDefEqProofs only [go_sem, hbW, ldc_get G5_b_a, ldc_get G5_b_c, ldc_get G5_b_w0, ldc_get G5_b_xa, z_b_a_b_c, z_b_a_b_w0, z_b_c_b_w0, z_b_a_b_xa, z_b_c_b_xa, z_b_w0_b_xa, l_a, q_a, t_a, fr_1_2, fr_1_3, fr_1_6, l_w0, q_w0, t_w0, l_v_xa, q_v_xa, t_v_xa]
      refine (toCmd_pc _ c).use ?_
      refine ⟨E.2, ?_⟩
      simp -implicitDefEqProofs only [go_sem, hbW, ldc_get G5_b_a, ldc_get G5_b_c, ldc_get G5_b_w0, ldc_get G5_b_xa, z_b_a_b_c, z_b_a_b_w0, z_b_c_b_w0, z_b_a_b_xa, z_b_c_b_xa, z_b_w0_b_xa, l_a, q_a, t_a, fr_1_2, fr_1_3, fr_1_6, l_w0, q_w0, t_w0, l_v_xa, q_v_xa, t_v_xa]
      refine AC_of (implIdealDo_ac TB U sm) ?_
      rintro _ y8 - ⟨e, wW, rfl, WF⟩
      have WB := RepF.back WF E
      have lw := WF.r.len
      simp only [List.length_cons, List.length_nil, Nat.reduceAdd] at lw
      have qw := WF.r.one
      have tw := take_len lw
      have NB := RepF.new WF |>.ne GA
      have GA := e.2.g _ _ GA
      have U := RepR.ext U e
      have E := Ext.trans E e
      have R := RepR.ext R e
      have TB := RepR.ext TB e
      refine ⟨E.2, ?_⟩
      simp -implicitDefEqProofs only [go_sem, hbW, lw, qw, tw, ldc_get G5_b_a, ldc_get G5_b_c, ldc_get G5_b_w0, ldc_get G5_b_xa, z_b_a_b_c, z_b_a_b_w0, z_b_c_b_w0, z_b_a_b_xa, z_b_c_b_xa, z_b_w0_b_xa, l_a, q_a, t_a, fr_1_2, fr_1_3, fr_1_6, l_w0, q_w0, t_w0, l_v_xa, q_v_xa, t_v_xa]
      have HBc : y8.base ≤ bW := by rw [E.1]; exact HB0
      try simp -implicitDefEqProofs only [go_sem, ldc_get GA, stc_get GA, HBc, hbW, lw, qw, tw, ldc_get G5_b_a, ldc_get G5_b_c, ldc_get G5_b_w0, ldc_get G5_b_xa, z_b_a_b_c, z_b_a_b_w0, z_b_c_b_w0, z_b_a_b_xa, z_b_c_b_xa, z_b_w0_b_xa, l_a, q_a, t_a, fr_1_2, fr_1_3, fr_1_6, l_w0, q_w0, t_w0, l_v_xa, q_v_xa, t_v_xa]
      first | exact RegK.of E N0 HB0 WB NB | (have q := RegK.of (n := 12) E N0 HB0 WB NB; rw [H.set_set] at q; exact q)
  rintro f x3 ⟨fr_3_2, fr_3_3, fr_3_6, fr_3_7, b_g0, g0, fr_3_8, e3, nW3, hbW3, gW3, T_g0, nb3⟩
  have z_b_a_b_g0 : (b_a = b_g0) = False := eq_false fun e => by subst e; rw [G5_b_a] at nW3; cases nW3
  have z_b_c_b_g0 : (b_c = b_g0) = False := eq_false fun e => by subst e; rw [G5_b_c] at nW3; cases nW3
  have z_b_w0_b_g0 : (b_w0 = b_g0) = False := eq_false fun e => by subst e; rw [G5_b_w0] at nW3; cases nW3
  have z_b_xa_b_g0 : (b_xa = b_g0) = False := eq_false fun e => by subst e; rw [G5_b_xa] at nW3; cases nW3
  have nn_w0_b_g0 := F5_w0.r.known.ne nW3
  have nn_xa_b_g0 := F5_xa.r.known.ne nW3
  have nn_g0_b_a := RepF.new T_g0 |>.ne G5_b_a
  have nn_g0_b_c := RepF.new T_g0 |>.ne G5_b_c
  have nn_g0_b_w0 := RepF.new T_g0 |>.ne G5_b_w0
  have nn_g0_b_xa := RepF.new T_g0 |>.ne G5_b_xa
  have D_a_g0 := DjL.of (RepR.known R5_a) (RepF.new T_g0)
  have D_tb_g0 := DjL.of (RepR.known R5_tb) (RepF.new T_g0)
  have D_w0_g0 := DjL.of (RepR.known F5_w0.r) (RepF.new T_g0)
  have D_xa_g0 := DjL.of (RepR.known F5_xa.r) (RepF.new T_g0)
  have G6_b_a := e3.2.g b_a _ G5_b_a
  have G6_b_c := e3.2.g b_c _ G5_b_c
  have G6_b_w0 := e3.2.g b_w0 _ G5_b_w0
  have G6_b_xa := e3.2.g b_xa _ G5_b_xa
  have R6_a := RepR.ext R5_a e3
  have R6_tb := RepR.ext R5_tb e3
  have R6_w0 := RepR.ext F5_w0.r e3
  have R6_xa := RepR.ext F5_xa.r e3
  have F6_w0 := RepF.ext F5_w0 e3
  have F6_xa := RepF.ext F5_xa e3
  have l_g0 := T_g0.r.len
  simp only [List.length_cons, List.length_nil, Nat.reduceAdd] at l_g0
  have q_g0 := T_g0.r.one
  have t_g0 := take_len l_g0
  simp -implicitDefEqProofs only [go_sem, ldc_get G6_b_a, ldc_get G6_b_c, ldc_get G6_b_w0, ldc_get G6_b_xa, ldc_get gW3, z_b_a_b_c, z_b_a_b_w0, z_b_c_b_w0, z_b_a_b_xa, z_b_c_b_xa, z_b_w0_b_xa, z_b_a_b_g0, z_b_c_b_g0, z_b_w0_b_g0, z_b_xa_b_g0, l_a, q_a, t_a, l_w0, q_w0, t_w0, l_v_xa, q_v_xa, t_v_xa, fr_3_2, fr_3_3, fr_3_6, fr_3_7, fr_3_8, l_g0, q_g0, t_g0]
  refine (eqIdealOut_pc T_g0.r F6_w0.r hfin).use ?_
  simp -implicitDefEqProofs only [go_sem, ldc_get G6_b_a, ldc_get G6_b_c, ldc_get G6_b_w0, ldc_get G6_b_xa, ldc_get gW3, z_b_a_b_c, z_b_a_b_w0, z_b_c_b_w0, z_b_a_b_xa, z_b_c_b_xa, z_b_w0_b_xa, z_b_a_b_g0, z_b_c_b_g0, z_b_w0_b_g0, z_b_xa_b_g0, l_a, q_a, t_a, l_w0, q_w0, t_w0, l_v_xa, q_v_xa, t_v_xa, fr_3_2, fr_3_3, fr_3_6, fr_3_7, fr_3_8, l_g0, q_g0, t_g0]
  refine dopX_of _ (Sub.refl _) ?_
  simp -implicitDefEqProofs only [go_sem, ldc_get G6_b_a, ldc_get G6_b_c, ldc_get G6_b_w0, ldc_get G6_b_xa, ldc_get gW3, z_b_a_b_c, z_b_a_b_w0, z_b_c_b_w0, z_b_a_b_xa, z_b_c_b_xa, z_b_w0_b_xa, z_b_a_b_g0, z_b_c_b_g0, z_b_w0_b_g0, z_b_xa_b_g0, l_a, q_a, t_a, l_w0, q_w0, t_w0, l_v_xa, q_v_xa, t_v_xa, fr_3_2, fr_3_3, fr_3_6, fr_3_7, fr_3_8, l_g0, q_g0, t_g0]
  refine AC_of (toIdeal_ac R6_a sm) ?_
  rintro _ x4 - ⟨e4, v_ya, rfl, T_ya⟩
  have G7_b_a := e4.2.g b_a _ G6_b_a
  have G7_b_c := e4.2.g b_c _ G6_b_c
  have G7_b_w0 := e4.2.g b_w0 _ G6_b_w0
  have G7_b_xa := e4.2.g b_xa _ G6_b_xa
  have G7_b_g0 := e4.2.g b_g0 _ gW3
  have R7_a := RepR.ext R6_a e4
  have R7_tb := RepR.ext R6_tb e4
  have R7_w0 := RepR.ext F6_w0.r e4
  have R7_xa := RepR.ext F6_xa.r e4
  have R7_g0 := RepR.ext T_g0.r e4
  have F7_w0 := RepF.ext F6_w0 e4
  have F7_xa := RepF.ext F6_xa e4
  have F7_g0 := RepF.ext T_g0 e4
  simp -implicitDefEqProofs only [go_sem, e4.2, ldc_get G7_b_a, ldc_get G7_b_c, ldc_get G7_b_w0, ldc_get G7_b_xa, ldc_get G7_b_g0, z_b_a_b_c, z_b_a_b_w0, z_b_c_b_w0, z_b_a_b_xa, z_b_c_b_xa, z_b_w0_b_xa, z_b_a_b_g0, z_b_c_b_g0, z_b_w0_b_g0, z_b_xa_b_g0, l_a, q_a, t_a, l_w0, q_w0, t_w0, l_v_xa, q_v_xa, t_v_xa, fr_3_2, fr_3_3, fr_3_6, fr_3_7, fr_3_8, l_g0, q_g0, t_g0]
  refine (eqIdeal_pc F7_xa.r T_ya.r ok1.fin).use ?_
  simp -implicitDefEqProofs only [go_sem, e4.2, ldc_get G7_b_a, ldc_get G7_b_c, ldc_get G7_b_w0, ldc_get G7_b_xa, ldc_get G7_b_g0, z_b_a_b_c, z_b_a_b_w0, z_b_c_b_w0, z_b_a_b_xa, z_b_c_b_xa, z_b_w0_b_xa, z_b_a_b_g0, z_b_c_b_g0, z_b_w0_b_g0, z_b_xa_b_g0, l_a, q_a, t_a, l_w0, q_w0, t_w0, l_v_xa, q_v_xa, t_v_xa, fr_3_2, fr_3_3, fr_3_6, fr_3_7, fr_3_8, l_g0, q_g0, t_g0]
  refine AC_of (markIdealF_ac F7_xa sm (by omega)) ?_
  rintro _ m0 - ⟨rfl, k0, M0⟩
  have G8_b_a := k0.2.1 b_a _ nn_xa_b_a G7_b_a
  have G8_b_c := k0.2.1 b_c _ nn_xa_b_c G7_b_c
  have G8_b_w0 := k0.2.1 b_w0 _ nn_xa_b_w0 G7_b_w0
  have G8_b_xa := k0.2.1 b_xa _ nn_xa_b_xa G7_b_xa
  have G8_b_g0 := k0.2.1 b_g0 _ nn_xa_b_g0 G7_b_g0
  have F8_w0 := RepF.keep F7_w0 k0 D_w0_xa
  have F8_g0 := RepF.keep F7_g0 k0 D_xa_g0.symm
  have R8_a := RepR.keep R7_a k0 D_a_xa
  have R8_tb := RepR.keep R7_tb k0 D_tb_xa
  simp -implicitDefEqProofs only [go_sem, show ¬ (1 + (i.base.length : Int) + ((4 * i.steps.length : Nat) : Int) < 0) by omega, ldc_get G8_b_a, ldc_get G8_b_c, ldc_get G8_b_w0, ldc_get G8_b_xa, ldc_get G8_b_g0, z_b_a_b_c, z_b_a_b_w0, z_b_c_b_w0, z_b_a_b_xa, z_b_c_b_xa, z_b_w0_b_xa, z_b_a_b_g0, z_b_c_b_g0, z_b_w0_b_g0, z_b_xa_b_g0, l_a, q_a, t_a, l_w0, q_w0, t_w0, l_v_xa, q_v_xa, t_v_xa, fr_3_2, fr_3_3, fr_3_6, fr_3_7, fr_3_8, l_g0, q_g0, t_g0]
  refine (eqIdealOut_pc F8_g0.r F8_w0.r hfin).use ?_
  simp -implicitDefEqProofs only [go_sem, ldc_get G8_b_a, ldc_get G8_b_c, ldc_get G8_b_w0, ldc_get G8_b_xa, ldc_get G8_b_g0, z_b_a_b_c, z_b_a_b_w0, z_b_c_b_w0, z_b_a_b_xa, z_b_c_b_xa, z_b_w0_b_xa, z_b_a_b_g0, z_b_c_b_g0, z_b_w0_b_g0, z_b_xa_b_g0, l_a, q_a, t_a, l_w0, q_w0, t_w0, l_v_xa, q_v_xa, t_v_xa, fr_3_2, fr_3_3, fr_3_6, fr_3_7, fr_3_8, l_g0, q_g0, t_g0]
  refine AC_of (markIdealOut_ac F8_g0 hio (by omega)) ?_
  rintro _ mg - ⟨rfl, kg, Mg⟩
  have G9_b_a := kg.2.1 b_a _ nn_g0_b_a G8_b_a
  have G9_b_c := kg.2.1 b_c _ nn_g0_b_c G8_b_c
  have G9_b_w0 := kg.2.1 b_w0 _ nn_g0_b_w0 G8_b_w0
  have G9_b_xa := kg.2.1 b_xa _ nn_g0_b_xa G8_b_xa
  have G9_b_g0 := kg.2.1 b_g0 _ nb3 G8_b_g0
  have F9_w0 := RepF.keep F8_w0 kg D_w0_g0
  have R9_a := RepR.keep R8_a kg D_a_g0
  have R9_tb := RepR.keep R8_tb kg D_tb_g0
  simp -implicitDefEqProofs only [go_sem, ldc_get G9_b_a, ldc_get G9_b_c, ldc_get G9_b_w0, ldc_get G9_b_xa, ldc_get G9_b_g0, z_b_a_b_c, z_b_a_b_w0, z_b_c_b_w0, z_b_a_b_xa, z_b_c_b_xa, z_b_w0_b_xa, z_b_a_b_g0, z_b_c_b_g0, z_b_w0_b_g0, z_b_xa_b_g0, l_a, q_a, t_a, l_w0, q_w0, t_w0, l_v_xa, q_v_xa, t_v_xa, fr_3_2, fr_3_3, fr_3_6, fr_3_7, fr_3_8, l_g0, q_g0, t_g0]
  refine (heldIdealOut_pc Mg hio (by omega)).use ?_
  simp -implicitDefEqProofs only [go_sem, show ¬ (1 + mkNIdealOut (idealDo i c) < 0) by omega, ldc_get G9_b_a, ldc_get G9_b_c, ldc_get G9_b_w0, ldc_get G9_b_xa, ldc_get G9_b_g0, z_b_a_b_c, z_b_a_b_w0, z_b_c_b_w0, z_b_a_b_xa, z_b_c_b_xa, z_b_w0_b_xa, z_b_a_b_g0, z_b_c_b_g0, z_b_w0_b_g0, z_b_xa_b_g0, l_a, q_a, t_a, l_w0, q_w0, t_w0, l_v_xa, q_v_xa, t_v_xa, fr_3_2, fr_3_3, fr_3_6, fr_3_7, fr_3_8, l_g0, q_g0, t_g0]
  refine dopX_of _ (Sub.refl _) ?_
  refine dopw_mono (K := fun f x => f 6 = ptr b_w0 0 ∧ f 8 = ptr b_g0 0 ∧ f 10 = i64 (1 + mkNIdealOut (idealDo i c)) ∧ RegK 12 mg x (spIdealOut (idealDo i c)) (f 12)) ?_ _ ?_
  rotate_left
  · have E := Ext.refl mg
    have R := R9_a
    have TB := R9_tb
    simp -implicitDefEqProofs only [go_sem, ldc_get G9_b_a, ldc_get G9_b_c, ldc_get G9_b_w0, ldc_get G9_b_xa, ldc_get G9_b_g0, z_b_a_b_c, z_b_a_b_w0, z_b_c_b_w0, z_b_a_b_xa, z_b_c_b_xa, z_b_w0_b_xa, z_b_a_b_g0, z_b_c_b_g0, z_b_w0_b_g0, z_b_xa_b_g0, l_a, q_a, t_a, l_w0, q_w0, t_w0, l_v_xa, q_v_xa, t_v_xa, fr_3_2, fr_3_3, fr_3_6, fr_3_7, fr_3_8, l_g0, q_g0, t_g0]
    refine ⟨?_, ?_⟩
    · refine AC_of (toIdeal_ac R sm) ?_
      rintro _ y1 - ⟨e, uu, rfl, UF⟩
      have U := UF.r
      have lu := U.len
      simp only [List.length_cons, List.length_nil, Nat.reduceAdd] at lu
      have qu := U.one
      have tu := take_len lu
      have E := Ext.trans E e
      have R := RepR.ext R e
      have TB := RepR.ext TB e
      refine ⟨E.2, ?_⟩
      simp -implicitDefEqProofs only [go_sem, lu, qu, tu, ldc_get G9_b_a, ldc_get G9_b_c, ldc_get G9_b_w0, ldc_get G9_b_xa, ldc_get G9_b_g0, z_b_a_b_c, z_b_a_b_w0, z_b_c_b_w0, z_b_a_b_xa, z_b_c_b_xa, z_b_w0_b_xa, z_b_a_b_g0, z_b_c_b_g0, z_b_w0_b_g0, z_b_xa_b_g0, l_a, q_a, t_a, l_w0, q_w0, t_w0, l_v_xa, q_v_xa, t_v_xa, fr_3_2, fr_3_3, fr_3_6, fr_3_7, fr_3_8, l_g0, q_g0, t_g0]
      refine ⟨?_, ?_⟩
      · refine (toCmd_pc _ c).use ?_
        refine ⟨E.2, ?_⟩
        simp -implicitDefEqProofs only [go_sem, lu, qu, tu, ldc_get G9_b_a, ldc_get G9_b_c, ldc_get G9_b_w0, ldc_get G9_b_xa, ldc_get G9_b_g0, z_b_a_b_c, z_b_a_b_w0, z_b_c_b_w0, z_b_a_b_xa, z_b_c_b_xa, z_b_w0_b_xa, z_b_a_b_g0, z_b_c_b_g0, z_b_w0_b_g0, z_b_xa_b_g0, l_a, q_a, t_a, l_w0, q_w0, t_w0, l_v_xa, q_v_xa, t_v_xa, fr_3_2, fr_3_3, fr_3_6, fr_3_7, fr_3_8, l_g0, q_g0, t_g0]
        refine ⟨?_, ?_⟩
        · refine AC_of (implIdealDo_ac TB U sm) ?_
          rintro _ y3 - ⟨e, wW, rfl, WF⟩
          have WB := RepF.back WF E
          have lw := WF.r.len
          simp only [List.length_cons, List.length_nil, Nat.reduceAdd] at lw
          have qw := WF.r.one
          have tw := take_len lw
          have U := RepR.ext U e
          have E := Ext.trans E e
          have R := RepR.ext R e
          have TB := RepR.ext TB e
          refine ⟨E.2, ?_⟩
          simp -implicitDefEqProofs only [go_sem, lu, qu, tu, lw, qw, tw, ldc_get G9_b_a, ldc_get G9_b_c, ldc_get G9_b_w0, ldc_get G9_b_xa, ldc_get G9_b_g0, z_b_a_b_c, z_b_a_b_w0, z_b_c_b_w0, z_b_a_b_xa, z_b_c_b_xa, z_b_w0_b_xa, z_b_a_b_g0, z_b_c_b_g0, z_b_w0_b_g0, z_b_xa_b_g0, l_a, q_a, t_a, l_w0, q_w0, t_w0, l_v_xa, q_v_xa, t_v_xa, fr_3_2, fr_3_3, fr_3_6, fr_3_7, fr_3_8, l_g0, q_g0, t_g0]
          intro bW hbW nW
          have e := (Ext.refl y3).set nW ⟨[i64 0, i64 0, i64 0, i64 0, i64 0, i64 0, str [], nils, nils, str [], nils, i64 0], 12⟩
          have N0 := Ext.none E nW
          have HB0 : mg.base ≤ bW := by rw [← E.1]; exact hbW
          have NB := RepR.known WB.r |>.ne nW
          have WB := RepF.ext WB e
          have E := Ext.trans E e
          have R := RepR.ext R e
          have TB := RepR.ext TB e
          have U := RepR.ext U e
          have GA : (y3.set bW ⟨[i64 0, i64 0, i64 0, i64 0, i64 0, i64 0, str [], nils, nils, str [], nils, i64 0], 12⟩).get bW = some ⟨[i64 0, i64 0, i64 0, i64 0, i64 0, i64 0, str [], nils, nils, str [], nils, i64 0], 12⟩ := H.set_get_same _ _ _
          refine ⟨E.2, ?_⟩
          simp -implicitDefEqProofs only [go_sem, lu, qu, tu, lw, qw, tw, hbW, ldc_get G9_b_a, ldc_get G9_b_c, ldc_get G9_b_w0, ldc_get G9_b_xa, ldc_get G9_b_g0, z_b_a_b_c, z_b_a_b_w0, z_b_c_b_w0, z_b_a_b_xa, z_b_c_b_xa, z_b_w0_b_xa, z_b_a_b_g0, z_b_c_b_g0, z_b_w0_b_g0, z_b_xa_b_g0, l_a, q_a, t_a, l_w0, q_w0, t_w0, l_v_xa, q_v_xa, t_v_xa, fr_3_2, fr_3_3, fr_3_6, fr_3_7, fr_3_8, l_g0, q_g0, t_g0]
          have HBc : (y3.set bW ⟨[i64 0, i64 0, i64 0, i64 0, i64 0, i64 0, str [], nils, nils, str [], nils, i64 0], 12⟩).base ≤ bW := by rw [E.1]; exact HB0
          try simp -implicitDefEqProofs only [go_sem, ldc_get GA, stc_get GA, HBc, lu, qu, tu, lw, qw, tw, hbW, ldc_get G9_b_a, ldc_get G9_b_c, ldc_get G9_b_w0, ldc_get G9_b_xa, ldc_get G9_b_g0, z_b_a_b_c, z_b_a_b_w0, z_b_c_b_w0, z_b_a_b_xa, z_b_c_b_xa, z_b_w0_b_xa, z_b_a_b_g0, z_b_c_b_g0, z_b_w0_b_g0, z_b_xa_b_g0, l_a, q_a, t_a, l_w0, q_w0, t_w0, l_v_xa, q_v_xa, t_v_xa, fr_3_2, fr_3_3, fr_3_6, fr_3_7, fr_3_8, l_g0, q_g0, t_g0]
          first | exact RegK.of E N0 HB0 WB NB | (have q := RegK.of (n := 12) E N0 HB0 WB NB; rw [H.set_set] at q; exact q)
        · intro bW hbW nW
          have e := (Ext.refl y1).set nW ⟨[i64 0, i64 0, i64 0, i64 0, i64 0, i64 0, str [], nils, nils, str [], nils, i64 0], 12⟩
          have N0 := Ext.none E nW
          have HB0 : mg.base ≤ bW := by rw [← E.1]; exact hbW
          have E := Ext.trans E e
          have R := RepR.ext R e
          have TB := RepR.ext TB e
          have U := RepR.ext U e
          have GA : (y1.set bW ⟨[i64 0, i64 0, i64 0, i64 0, i64 0, i64 0, str [], nils, nils, str [], nils, i64 0], 12⟩).get bW = some ⟨[i64 0, i64 0, i64 0, i64 0, i64 0, i64 0, str [], nils, nils, str [], nils, i64 0], 12⟩ := H.set_get_same _ _ _
          refine ⟨E.2, ?_⟩
          simp -implicitDefEqProofs only [go_sem, lu, qu, tu, hbW, ldc_get G9_b_a, ldc_get G9_b_c, ldc_get G9_b_w0, ldc_get G9_b_xa, ldc_get G9_b_g0, z_b_a_b_c, z_b_a_b_w0, z_b_c_b_w0, z_b_a_b_xa, z_b_c_b_xa, z_b_w0_b_xa, z_b_a_b_g0, z_b_c_b_g0, z_b_w0_b_g0, z_b_xa_b_g0, l_a, q_a, t_a, l_w0, q_w0, t_w0, l_v_xa, q_v_xa, t_v_xa, fr_3_2, fr_3_3, fr_3_6, fr_3_7, fr_3_8, l_g0, q_g0, t_g0]
          refine AC_of (implIdealDo_ac TB U sm) ?_
          rintro _ y6 - ⟨e, wW, rfl, WF⟩
          have WB := RepF.back WF E
          have lw := WF.r.len
          simp only [List.length_cons, List.length_nil, Nat.reduceAdd] at lw
          have qw := WF.r.one
          have tw := take_len lw
          have NB := RepF.new WF |>.ne GA
          have GA := e.2.g _ _ GA
          have U := RepR.ext U e
          have E := Ext.trans E e
          have R := RepR.ext R e
          have TB := RepR.ext TB e
          refine ⟨E.2, ?_⟩
          simp -implicitDefEqProofs only [go_sem, lu, qu, tu, hbW, lw, qw, tw, ldc_get G9_b_a, ldc_get G9_b_c, ldc_get G9_b_w0, ldc_get G9_b_xa, ldc_get G9_b_g0, z_b_a_b_c, z_b_a_b_w0, z_b_c_b_w0, z_b_a_b_xa, z_b_c_b_xa, z_b_w0_b_xa, z_b_a_b_g0, z_b_c_b_g0, z_b_w0_b_g0, z_b_xa_b_g0, l_a, q_a, t_a, l_w0, q_w0, t_w0, l_v_xa, q_v_xa, t_v_xa, fr_3_2, fr_3_3, fr_3_6, fr_3_7, fr_3_8, l_g0, q_g0, t_g0]
          have HBc : y6.base ≤ bW := by rw [E.1]; exact HB0
          try simp -implicitDefEqProofs only [go_sem, ldc_get GA, stc_get GA, HBc, lu, qu, tu, hbW, lw, qw, tw, ldc_get G9_b_a, ldc_get G9_b_c, ldc_get G9_b_w0, ldc_get G9_b_xa, ldc_get G9_b_g0, z_b_a_b_c, z_b_a_b_w0, z_b_c_b_w0, z_b_a_b_xa, z_b_c_b_xa, z_b_w0_b_xa, z_b_a_b_g0, z_b_c_b_g0, z_b_w0_b_g0, z_b_xa_b_g0, l_a, q_a, t_a, l_w0, q_w0, t_w0, l_v_xa, q_v_xa, t_v_xa, fr_3_2, fr_3_3, fr_3_6, fr_3_7, fr_3_8, l_g0, q_g0, t_g0]
          first | exact RegK.of E N0 HB0 WB NB | (have q := RegK.of (n := 12) E N0 HB0 WB NB; rw [H.set_set] at q; exact q)
      · intro bW hbW nW
        have e := (Ext.refl y1).set nW ⟨[i64 0, i64 0, i64 0, i64 0, i64 0, i64 0, str [], nils, nils, str [], nils, i64 0], 12⟩
        have N0 := Ext.none E nW
        have HB0 : mg.base ≤ bW := by rw [← E.1]; exact hbW
        have E := Ext.trans E e
        have R := RepR.ext R e
        have TB := RepR.ext TB e
        have U := RepR.ext U e
        have GA : (y1.set bW ⟨[i64 0, i64 0, i64 0, i64 0, i64 0, i64 0, str [], nils, nils, str [], nils, i64 0], 12⟩).get bW = some ⟨[i64 0, i64 0, i64 0, i64 0, i64 0, i64 0, str [], nils, nils, str [], nils, i64 0], 12⟩ := H.set_get_same _ _ _
        refine ⟨E.2, ?_⟩
        simp -implicitDefEqProofs only [go_sem, lu, qu, tu, hbW, ldc_get G9_b_a, ldc_get G9_b_c, ldc_get G9_b_w0, ldc_get G9_b_xa, ldc_get G9_b_g0, z_b_a_b_c, z_b_a_b_w0, z_b_c_b_w0, z_b_a_b_xa, z_b_c_b_xa, z_b_w0_b_xa, z_b_a_b_g0, z_b_c_b_g0, z_b_w0_b_g0, z_b_xa_b_g0, l_a, q_a, t_a, l_w0, q_w0, t_w0, l_v_xa, q_v_xa, t_v_xa, fr_3_2, fr_3_3, fr_3_6, fr_3_7, fr_3_8, l_g0, q_g0, t_g0]
        refine (toCmd_pc _ c).use ?_
        refine ⟨E.2, ?_⟩
        simp -implicitDefEqProofs only [go_sem, lu, qu, tu, hbW, ldc_get G9_b_a, ldc_get G9_b_c, ldc_get G9_b_w0, ldc_get G9_b_xa, ldc_get G9_b_g0, z_b_a_b_c, z_b_a_b_w0, z_b_c_b_w0, z_b_a_b_xa, z_b_c_b_xa, z_b_w0_b_xa, z_b_a_b_g0, z_b_c_b_g0, z_b_w0_b_g0, z_b_xa_b_g0, l_a, q_a, t_a, l_w0, q_w0, t_w0, l_v_xa, q_v_xa, t_v_xa, fr_3_2, fr_3_3, fr_3_6, fr_3_7, fr_3_8, l_g0, q_g0, t_g0]
        refine AC_of (implIdealDo_ac TB U sm) ?_
        rintro _ y9 - ⟨e, wW, rfl, WF⟩
        have WB := RepF.back WF E
        have lw := WF.r.len
        simp only [List.length_cons, List.length_nil, Nat.reduceAdd] at lw
        have qw := WF.r.one
        have tw := take_len lw
        have NB := RepF.new WF |>.ne GA
        have GA := e.2.g _ _ GA
        have U := RepR.ext U e
        have E := Ext.trans E e
        have R := RepR.ext R e
        have TB := RepR.ext TB e
        refine ⟨E.2, ?_⟩
        simp -implicitDefEqProofs only [go_sem, lu, qu, tu, hbW, lw, qw, tw, ldc_get G9_b_a, ldc_get G9_b_c, ldc_get G9_b_w0, ldc_get G9_b_xa, ldc_get G9_b_g0, z_b_a_b_c, z_b_a_b_w0, z_b_c_b_w0, z_b_a_b_xa, z_b_c_b_xa, z_b_w0_b_xa, z_b_a_b_g0, z_b_c_b_g0, z_b_w0_b_g0, z_b_xa_b_g0, l_a, q_a, t_a, l_w0, q_w0, t_w0, l_v_xa, q_v_xa, t_v_xa, fr_3_2, fr_3_3, fr_3_6, fr_3_7, fr_3_8, l_g0, q_g0, t_g0]
        have HBc : y9.base ≤ bW := by rw [E.1]; exact HB0
        try simp -implicitDefEqProofs only [go_sem, ldc_get GA, stc_get GA, HBc, lu, qu, tu, hbW, lw, qw, tw, ldc_get G9_b_a, ldc_get G9_b_c, ldc_get G9_b_w0, ldc_get G9_b_xa, ldc_get G9_b_g0, z_b_a_b_c, z_b_a_b_w0, z_b_c_b_w0, z_b_a_b_xa, z_b_c_b_xa, z_b_w0_b_xa, z_b_a_b_g0, z_b_c_b_g0, z_b_w0_b_g0, z_b_xa_b_g0, l_a, q_a, t_a, l_w0, q_w0, t_w0, l_v_xa, q_v_xa, t_v_xa, fr_3_2, fr_3_3, fr_3_6, fr_3_7, fr_3_8, l_g0, q_g0, t_g0]
        first | exact RegK.of E N0 HB0 WB NB | (have q := RegK.of (n := 12) E N0 HB0 WB NB; rw [H.set_set] at q; exact q)
    · intro bW hbW nW
      have e := (Ext.refl mg).set nW ⟨[i64 0, i64 0, i64 0, i64 0, i64 0, i64 0, str [], nils, nils, str [], nils, i64 0], 12⟩
      have N0 := Ext.none E nW
      have HB0 : mg.base ≤ bW := by rw [← E.1]; exact hbW
      have E := Ext.trans E e
      have R := RepR.ext R e
      have TB := RepR.ext TB e
      have GA : (mg.set bW ⟨[i64 0, i64 0, i64 0, i64 0, i64 0, i64 0, str [], nils, nils, str [], nils, i64 0], 12⟩).get bW = some ⟨[i64 0, i64 0, i64 0, i64 0, i64 0, i64 0, str [], nils, nils, str [], nils, i64 0], 12⟩ := H.set_get_same _ _ _
      refine ⟨E.2, ?_⟩
      simp -implicitDefEqProofs only [go_sem, hbW, ldc_get G9_b_a, ldc_get G9_b_c, ldc_get G9_b_w0, ldc_get G9_b_xa, ldc_get G9_b_g0, z_b_a_b_c, z_b_a_b_w0, z_b_c_b_w0, z_b_a_b_xa, z_b_c_b_xa, z_b_w0_b_xa, z_b_a_b_g0, z_b_c_b_g0, z_b_w0_b_g0, z_b_xa_b_g0, l_a, q_a, t_a, l_w0, q_w0, t_w0, l_v_xa, q_v_xa, t_v_xa, fr_3_2, fr_3_3, fr_3_6, fr_3_7, fr_3_8, l_g0, q_g0, t_g0]
      refine AC_of (toIdeal_ac R sm) ?_
      rintro _ y11 - ⟨e, uu, rfl, UF⟩
      have U := UF.r
      have lu := U.len
      simp only [List.length_cons, List.length_nil, Nat.reduceAdd] at lu
      have qu := U.one
      have tu := take_len lu
      have E := Ext.trans E e
      have R := RepR.ext R e
      have TB := RepR.ext TB e
      have GA := e.2.g _ _ GA
      refine ⟨E.2, ?_⟩
      simp -implicitDefEqProofs only [go_sem, hbW, lu, qu, tu, ldc_get G9_b_a, ldc_get G9_b_c, ldc_get G9_b_w0, ldc_get G9_b_xa, ldc_get G9_b_g0, z_b_a_b_c, z_b_a_b_w0, z_b_c_b_w0, z_b_a_b_xa, z_b_c_b_xa, z_b_w0_b_xa, z_b_a_b_g0, z_b_c_b_g0, z_b_w0_b_g0, z_b_xa_b_g0, l_a, q_a, t_a, l_w0, q_w0, t_w0, l_v_xa, q_v_xa, t_v_xa, fr_3_2, fr_3_3, fr_3_6, fr_3_7, fr_3_8, l_g0, q_g0, t_g0]
      refine (toCmd_pc _ c).use ?_
      refine ⟨E.2, ?_⟩
      simp -implicitDefEqProofs only [go_sem, hbW, lu, qu, tu, ldc_get G9_b_a, ldc_get G9_b_c, ldc_get G9_b_w0, ldc_get G9_b_xa, ldc_get G9_b_g0, z_b_a_b_c, z_b_a_b_w0, z_b_c_b_w0, z_b_a_b_xa, z_b_c_b_xa, z_b_w0_b_xa, z_b_a_b_g0, z_b_c_b_g0, z_b_w0_b_g0, z_b_xa_b_g0, l_a, q_a, t_a, l_w0, q_w0, t_w0, l_v_xa, q_v_xa, t_v_xa, fr_3_2, fr_3_3, fr_3_6, fr_3_7, fr_3_8, l_g0, q_g0, t_g0]
      refine AC_of (implIdealDo_ac TB U sm) ?_
      rintro _ y13 - ⟨e, wW, rfl, WF⟩
      have WB := RepF.back WF E
      have lw := WF.r.len
      simp only [List.length_cons, List.length_nil, Nat.reduceAdd] at lw
      have qw := WF.r.one
      have tw := take_len lw
      have NB := RepF.new WF |>.ne GA
      have GA := e.2.g _ _ GA
      have U := RepR.ext U e
      have E := Ext.trans E e
      have R := RepR.ext R e
      have TB := RepR.ext TB e
      refine ⟨E.2, ?_⟩
      simp -implicitDefEqProofs only [go_sem, hbW, lu, qu, tu, lw, qw, tw, ldc_get G9_b_a, ldc_get G9_b_c, ldc_get G9_b_w0, ldc_get G9_b_xa, ldc_get G9_b_g0, z_b_a_b_c, z_b_a_b_w0, z_b_c_b_w0, z_b_a_b_xa, z_b_c_b_xa, z_b_w0_b_xa, z_b_a_b_g0, z_b_c_b_g0, z_b_w0_b_g0, z_b_xa_b_g0, l_a, q_a, t_a, l_w0, q_w0, t_w0, l_v_xa, q_v_xa, t_v_xa, fr_3_2, fr_3_3, fr_3_6, fr_3_7, fr_3_8, l_g0, q_g0, t_g0]
      have HBc : y13.base ≤ bW := by rw [E.1]; exact HB0
      try simp -implicitDefEqProofs only [go_sem, ldc_get GA, stc_get GA, HBc, hbW, lu, qu, tu, lw, qw, tw, ldc_get G9_b_a, ldc_get G9_b_c, ldc_get G9_b_w0, ldc_get G9_b_xa, ldc_get G9_b_g0, z_b_a_b_c, z_b_a_b_w0, z_b_c_b_w0, z_b_a_b_xa, z_b_c_b_xa, z_b_w0_b_xa, z_b_a_b_g0, z_b_c_b_g0, z_b_w0_b_g0, z_b_xa_b_g0, l_a, q_a, t_a, l_w0, q_w0, t_w0, l_v_xa, q_v_xa, t_v_xa, fr_3_2, fr_3_3, fr_3_6, fr_3_7, fr_3_8, l_g0, q_g0, t_g0]
      first | exact RegK.of E N0 HB0 WB NB | (have q := RegK.of (n := 12) E N0 HB0 WB NB; rw [H.set_set] at q; exact q)
  rintro f x5 ⟨fr_5_6, fr_5_8, fr_5_10, b_j0, j0, fr_5_12, e5, nW5, hbW5, gW5, T_j0, nb5⟩
  have z_b_a_b_j0 : (b_a = b_j0) = False := eq_false fun e => by subst e; rw [G9_b_a] at nW5; cases nW5
  have z_b_c_b_j0 : (b_c = b_j0) = False := eq_false fun e => by subst e; rw [G9_b_c] at nW5; cases nW5
  have z_b_w0_b_j0 : (b_w0 = b_j0) = False := eq_false fun e => by subst e; rw [G9_b_w0] at nW5; cases nW5
  have z_b_xa_b_j0 : (b_xa = b_j0) = False := eq_false fun e => by subst e; rw [G9_b_xa] at nW5; cases nW5
  have z_b_g0_b_j0 : (b_g0 = b_j0) = False := eq_false fun e => by subst e; rw [G9_b_g0] at nW5; cases nW5
  have nn_w0_b_j0 := F9_w0.r.known.ne nW5
  have nn_j0_b_a := RepF.new T_j0 |>.ne G9_b_a
  have nn_j0_b_c := RepF.new T_j0 |>.ne G9_b_c
  have nn_j0_b_w0 := RepF.new T_j0 |>.ne G9_b_w0
  have nn_j0_b_xa := RepF.new T_j0 |>.ne G9_b_xa
  have nn_j0_b_g0 := RepF.new T_j0 |>.ne G9_b_g0
  have D_a_j0 := DjL.of (RepR.known R9_a) (RepF.new T_j0)
  have D_tb_j0 := DjL.of (RepR.known R9_tb) (RepF.new T_j0)
  have D_w0_j0 := DjL.of (RepR.known F9_w0.r) (RepF.new T_j0)
  have Mg := RepR.ext Mg e5
  have G10_b_a := e5.2.g b_a _ G9_b_a
  have G10_b_c := e5.2.g b_c _ G9_b_c
  have G10_b_w0 := e5.2.g b_w0 _ G9_b_w0
  have G10_b_xa := e5.2.g b_xa _ G9_b_xa
  have G10_b_g0 := e5.2.g b_g0 _ G9_b_g0
  have R10_a := RepR.ext R9_a e5
  have R10_tb := RepR.ext R9_tb e5
  have R10_w0 := RepR.ext F9_w0.r e5
  have F10_w0 := RepF.ext F9_w0 e5
  have l_j0 := T_j0.r.len
  simp only [List.length_cons, List.length_nil, Nat.reduceAdd] at l_j0
  have q_j0 := T_j0.r.one
  have t_j0 := take_len l_j0
  simp -implicitDefEqProofs only [go_sem, ldc_get G10_b_a, ldc_get G10_b_c, ldc_get G10_b_w0, ldc_get G10_b_xa, ldc_get G10_b_g0, ldc_get gW5, z_b_a_b_c, z_b_a_b_w0, z_b_c_b_w0, z_b_a_b_xa, z_b_c_b_xa, z_b_w0_b_xa, z_b_a_b_g0, z_b_c_b_g0, z_b_w0_b_g0, z_b_xa_b_g0, z_b_a_b_j0, z_b_c_b_j0, z_b_w0_b_j0, z_b_xa_b_j0, z_b_g0_b_j0, l_a, q_a, t_a, l_w0, q_w0, t_w0, l_v_xa, q_v_xa, t_v_xa, l_g0, q_g0, t_g0, fr_5_6, fr_5_8, fr_5_10, fr_5_12, l_j0, q_j0, t_j0]
  refine (eqIdealOut_pc T_j0.r F10_w0.r hfin).use ?_
  simp -implicitDefEqProofs only [go_sem, ldc_get G10_b_a, ldc_get G10_b_c, ldc_get G10_b_w0, ldc_get G10_b_xa, ldc_get G10_b_g0, ldc_get gW5, z_b_a_b_c, z_b_a_b_w0, z_b_c_b_w0, z_b_a_b_xa, z_b_c_b_xa, z_b_w0_b_xa, z_b_a_b_g0, z_b_c_b_g0, z_b_w0_b_g0, z_b_xa_b_g0, z_b_a_b_j0, z_b_c_b_j0, z_b_w0_b_j0, z_b_xa_b_j0, z_b_g0_b_j0, l_a, q_a, t_a, l_w0, q_w0, t_w0, l_v_xa, q_v_xa, t_v_xa, l_g0, q_g0, t_g0, fr_5_6, fr_5_8, fr_5_10, fr_5_12, l_j0, q_j0, t_j0]
  refine (heldIdealOut_pc Mg hio (by omega)).use ?_
  simp -implicitDefEqProofs only [go_sem, show ¬ (1 + mkNIdealOut (idealDo i c) < 0) by omega, ldc_get G10_b_a, ldc_get G10_b_c, ldc_get G10_b_w0, ldc_get G10_b_xa, ldc_get G10_b_g0, ldc_get gW5, z_b_a_b_c, z_b_a_b_w0, z_b_c_b_w0, z_b_a_b_xa, z_b_c_b_xa, z_b_w0_b_xa, z_b_a_b_g0, z_b_c_b_g0, z_b_w0_b_g0, z_b_xa_b_g0, z_b_a_b_j0, z_b_c_b_j0, z_b_w0_b_j0, z_b_xa_b_j0, z_b_g0_b_j0, l_a, q_a, t_a, l_w0, q_w0, t_w0, l_v_xa, q_v_xa, t_v_xa, l_g0, q_g0, t_g0, fr_5_6, fr_5_8, fr_5_10, fr_5_12, l_j0, q_j0, t_j0]
theorem idealDo_law (h : H) (tb : Tabs h) (args : List Value) (ha : okAs h [.agg idLT, .agg [.f (.int .i64), .f (.int .i64), .f (.int .i64), .f .str, .f (.int .i64), .f (.int .i64), .f (.int .i64), .f .str]] args) : AC Tryz.prog 3 args h fun r _ => r = .bool true := by
  obtain ⟨v, _, rfl, ⟨cs, rfl, q0⟩, a0⟩ := okAs_cons ha
  obtain ⟨v2, _, rfl, ⟨cs2, rfl, q1⟩, a1⟩ := okAs_cons a0
  obtain rfl := okAs_nil a1
  obtain ⟨i, r, k⟩ := ideal_of q0
  obtain ⟨c, rfl, k1, k2⟩ := cmd_of q1
  exact idealDo_walk tb r k k1 k2
section
open Go.ChangeShapes Go.WideShapes Go.ChangeAt Go.RowKit
theorem fnExactIdealDo_lifted (os : Os) (started : os.Started) (H' : Type) (enc : TypeId × Value → H') : ReturnsInHanded {} Tryz.checked os 3 .any (fun w args => (Rows.fnExactIdealDoSpec.pre enc Tryz.prog Tryz.f3 [] false w args ∧ laidMetH Tryz.prog laidL w) ∧ sizedMet enc Tryz.prog Tryz.f3 (OpenSpec.ofChange Rows.fnExactIdealDoSpec) false w args) (Rows.fnExactIdealDoSpec.post enc Tryz.prog Tryz.f3 false true false false) :=
  law_row_laid (Ck := Tryz.checked) Tabs [.agg [.f (.int .i64), .f (.int .i64), .f (.int .i64), .f (.int .i64), .f (.int .i64), .f (.int .i64), .f .str, .sl [.str], .sl [.int .i64, .int .i64, .int .i64, .str]], .agg [.f (.int .i64), .f (.int .i64), .f (.int .i64), .f .str, .f (.int .i64), .f (.int .i64), .f (.int .i64), .f .str]] (by kernel_rfl) started (by kernel_rfl) Tryz.func3
    (ChangeSpec.witness_shaped (enc := enc) (C := Tryz.checked) (os := os) (X := fun w _ => laidMetH Tryz.prog laidL w) false (World.doorLaid Tryz.prog 400 os) #[.agg #[.int .i64 0, .int .i64 0, .int .i64 0, .int .i64 0, .int .i64 0, .int .i64 0, .string ByteArray.empty, .slice none 0 0, .slice none 0 0], .agg #[.int .i64 0, .int .i64 0, .int .i64 0, .string ByteArray.empty, .int .i64 0, .int .i64 0, .int .i64 0, .string ByteArray.empty]] 8 rfl (World.shaped_of_RefB (by kernel_rfl) (by kernel_rfl)) (by kernel_rfl) (by kernel_rfl) (by kernel_rfl) (door_met os _))
    (by kernel_rfl) (by kernel_rfl) rfl (by kernel_rfl : Tryz.prog.underlying (Tryz.f3.resultTypes.getD 0 0) = some .bool) (by kernel_rfl)
    (fun ds gs hd hg => by
      rw [show Tryz.f3.params.toList.length = 2 by kernel_rfl] at hd
      match ds, hd, gs, hg with
      | [_, _], _, [_, _], _ => rfl)
    (by kernel_rfl) (fun W h => tabs_of h) idealDo_law
theorem fnExactIdealDo_said : Rows.FnExactIdealDoSaid :=
  OpenClaim.holds_of_wide 3 Tryz.f3 rfl rfl rfl rfl rfl rfl rfl ⟨rfl, rfl, rfl, rfl, rfl⟩ rfl rfl rfl rfl rfl (by kernel_rfl) Tryz.func3 (by kernel_rfl)
    (of_decide_eq_true (by kernel_rfl)) (by unfold Func.isWrapper; first | (rw [if_pos (by decide +kernel)]; kernel_rfl) | (rw [if_neg (by decide +kernel)]; exact ⟨rfl, rfl⟩))
    (fun os started H' enc _ => fnExactIdealDo_lifted os started H' enc)
theorem fnExactIdealDo_holds : Rows.FnExactIdealDoCardSaid :=
  Claim7.holds_tied_plain_at .later [] [.data, .data] true (true, "f9b17d439206114b4fcc229702d241d03a989c0fafd9e3a1d096da3e7edddfe7") false
    fnExactIdealDo_said (fun _ h => by cases h) (by kernel_rfl) (fun _ h => by cases h) fnExactIdealDo_row_tie rfl ⟨rfl, rfl⟩ (by kernel_rfl) rfl
    (fun f fn hf hfn => by
      obtain rfl : f = 3 := Option.some.inj ((show Tryz.prog.funcNamed "loop.example/g00668/laws.FnExactIdealDo" = some 3 by kernel_rfl).symm.trans hf) |>.symm
      obtain rfl : fn = Tryz.f3 := (Option.some.inj (Tryz.func3.symm.trans hfn)).symm
      exact ⟨by kernel_rfl, fun j t ht => by
        have hm : t ∈ Tryz.f3.params.toList := by simpa using Array.mem_of_getElem? ht
        have hall : (Tryz.f3.params.toList.all fun u => !Tryz.prog.wantsStandIn u) = true := by kernel_rfl
        exact (show Tryz.prog.wantsStandIn t = false by simpa using List.all_eq_true.1 hall t hm)⟩)
    (by kernel_rfl)
end
end Go.Proofs.YtdofcojbjcpikaaGreatDoor
