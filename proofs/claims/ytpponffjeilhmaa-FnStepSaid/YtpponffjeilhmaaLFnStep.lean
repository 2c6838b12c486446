/- A valid step is decoded from its encoding, accepted encodings are those of their steps, and a list of compatible steps remains compatible without its last one: the given statement, with no condition. -/
import Derived.Test.YtpponffjeilhmaaC06s
import Derived.Test.YtpponffjeilhmaaRows
import Derived.ProofKit
import Derived.ShutString
import Derived.ChangeOld
import Derived.Below
set_option linter.unusedVariables false
set_option linter.unusedSimpArgs false
set_option maxRecDepth 100000
namespace Go.Proofs.Ytpponffjeilhmaa
open Go.KH

theorem cellsEq_iiisi (a b c a' b' c' e e' : Int) (d d' : List UInt8) : cellsEq [.i, .i, .i, .s, .i] [i64 a, i64 b, i64 c, str d, i64 e] [i64 a', i64 b', i64 c', str d', i64 e'] = some (decide (a = a' ∧ b = b' ∧ c = c' ∧ d = d' ∧ e = e')) := by
  simp only [cellsEq, le_i, le_s, Option.bind_some]
  by_cases h1 : a = a' <;> by_cases h2 : b = b' <;> by_cases h3 : c = c' <;> by_cases h4 : d = d' <;> by_cases h5 : e = e' <;> simp [h1, h2, h3, h4, h5]
theorem stepOut_ok {u : List UInt8} {s : UStep} (h : stepOut u = (s, 0)) : stepR u = some s := by
  unfold stepOut at h
  split at h
  · simp at h
  · cases hr : stepR u with
    | none => rw [hr] at h; simp at h
    | some s' => rw [hr] at h; simp only [Prod.mk.injEq, and_true] at h; rw [h]
theorem wr20_len (L : List UStep) : (wr20 L).length ≤ L.length := by
  unfold wr20
  split
  · simp
  · exact List.length_filter_le _ _
theorem wr20_kind {L : List UStep} {s : UStep} (h : s ∈ wr20 L) : s.kind ≠ 5 := by
  unfold wr20 at h
  split at h
  · simp at h
  · rw [List.mem_filter] at h; simpa [isW] using h.2
/-- laws.FnStep -/
def b_laws_FnStep : C := (.seq (.ops [q 4 (.mv (.c (.bool false)))])
 (.seq (.seq (.ops [q 15 (.mv (.t 0)), q 16 (.len (.t 15)), q 17 (.bin .gtr (.t 16) (.c (i64 1048576))), q 18 (.mv (.t 17)), qg 19 18 false (.mv (.t 1)), qg 20 18 false (.len (.t 19)), qg 21 18 false (.bin .gtr (.t 20) (.c (i64 1048576))), q 22 (.pick (.t 18) (.c (.bool true)) (.t 21))])
 (.cond (.t 22) (.seq (.ops [q 4 (.mv (.c (.bool true)))])
 .ret) .skip))
 (.seq (.ops [q 24 (.mv (.t 0)), ⟨(some 25), none, .call (.c (.func (.func 52) #[] #[])) [(.t 24)]⟩, q 23 (.mv (.t 25)), q 26 (.ext 0 (.t 23)), q 27 (.ext 1 (.t 23)), ⟨(some 5), none, .alloc [(i64 0), (i64 0), (i64 0), (str [])]⟩, ⟨none, none, .st 4 (.t 5) (.t 26)⟩, q 6 (.mv (.t 27))])
 (.seq (.ops [q 28 (.ld true 4 (.t 5)), ⟨(some 29), none, .call (.c (.func (.func 53) #[] #[])) [(.t 28)]⟩, q 7 (.mv (.t 29))])
 (.seq (.ops [q 30 (.mv (.t 1)), ⟨(some 31), none, .call (.c (.func (.func 54) #[] #[])) [(.t 30)]⟩, q 8 (.mv (.t 31))])
 (.seq (.ops [q 32 (.mv (.t 8)), ⟨(some 33), none, .call (.c (.func (.func 55) #[] #[])) [(.t 32)]⟩, ⟨(some 9), none, .alloc [(i64 0), (i64 0), (i64 0), (str []), (i64 0)]⟩, ⟨none, none, .st 5 (.t 9) (.t 33)⟩])
 (.seq (.ops [q 35 (.mv (.t 1)), ⟨(some 36), none, .call (.c (.func (.func 56) #[] #[])) [(.t 35)]⟩, q 34 (.mv (.t 36)), q 37 (.ext 0 (.t 34)), q 38 (.ext 1 (.t 34)), q 10 (.mv (.t 37)), q 11 (.mv (.t 38))])
 (.seq (.ops [q 39 (.mv (.t 10)), q 40 (.mv (.t 11)), ⟨(some 41), none, .call (.c (.func (.func 57) #[] #[])) [(.t 39), (.t 40)]⟩, q 12 (.mv (.t 41))])
 (.seq (.ops [q 42 (.mv (.t 10)), ⟨(some 43), none, .call (.c (.func (.func 58) #[] #[])) [(.t 42)]⟩, q 13 (.mv (.t 43))])
 (.seq (.seq (.dops true (.tk (q 44 (.mv (.t 7))) (.tk (q 45 (.ld true 4 (.t 5))) (.sq (⟨(some 46), none, .call (.c (.func (.func 59) #[] #[])) [(.t 45)]⟩) (.tk (q 47 (.bin .neq (.t 44) (.t 46))) (.tk (q 48 (.mv (.t 47))) (.tk (qg 49 48 false (.ld true 5 (.t 9))) (.tk (qg 50 48 false (.mv (.t 8))) (.sq (⟨(some 51), (some (48, false)), .call (.c (.func (.func 60) #[] #[])) [(.t 50)]⟩) (.tk (qg 52 48 false (.eqa true [.i, .i, .i, .s, .i] (.t 49) (.t 51))) (.tk (q 53 (.pick (.t 48) (.c (.bool true)) (.t 52))) (.tk (q 54 (.mv (.t 53))) (.tk (qg 55 54 false (.ld true 4 (.t 5))) (.tk (qg 56 54 false (.mv (.t 6))) (.tk (qg 58 54 false (.ld true 4 (.t 5))) (.tk (qg 59 54 false (.mv (.t 6))) (.sq (⟨(some 57), (some (54, false)), .call (.c (.func (.func 61) #[] #[])) [(.t 55), (.t 56)]⟩) (.sq (⟨(some 60), (some (54, false)), .call (.c (.func (.func 62) #[] #[])) [(.t 58), (.t 59)]⟩) (.tk (qg 61 54 false (.eqb true (.t 57) (.t 60))) (.tk (q 62 (.pick (.t 54) (.c (.bool true)) (.t 61))) (.tk (q 63 (.mv (.t 62))) (.tk (qg 64 63 false (.mv (.t 12))) (.tk (qg 65 63 false (.mv (.t 10))) (.tk (qg 66 63 false (.mv (.t 11))) (.sq (⟨(some 67), (some (63, false)), .call (.c (.func (.func 63) #[] #[])) [(.t 65), (.t 66)]⟩) (.tk (qg 68 63 false (.bin .neq (.t 64) (.t 67))) (.tk (q 69 (.pick (.t 63) (.c (.bool true)) (.t 68))) (.tk (q 70 (.mv (.t 69))) (.tk (qg 71 70 false (.mv (.t 13))) (.tk (qg 72 70 false (.len (.t 71))) (.tk (qg 73 70 false (.mv (.t 10))) (.sq (⟨(some 74), (some (70, false)), .call (.c (.func (.func 64) #[] #[])) [(.t 73)]⟩) (.tk (qg 75 70 false (.len (.t 74))) (.tk (qg 76 70 false (.bin .neq (.t 72) (.t 75))) (.tk (q 77 (.pick (.t 70) (.c (.bool true)) (.t 76))) .nil)))))))))))))))))))))))))))))))))))
 (.cond (.t 77) (.seq (.ops [q 4 (.mv (.c (.bool false)))])
 .ret) .skip))
 (.seq (.seq (.dops true (.tk (q 78 (.fld 4 (.t 9))) (.tk (q 79 (.ld false 1 (.t 78))) (.tk (q 80 (.bin .eql (.t 79) (.c (i64 0)))) (.tk (q 81 (.mv (.t 80))) (.tk (qg 82 81 true (.fld 0 (.t 9))) (.tk (qg 83 81 true (.ld true 4 (.t 82))) (.tk (qg 85 81 true (.mv (.t 8))) (.sq (⟨(some 84), (some (81, true)), .call (.c (.func (.func 53) #[] #[])) [(.t 83)]⟩) (.tk (qg 86 81 true (.bin .neq (.t 84) (.t 85))) (.tk (q 87 (.pick (.t 81) (.t 86) (.c (.bool false)))) (.tk (q 88 (.mv (.t 87))) (.tk (qg 89 88 false (.mv (.t 7))) (.tk (qg 90 88 false (.bin .neq (.t 89) (.c (str [])))) (.tk (qg 91 88 false (.mv (.t 90))) (.tk (qg 92 91 true (.mv (.t 7))) (.tk (qg 94 91 true (.ld true 4 (.t 5))) (.tk (qg 95 91 true (.build [(i64 0), (i64 0), (i64 0), (str []), (i64 0)] [(0, 4, (.t 94))])) (.sq (⟨(some 93), (some (91, true)), .call (.c (.func (.func 55) #[] #[])) [(.t 92)]⟩) (.tk (qg 96 91 true (.eqa true [.i, .i, .i, .s, .i] (.t 93) (.t 95))) (.tk (qg 97 88 false (.pick (.t 91) (.t 96) (.c (.bool false)))) (.tk (q 98 (.pick (.t 88) (.c (.bool true)) (.t 97))) .nil))))))))))))))))))))))
 (.cond (.t 98) (.seq (.ops [q 4 (.mv (.c (.bool false)))])
 .ret) .skip))
 (.seq (.seq (.ops [q 99 (.ld true 4 (.t 5)), q 100 (.mv (.t 6)), ⟨(some 101), none, .call (.c (.func (.func 61) #[] #[])) [(.t 99), (.t 100)]⟩, q 102 (.mv (.t 101)), qg 103 102 true (.ld true 4 (.t 5)), ⟨(some 104), (some (102, true)), .call (.c (.func (.func 61) #[] #[])) [(.t 103), (.c (i64 8))]⟩, qg 105 102 true (.un .not (.t 104)), q 106 (.pick (.t 102) (.t 105) (.c (.bool false)))])
 (.cond (.t 106) (.seq (.ops [q 4 (.mv (.c (.bool false)))])
 .ret) .skip))
 (.seq (.seq (.ops [q 14 (.mv (.c (i64 0)))])
 (.block 0 (.loop (.seq (.seq (.ops [q 107 (.mv (.t 14)), q 108 (.mv (.t 13)), q 109 (.len (.t 108)), q 110 (.bin .lss (.t 107) (.t 109))])
 (.cond (.t 110) .skip (.exit 0)))
 (.seq (.block 1 (.seq (.dops true (.tk (q 113 (.mv (.t 13))) (.tk (q 114 (.mv (.t 14))) (.tk (q 115 (.idx 4 (.t 113) (.t 114))) (.tk (q 116 (.fld 0 (.t 115))) (.tk (q 117 (.ld false 1 (.t 116))) (.tk (q 118 (.bin .eql (.t 117) (.c (i64 5)))) (.tk (q 119 (.mv (.t 118))) (.tk (qg 120 119 false (.mv (.t 13))) (.tk (qg 121 119 false (.mv (.t 14))) (.tk (qg 122 119 false (.idx 4 (.t 120) (.t 121))) (.tk (qg 123 119 false (.ld true 4 (.t 122))) (.tk (qg 124 119 false (.mv (.t 10))) (.tk (qg 126 119 false (.mv (.t 14))) (.sq (⟨(some 125), (some (119, false)), .call (.c (.func (.func 64) #[] #[])) [(.t 124)]⟩) (.tk (qg 127 119 false (.idx 4 (.t 125) (.t 126))) (.sq (qg 128 119 false (.ld true 4 (.t 127))) (.tk (qg 129 119 false (.eqa true [.i, .i, .i, .s] (.t 123) (.t 128))) (.tk (q 130 (.pick (.t 119) (.c (.bool true)) (.t 129))) .nil)))))))))))))))))))
 (.cond (.t 130) (.seq (.ops [q 4 (.mv (.c (.bool false)))])
 .ret) .skip)))
 (.ops [q 111 (.mv (.t 14)), q 112 (.bin .add (.t 111) (.c (i64 1))), q 14 (.mv (.t 112))]))))))
 (.seq (.ops [q 131 (.mv (.t 12)), q 132 (.bin .neq (.t 131) (.c (i64 0))), q 133 (.mv (.t 132)), qg 134 133 false (.mv (.t 10)), qg 135 133 false (.len (.t 134)), qg 136 133 false (.bin .eql (.t 135) (.c (i64 0))), q 137 (.pick (.t 133) (.c (.bool true)) (.t 136)), q 138 (.mv (.t 137)), qg 139 138 false (.mv (.t 10)), qg 140 138 false (.mv (.t 10)), qg 141 138 false (.len (.t 140)), qg 142 138 false (.bin .sub (.t 141) (.c (i64 1))), qg 143 138 false (.lsl 4 (.t 139) none (some (.t 142))), qg 144 138 false (.mv (.t 11)), ⟨(some 145), (some (138, false)), .call (.c (.func (.func 57) #[] #[])) [(.t 143), (.t 144)]⟩, qg 146 138 false (.bin .eql (.t 145) (.c (i64 0))), q 147 (.pick (.t 138) (.c (.bool true)) (.t 146)), q 4 (.mv (.t 147))])
 .ret))))))))))))))
theorem w_laws_FnStep {args : List Value} {h : H} {Q : Value → H → Prop} (hl : args.length ≤ 148) (hk : wpc Try.prog b_laws_FnStep (retw [.tmp 4] Q) (argsFr args) h) : AC Try.prog 9 args h Q :=
  AC.of_wpc mixedOrders Try.func9 (by kernel_rfl) (by kernel_rfl : prepF Try.prog Try.f9 = some ⟨148, [.tmp 4], b_laws_FnStep⟩) hl hk

set_option maxHeartbeats 3200000 in
theorem fnStep_walk {h : H} {va vb : Value} {l1 l2 : List UInt8} (A : Sl h va 1 (bys l1)) (B : Sl h vb 1 (bys l2)) : AC Try.prog 9 [va, vb] h fun r _ => r = .bool true := by
  have k1 : (bys l1).length = l1.length := by simp [bys]
  have k2 : (bys l2).length = l2.length := by simp [bys]
  obtain ⟨a1, c1, rfl⟩ := A.shape
  obtain ⟨a2, c2, rfl⟩ := B.shape
  rw [k1] at A
  rw [k2] at B
  skip
  refine w_laws_FnStep (by simp) ?_
  unfold b_laws_FnStep
  simp -implicitDefEqProofs only [go_sem, ↓reduceIte, reduceCtorEq, Int.reduceEq, Int.reduceLT, Int.reduceLE, Nat.reduceEqDiff, Nat.reduceAdd, Nat.reduceMul, Nat.reduceLeDiff, Nat.reduceSub, Int.reduceNeg, k1, k2]
  by_cases h1 : 1048576 < l1.length
  · simp -implicitDefEqProofs only [go_sem, ↓reduceIte, reduceCtorEq, Int.reduceEq, Int.reduceLT, Int.reduceLE, Nat.reduceEqDiff, Nat.reduceAdd, Nat.reduceMul, Nat.reduceLeDiff, Nat.reduceSub, Int.reduceNeg, show (1048576 : Int) < (l1.length : Int) by omega, k1, k2]
  by_cases h2 : 1048576 < l2.length
  · simp -implicitDefEqProofs only [go_sem, ↓reduceIte, reduceCtorEq, Int.reduceEq, Int.reduceLT, Int.reduceLE, Nat.reduceEqDiff, Nat.reduceAdd, Nat.reduceMul, Nat.reduceLeDiff, Nat.reduceSub, Int.reduceNeg, show ¬ (1048576 : Int) < (l1.length : Int) by omega, show (1048576 : Int) < (l2.length : Int) by omega, k1, k2]
  simp -implicitDefEqProofs only [go_sem, ↓reduceIte, reduceCtorEq, Int.reduceEq, Int.reduceLT, Int.reduceLE, Nat.reduceEqDiff, Nat.reduceAdd, Nat.reduceMul, Nat.reduceLeDiff, Nat.reduceSub, Int.reduceNeg, show ¬ (1048576 : Int) < (l1.length : Int) by omega, show ¬ (1048576 : Int) < (l2.length : Int) by omega, k1, k2]
  refine AC_of (drawStepRight_ac A (by omega)) ?_
  rintro _ h3 - ⟨e3, x, nb, hx, hnb, rfl⟩
  simp -implicitDefEqProofs only [go_sem, ↓reduceIte, reduceCtorEq, Int.reduceEq, Int.reduceLT, Int.reduceLE, Nat.reduceEqDiff, Nat.reduceAdd, Nat.reduceMul, Nat.reduceLeDiff, Nat.reduceSub, Int.reduceNeg, k1, k2]
  intro b5 hb5 n5
  have e5 := (Ext.refl h3).set n5 ⟨x.cells, 4⟩
  simp -implicitDefEqProofs only [go_sem, ↓reduceIte, reduceCtorEq, Int.reduceEq, Int.reduceLT, Int.reduceLE, Nat.reduceEqDiff, Nat.reduceAdd, Nat.reduceMul, Nat.reduceLeDiff, Nat.reduceSub, Int.reduceNeg, hb5, k1, k2]
  refine PC.use (implStepBytes_pc _ x hx.1 (by have := hx.2; omega)) ?_
  obtain ⟨t, ht⟩ : ∃ t, (if stepOk x 8 then stepB x else []) = t := ⟨_, rfl⟩
  rw [ht]
  simp -implicitDefEqProofs only [go_sem, ↓reduceIte, reduceCtorEq, Int.reduceEq, Int.reduceLT, Int.reduceLE, Nat.reduceEqDiff, Nat.reduceAdd, Nat.reduceMul, Nat.reduceLeDiff, Nat.reduceSub, Int.reduceNeg, k1, k2]
  refine AC_of (drawStepRead_ac ((B.ext e3).ext e5) (by omega)) ?_
  rintro _ h4 - ⟨e4, u, hu, rfl⟩
  have g5 := e4.2.g b5 _ (H.set_get_same _ _ _)
  have hu' : u.length ≤ maxLen := by have := show maxLen = 9223372036854775807 from rfl; omega
  simp -implicitDefEqProofs only [go_sem, ↓reduceIte, reduceCtorEq, Int.reduceEq, Int.reduceLT, Int.reduceLE, Nat.reduceEqDiff, Nat.reduceAdd, Nat.reduceMul, Nat.reduceLeDiff, Nat.reduceSub, Int.reduceNeg, ldc_get g5, k1, k2]
  refine PC.use (implStepRead_pc _ u hu') ?_
  obtain ⟨s1, q1, hso⟩ : ∃ s c, stepOut u = (s, c) := ⟨_, _, rfl⟩
  rw [hso]
  simp -implicitDefEqProofs only [go_sem, ↓reduceIte, reduceCtorEq, Int.reduceEq, Int.reduceLT, Int.reduceLE, Nat.reduceEqDiff, Nat.reduceAdd, Nat.reduceMul, Nat.reduceLeDiff, Nat.reduceSub, Int.reduceNeg, k1, k2]
  intro b9 hb9 n9
  have e9 := (Ext.refl h4).set n9 ⟨outC (s1, q1), 5⟩
  simp -implicitDefEqProofs only [go_sem, ↓reduceIte, reduceCtorEq, Int.reduceEq, Int.reduceLT, Int.reduceLE, Nat.reduceEqDiff, Nat.reduceAdd, Nat.reduceMul, Nat.reduceLeDiff, Nat.reduceSub, Int.reduceNeg, hb9, k1, k2]
  refine AC_of (drawStepsCode_ac ((((B.ext e3).ext e5).ext e4).ext e9) (by omega)) ?_
  rintro _ h5 - ⟨e6, L, n, w, hL, hl21, hn, rfl, fw⟩
  have i5 := e6.2.g b5 _ (e9.2.g b5 _ g5)
  have i9 := e6.2.g b9 _ (H.set_get_same _ _ _)
  obtain ⟨aw, cw, rfl⟩ := fw.shape
  have hll : (L.map UStep.cells).length = L.length := by simp
  rw [hll] at fw
  skip
  simp -implicitDefEqProofs only [go_sem, ↓reduceIte, reduceCtorEq, Int.reduceEq, Int.reduceLT, Int.reduceLE, Nat.reduceEqDiff, Nat.reduceAdd, Nat.reduceMul, Nat.reduceLeDiff, Nat.reduceSub, Int.reduceNeg, k1, k2, hll]
  refine PC.use (implStepsCode_pc fw.sl (by omega)) ?_
  simp -implicitDefEqProofs only [go_sem, ↓reduceIte, reduceCtorEq, Int.reduceEq, Int.reduceLT, Int.reduceLE, Nat.reduceEqDiff, Nat.reduceAdd, Nat.reduceMul, Nat.reduceLeDiff, Nat.reduceSub, Int.reduceNeg, k1, k2, hll]
  refine AC_of (implWrites_ac fw.sl (by omega)) ?_
  rintro r h6 - ⟨e7, f13⟩
  have j5 := e7.2.g b5 _ i5
  have j9 := e7.2.g b9 _ i9
  have sw := fw.sl.ext e7
  obtain ⟨ar, cr, rfl⟩ := f13.shape
  have hlw : ((wr20 L).map UStep.cells).length = (wr20 L).length := by simp
  rw [hlw] at f13
  have sr := f13.sl
  clear A B e3 e5 e4 e9 e6 e7 fw f13 i5 i9 g5
  skip
  simp -implicitDefEqProofs only [go_sem, ↓reduceIte, reduceCtorEq, Int.reduceEq, Int.reduceLT, Int.reduceLE, Nat.reduceEqDiff, Nat.reduceAdd, Nat.reduceMul, Nat.reduceLeDiff, Nat.reduceSub, Int.reduceNeg, ldc_get j5, k1, k2, hll, hlw]
  refine PC.use (specStepBytes_pc _ x hx.1 (by have := hx.2; omega)) ?_
  rw [ht]
  simp -implicitDefEqProofs only [go_sem, ↓reduceIte, reduceCtorEq, Int.reduceEq, Int.reduceLT, Int.reduceLE, Nat.reduceEqDiff, Nat.reduceAdd, Nat.reduceMul, Nat.reduceLeDiff, Nat.reduceSub, Int.reduceNeg, ldc_get j5, ldc_get j9, k1, k2, hll, hlw]
  refine PC.use (specStepRead_pc _ u hu') ?_
  rw [hso]
  simp -implicitDefEqProofs only [go_sem, ↓reduceIte, reduceCtorEq, Int.reduceEq, Int.reduceLT, Int.reduceLE, Nat.reduceEqDiff, Nat.reduceAdd, Nat.reduceMul, Nat.reduceLeDiff, Nat.reduceSub, Int.reduceNeg, ldc_get j5, ldc_get j9, cellsEq_iiisi, k1, k2, hll, hlw]
  refine PC.use (implStepRight_pc _ x hnb) ?_
  simp -implicitDefEqProofs only [go_sem, ↓reduceIte, reduceCtorEq, Int.reduceEq, Int.reduceLT, Int.reduceLE, Nat.reduceEqDiff, Nat.reduceAdd, Nat.reduceMul, Nat.reduceLeDiff, Nat.reduceSub, Int.reduceNeg, k1, k2, hll, hlw]
  refine PC.use (specStepRight_pc _ x) ?_
  simp -implicitDefEqProofs only [go_sem, ↓reduceIte, reduceCtorEq, Int.reduceEq, Int.reduceLT, Int.reduceLE, Nat.reduceEqDiff, Nat.reduceAdd, Nat.reduceMul, Nat.reduceLeDiff, Nat.reduceSub, Int.reduceNeg, k1, k2, hll, hlw]
  refine PC.use (specStepsCode_pc sw (by omega)) ?_
  simp -implicitDefEqProofs only [go_sem, ↓reduceIte, reduceCtorEq, Int.reduceEq, Int.reduceLT, Int.reduceLE, Nat.reduceEqDiff, Nat.reduceAdd, Nat.reduceMul, Nat.reduceLeDiff, Nat.reduceSub, Int.reduceNeg, k1, k2, hll, hlw]
  refine AC_of (specWrites2_ac sw (by omega)) ?_
  rintro r2 h7 - ⟨e8, f14⟩
  have m5 := e8.2.g b5 _ j5
  have m9 := e8.2.g b9 _ j9
  have sw7 := sw.ext e8
  have sr7 := sr.ext e8
  obtain ⟨ar2, cr2, rfl⟩ := f14.shape
  have S8 := e8.2
  clear f14 e8 j5 j9 sw sr
  refine ⟨S8, ?_⟩
  refine dopw_mono (K := fun f h' => f 77 = .bool false ∧ f 7 = str t ∧ f 8 = str u ∧ f 9 = ptr b9 0 ∧ f 5 = ptr b5 0 ∧ f 6 = i64 nb ∧ f 10 = .slice aw L.length cw ∧ f 11 = i64 n ∧ f 12 = i64 (codeOf L n) ∧ f 13 = .slice ar (wr20 L).length cr ∧ h' = h7) ?_ _ ?_
  rotate_left
  · simp -implicitDefEqProofs only [go_sem, ↓reduceIte, reduceCtorEq, Int.reduceEq, Int.reduceLT, Int.reduceLE, Nat.reduceEqDiff, Nat.reduceAdd, Nat.reduceMul, Nat.reduceLeDiff, Nat.reduceSub, Int.reduceNeg, k1, k2, hll, hlw]
  clear S8
  rintro f h' ⟨f77, f7, f8, f9, f5, f6, f10, f11, f12, f13, rfl⟩
  simp only [thenQ_nor, wpc_cond, ev_t, f77, asB_mk, withO_some, Bool.false_eq_true, Br_false, wpc_skip]
  refine wpc_cut (fun f h'' => f 5 = ptr b5 0 ∧ f 6 = i64 nb ∧ f 10 = .slice aw L.length cw ∧ f 11 = i64 n ∧ f 12 = i64 (codeOf L n) ∧ f 13 = .slice ar (wr20 L).length cr ∧ h'' = h') ?_ ?_
  · have bt : t ≠ [] → stepOut t = (x, 0) := fun h => by
      rw [← ht] at h ⊢
      by_cases hk : stepOk x 8
      · rw [if_pos hk]; exact stepOut_put hx.1 hx.2 hk
      · rw [if_neg hk] at h; exact absurd rfl h
    have lt : t.length ≤ maxLen := by
      have := show maxLen = 9223372036854775807 from rfl
      rw [← ht]
      by_cases hk : stepOk x 8
      · rw [if_pos hk]; have := stepB_60 hx.1 hk; omega
      · rw [if_neg hk]; simp
    skip
    by_cases hq : q1 = 0
    · subst hq
      have hs := stepR_some (stepOut_ok hso)
      have hd := stepOk_data hs.2.1
      have hsb : (if stepOk s1 8 then stepB s1 else []) = u := by rw [if_pos hs.2.1]; exact hs.1
      simp -implicitDefEqProofs only [go_sem, ↓reduceIte, reduceCtorEq, Int.reduceEq, Int.reduceLT, Int.reduceLE, Nat.reduceEqDiff, Nat.reduceAdd, Nat.reduceMul, Nat.reduceLeDiff, Nat.reduceSub, Int.reduceNeg, ldc_get m9, k1, k2, hll, hlw, f7, f8, f9, f5]
      refine PC.use (implStepBytes_pc _ s1 hs.2.2 (by omega)) ?_
      rw [hsb]
      by_cases ht0 : t = []
      · simp -implicitDefEqProofs only [go_sem, ↓reduceIte, reduceCtorEq, Int.reduceEq, Int.reduceLT, Int.reduceLE, Nat.reduceEqDiff, Nat.reduceAdd, Nat.reduceMul, Nat.reduceLeDiff, Nat.reduceSub, Int.reduceNeg, ht0, k1, k2, hll, hlw, f7, f8, f9, f5]
        exact ⟨f6, f10, f11, f12, f13⟩
      · simp -implicitDefEqProofs only [go_sem, ↓reduceIte, reduceCtorEq, Int.reduceEq, Int.reduceLT, Int.reduceLE, Nat.reduceEqDiff, Nat.reduceAdd, Nat.reduceMul, Nat.reduceLeDiff, Nat.reduceSub, Int.reduceNeg, ht0, ldc_get m5, ldc_get m9, k1, k2, hll, hlw, f7, f8, f9, f5]
        refine PC.use (implStepRead_pc _ t lt) ?_
        rw [bt ht0]
        simp -implicitDefEqProofs only [go_sem, ↓reduceIte, reduceCtorEq, Int.reduceEq, Int.reduceLT, Int.reduceLE, Nat.reduceEqDiff, Nat.reduceAdd, Nat.reduceMul, Nat.reduceLeDiff, Nat.reduceSub, Int.reduceNeg, cellsEq_iiisi, k1, k2, hll, hlw, f7, f8, f9, f5]
        exact ⟨f6, f10, f11, f12, f13⟩
    · by_cases ht0 : t = []
      · simp -implicitDefEqProofs only [go_sem, ↓reduceIte, reduceCtorEq, Int.reduceEq, Int.reduceLT, Int.reduceLE, Nat.reduceEqDiff, Nat.reduceAdd, Nat.reduceMul, Nat.reduceLeDiff, Nat.reduceSub, Int.reduceNeg, ht0, hq, ldc_get m9, k1, k2, hll, hlw, f7, f8, f9, f5]
        exact ⟨f6, f10, f11, f12, f13⟩
      · simp -implicitDefEqProofs only [go_sem, ↓reduceIte, reduceCtorEq, Int.reduceEq, Int.reduceLT, Int.reduceLE, Nat.reduceEqDiff, Nat.reduceAdd, Nat.reduceMul, Nat.reduceLeDiff, Nat.reduceSub, Int.reduceNeg, ht0, hq, ldc_get m5, ldc_get m9, k1, k2, hll, hlw, f7, f8, f9, f5]
        refine PC.use (implStepRead_pc _ t lt) ?_
        rw [bt ht0]
        simp -implicitDefEqProofs only [go_sem, ↓reduceIte, reduceCtorEq, Int.reduceEq, Int.reduceLT, Int.reduceLE, Nat.reduceEqDiff, Nat.reduceAdd, Nat.reduceMul, Nat.reduceLeDiff, Nat.reduceSub, Int.reduceNeg, cellsEq_iiisi, k1, k2, hll, hlw, f7, f8, f9, f5]
        exact ⟨f6, f10, f11, f12, f13⟩
  clear f7 f8 f9 f5 f6 f10 f11 f12 f13 f77
  skip
  rintro f h'' ⟨f5, f6, f10, f11, f12, f13, rfl⟩
  refine wpc_cut (fun f h' => f 10 = .slice aw L.length cw ∧ f 11 = i64 n ∧ f 12 = i64 (codeOf L n) ∧ f 13 = .slice ar (wr20 L).length cr ∧ h' = h'') ?_ ?_
  · simp -implicitDefEqProofs only [go_sem, ↓reduceIte, reduceCtorEq, Int.reduceEq, Int.reduceLT, Int.reduceLE, Nat.reduceEqDiff, Nat.reduceAdd, Nat.reduceMul, Nat.reduceLeDiff, Nat.reduceSub, Int.reduceNeg, f5, f6, ldc_get m5, k1, k2, hll, hlw]
    refine PC.use (implStepRight_pc _ x hnb) ?_
    by_cases hk : (1 ≤ nb ∧ nb ≤ 8) ∧ stepOk x nb
    · simp -implicitDefEqProofs only [go_sem, ↓reduceIte, reduceCtorEq, Int.reduceEq, Int.reduceLT, Int.reduceLE, Nat.reduceEqDiff, Nat.reduceAdd, Nat.reduceMul, Nat.reduceLeDiff, Nat.reduceSub, Int.reduceNeg, decide_eq_true hk, f5, ldc_get m5, k1, k2, hll, hlw]
      refine PC.use (implStepRight_pc _ x (by unfold in64; omega)) ?_
      simp -implicitDefEqProofs only [go_sem, ↓reduceIte, reduceCtorEq, Int.reduceEq, Int.reduceLT, Int.reduceLE, Nat.reduceEqDiff, Nat.reduceAdd, Nat.reduceMul, Nat.reduceLeDiff, Nat.reduceSub, Int.reduceNeg, show stepOk x 8 from stepOk_8 hk.1 hk.2, k1, k2, hll, hlw]
      exact ⟨f10, f11, f12, f13⟩
    · simp -implicitDefEqProofs only [go_sem, ↓reduceIte, reduceCtorEq, Int.reduceEq, Int.reduceLT, Int.reduceLE, Nat.reduceEqDiff, Nat.reduceAdd, Nat.reduceMul, Nat.reduceLeDiff, Nat.reduceSub, Int.reduceNeg, hk, k1, k2, hll, hlw]
      exact ⟨f10, f11, f12, f13⟩
  clear f5 f6 f10 f11 f12 f13
  rintro f h' ⟨f10, f11, f12, f13, rfl⟩
  simp -implicitDefEqProofs only [go_sem, ↓reduceIte, reduceCtorEq, Int.reduceEq, Int.reduceLT, Int.reduceLE, Nat.reduceEqDiff, Nat.reduceAdd, Nat.reduceMul, Nat.reduceLeDiff, Nat.reduceSub, Int.reduceNeg, k1, k2, hll, hlw]
  refine loopW_of (fun m f h3 => ∃ j, m + j = (wr20 L).length ∧ Ext h' h3 ∧ f 10 = .slice aw L.length cw ∧ f 11 = i64 n ∧ f 12 = i64 (codeOf L n) ∧ f 13 = .slice ar (wr20 L).length cr ∧ f 14 = i64 j) (wr20 L).length
    ⟨0, by simp, Ext.refl _, by simp -implicitDefEqProofs only [go_sem, ↓reduceIte, reduceCtorEq, Int.reduceEq, Int.reduceLT, Int.reduceLE, Nat.reduceEqDiff, Nat.reduceAdd, Nat.reduceMul, Nat.reduceLeDiff, Nat.reduceSub, Int.reduceNeg, f10, k1, k2, hll, hlw], by simp -implicitDefEqProofs only [go_sem, ↓reduceIte, reduceCtorEq, Int.reduceEq, Int.reduceLT, Int.reduceLE, Nat.reduceEqDiff, Nat.reduceAdd, Nat.reduceMul, Nat.reduceLeDiff, Nat.reduceSub, Int.reduceNeg, f11, k1, k2, hll, hlw], by simp -implicitDefEqProofs only [go_sem, ↓reduceIte, reduceCtorEq, Int.reduceEq, Int.reduceLT, Int.reduceLE, Nat.reduceEqDiff, Nat.reduceAdd, Nat.reduceMul, Nat.reduceLeDiff, Nat.reduceSub, Int.reduceNeg, f12, k1, k2, hll, hlw], by simp -implicitDefEqProofs only [go_sem, ↓reduceIte, reduceCtorEq, Int.reduceEq, Int.reduceLT, Int.reduceLE, Nat.reduceEqDiff, Nat.reduceAdd, Nat.reduceMul, Nat.reduceLeDiff, Nat.reduceSub, Int.reduceNeg, f13, k1, k2, hll, hlw], by simp -implicitDefEqProofs only [go_sem, ↓reduceIte, reduceCtorEq, Int.reduceEq, Int.reduceLT, Int.reduceLE, Nat.reduceEqDiff, Nat.reduceAdd, Nat.reduceMul, Nat.reduceLeDiff, Nat.reduceSub, Int.reduceNeg, k1, k2, hll, hlw]; rfl⟩ ?_
  clear f10 f11 f12 f13
  rintro m f h3 ⟨j, hm, e, f10, f11, f12, f13, f14⟩
  have sw3 := sw7.ext e
  have sr3 := sr7.ext e
  obtain ⟨_, _, br, or', er, _, rr2, rr3⟩ := sr3
  simp only [List.length_map, Value.slice.injEq, true_and] at er rr2
  obtain ⟨rfl, rfl⟩ := er
  by_cases hj : j < (wr20 L).length
  · have d1 := rr3 j ((wr20 L)[j]).cells (by simp [hj])
    have d2 := ldc_part d1 0 1 (by omega)
    simp only [Nat.add_zero] at d2
    have h5 := wr20_kind (List.getElem_mem hj)
    have hwl := wr20_len L
    simp -implicitDefEqProofs only [go_sem, ↓reduceIte, reduceCtorEq, Int.reduceEq, Int.reduceLT, Int.reduceLE, Nat.reduceEqDiff, Nat.reduceAdd, Nat.reduceMul, Nat.reduceLeDiff, Nat.reduceSub, Int.reduceNeg, f10, f11, f12, f13, f14, Int.ofNat_lt, Int.natCast_nonneg, hj, rr2, d1, d2, h5, k1, k2, hll, hlw]
    refine AC_of (specWrites2_ac sw3 (by omega)) ?_
    rintro r3 h4 - ⟨e4, f15⟩
    obtain ⟨a9, c9, br2, or2, er2, hc9, rs2, rs3⟩ := f15.sl
    rw [hlw] at er2 rs2
    subst er2
    have d3 := rs3 j ((wr20 L)[j]).cells (by simp [hj])
    simp -implicitDefEqProofs only [go_sem, ↓reduceIte, reduceCtorEq, Int.reduceEq, Int.reduceLT, Int.reduceLE, Nat.reduceEqDiff, Nat.reduceAdd, Nat.reduceMul, Nat.reduceLeDiff, Nat.reduceSub, Int.reduceNeg, e4.2, f13, f14, Int.ofNat_lt, Int.natCast_nonneg, hj, rs2, d3, cellsEq_iiis, wrap_i64 (show -(9223372036854775808 : Int) ≤ ((j : Int) + 1) by omega) (show ((j : Int) + 1) < 9223372036854775808 by omega), k1, k2, hll, hlw]
    exact ⟨m - 1, by omega, _, Ext.refl _, j + 1, by omega, e.trans e4, f10, f11, f12, rfl⟩
  · have : j = (wr20 L).length := by omega
    subst this
    by_cases hc : codeOf L n = 0
    rotate_left
    · simp -implicitDefEqProofs only [go_sem, ↓reduceIte, reduceCtorEq, Int.reduceEq, Int.reduceLT, Int.reduceLE, Nat.reduceEqDiff, Nat.reduceAdd, Nat.reduceMul, Nat.reduceLeDiff, Nat.reduceSub, Int.reduceNeg, f10, f11, f12, f13, f14, Nat.lt_irrefl, Int.ofNat_lt, hc, k1, k2, hll, hlw]
    by_cases hL0 : L.length = 0
    · simp -implicitDefEqProofs only [go_sem, ↓reduceIte, reduceCtorEq, Int.reduceEq, Int.reduceLT, Int.reduceLE, Nat.reduceEqDiff, Nat.reduceAdd, Nat.reduceMul, Nat.reduceLeDiff, Nat.reduceSub, Int.reduceNeg, f10, f11, f12, f13, f14, Nat.lt_irrefl, Int.ofNat_lt, hc, hL0, show ((0 : Nat) : Int) = 0 from rfl, k1, k2, hll, hlw]
    · have st := sw3.take (hi := L.length - 1) (by omega)
      have et : (L.map UStep.cells).take (L.length - 1) = (L.take (L.length - 1)).map UStep.cells := by rw [List.map_take]
      rw [et] at st
      have hcw : L.length ≤ cw := by
        obtain ⟨_, _, _, _, e', hcap, _, _⟩ := sw3
        simp only [List.length_map, Value.slice.injEq, true_and] at e' hcap
        omega
      have hc2 := code_take hc (k := L.length - 1) (by omega)
      simp -implicitDefEqProofs only [go_sem, ↓reduceIte, reduceCtorEq, Int.reduceEq, Int.reduceLT, Int.reduceLE, Nat.reduceEqDiff, Nat.reduceAdd, Nat.reduceMul, Nat.reduceLeDiff, Nat.reduceSub, Int.reduceNeg, f10, f11, f12, f13, f14, Nat.lt_irrefl, Int.ofNat_lt, hc, show ¬ ((L.length : Int) = 0) by omega, wrap_i64 (show -(9223372036854775808 : Int) ≤ ((L.length : Int) - 1) by omega) (show ((L.length : Int) - 1) < 9223372036854775808 by omega), show (0 : Int) ≤ (L.length : Int) - 1 by omega, show (L.length : Int) - 1 ≤ (cw : Int) by omega, show ((L.length : Int) - 1).toNat = L.length - 1 by omega, k1, k2, hll, hlw]
      refine PC.use (implStepsCode_pc st (by simp; omega)) ?_
      simp -implicitDefEqProofs only [go_sem, ↓reduceIte, reduceCtorEq, Int.reduceEq, Int.reduceLT, Int.reduceLE, Nat.reduceEqDiff, Nat.reduceAdd, Nat.reduceMul, Nat.reduceLeDiff, Nat.reduceSub, Int.reduceNeg, hc2, k1, k2, hll, hlw]
theorem bytes_of_rows (rows : List (List Value)) (h : ∀ r ∈ rows, fitsF [.int .u8] r) : ∃ l : List UInt8, rows = bys l := by
  obtain ⟨l, e, -⟩ := rows_of (fun b : UInt8 => [.int .u8 (b.toNat : Int)]) (fun _ => True) rows fun r hr => by
    obtain ⟨_, _, rfl, h1, h⟩ := fitsF_cons (h r hr)
    obtain rfl := fitsF_nil h
    obtain ⟨n, rfl, k1, k2⟩ := h1
    have m1 : IntKind.u8.min = 0 := rfl
    have m2 : IntKind.u8.max = 255 := rfl
    refine ⟨UInt8.ofNat n.toNat, ?_, trivial⟩
    have : ((UInt8.ofNat n.toNat).toNat : Int) = n := by simp; omega
    rw [this]
  exact ⟨l, e⟩
theorem fnStep_law (h : H) (args : List Value) (ha : okAs h [.one (.sl [.int .u8]), .one (.sl [.int .u8])] args) : AC Try.prog 9 args h fun r _ => r = .bool true := by
  obtain ⟨v, _, rfl, ⟨rows, hs, hf, hn⟩, a0⟩ := okAs_cons ha
  obtain ⟨w, _, rfl, ⟨rows2, hs2, hf2, hn2⟩, a1⟩ := okAs_cons a0
  obtain rfl := okAs_nil a1
  obtain ⟨l1, rfl⟩ := bytes_of_rows rows hf
  obtain ⟨l2, rfl⟩ := bytes_of_rows rows2 hf2
  exact fnStep_walk hs hs2
section
open Go.ChangeShapes Go.WideShapes Go.ChangeAt Go.RowKit
theorem fnStep_lifted (os : Os) (started : os.Started) (H' : Type) (enc : TypeId × Value → H') : ReturnsInHanded {} Try.checked os 9 .any (Rows.fnStepSpec.pre6 enc Try.prog Try.f9 Rows.fnStepRow.domain false) (Rows.fnStepSpec.post enc Try.prog Try.f9 false true false false) :=
  law_row (Ck := Try.checked) [.one (.sl [.int .u8]), .one (.sl [.int .u8])] (by kernel_rfl) started (by kernel_rfl) Try.func9 (ChangeSpec.witness6 (enc := enc) (C := Try.checked) false ⟨#[], #[.slice none 0 0, .slice none 0 0], []⟩ 8 (by kernel_rfl) (by kernel_rfl) (by kernel_rfl) (by kernel_rfl))
    (by kernel_rfl) (by kernel_rfl) rfl (by kernel_rfl : Try.prog.underlying (Try.f9.resultTypes.getD 0 0) = some .bool) rfl
    (fun ds hd => by
      rw [show Try.f9.params.toList.length = 2 by kernel_rfl] at hd
      match ds, hd with
      | [_, _], _ => rfl)
    (by kernel_rfl) fnStep_law
theorem fnStep_holds : Rows.FnStepSaid :=
  OpenClaim.holds_of_wide 9 Try.f9 rfl rfl rfl rfl rfl rfl rfl ⟨rfl, rfl, rfl, rfl, rfl⟩ rfl rfl rfl rfl rfl (by kernel_rfl) Try.func9 (by kernel_rfl)
    (of_decide_eq_true (by kernel_rfl)) (by unfold Func.isWrapper; first | (rw [if_pos (by decide +kernel)]; kernel_rfl) | (rw [if_neg (by decide +kernel)]; exact ⟨rfl, rfl⟩))
    (fun os started H' enc _ => fnStep_lifted os started H' enc)
end
end Go.Proofs.Ytpponffjeilhmaa
