/- A helper of this seat's claims (contracts of the functions): what it shows is shown for every input that its statements name, on no other condition. -/
import Derived.Test.YtpponffjeilhmaaC15x
import Derived.Test.YtpponffjeilhmaaC15r
import Derived.Test.YtpponffjeilhmaaC15h
import Derived.Test.YtpponffjeilhmaaCE
set_option linter.unusedVariables false
set_option linter.unusedSimpArgs false
set_option maxRecDepth 100000
namespace Go.Proofs.Ytpponffjeilhmaa
open Go.KH

/-! ## Ideals alike, views -/
theorem take_eq {α : Type} {a b : List α} (h : a.length = b.length) (ht : a.take a.length = b.take a.length) : a = b := by rw [List.take_length, h, List.take_length] at ht; exact ht
theorem take_next {α : Type} {a b : List α} {k : Nat} (ha : k < a.length) (hb : k < b.length) (ht : a.take k = b.take k) : a.take (k + 1) = b.take (k + 1) ↔ a[k] = b[k] := by
  rw [List.take_succ_eq_append_getElem ha, List.take_succ_eq_append_getElem hb, ht]
  exact ⟨fun h => (List.cons.inj (List.append_cancel_left h)).1, fun h => by rw [h]⟩
/-- impl.sameIdeal -/
def b_impl_sameIdeal : C := (.seq (.ops [⟨(some 2), none, .box (.t 0)⟩, ⟨(some 3), none, .box (.t 1)⟩, q 4 (.mv (.c (.bool false)))])
 (.seq (.ops [q 5 (.fld 0 (.t 2)), q 6 (.ld false 1 (.t 5)), q 7 (.fld 0 (.t 3)), q 8 (.ld false 1 (.t 7)), q 9 (.bin .eql (.t 6) (.t 8)), q 10 (.mv (.t 9)), qg 11 10 true (.fld 1 (.t 2)), qg 12 10 true (.ld false 1 (.t 11)), qg 13 10 true (.fld 1 (.t 3)), qg 14 10 true (.ld false 1 (.t 13)), qg 15 10 true (.bin .eql (.t 12) (.t 14)), q 16 (.pick (.t 10) (.t 15) (.c (.bool false))), q 17 (.mv (.t 16)), qg 18 17 true (.fld 2 (.t 2)), qg 19 17 true (.ld false 1 (.t 18)), qg 20 17 true (.fld 2 (.t 3)), qg 21 17 true (.ld false 1 (.t 20)), qg 22 17 true (.bin .eql (.t 19) (.t 21)), q 23 (.pick (.t 17) (.t 22) (.c (.bool false))), q 24 (.mv (.t 23)), qg 25 24 true (.fld 3 (.t 2)), qg 26 24 true (.ld false 1 (.t 25)), qg 27 24 true (.fld 3 (.t 3)), qg 28 24 true (.ld false 1 (.t 27)), qg 29 24 true (.bin .eql (.t 26) (.t 28)), q 30 (.pick (.t 24) (.t 29) (.c (.bool false))), q 31 (.mv (.t 30)), qg 32 31 true (.fld 4 (.t 2)), qg 33 31 true (.ld false 1 (.t 32)), qg 34 31 true (.fld 4 (.t 3)), qg 35 31 true (.ld false 1 (.t 34)), qg 36 31 true (.bin .eql (.t 33) (.t 35)), q 37 (.pick (.t 31) (.t 36) (.c (.bool false))), q 38 (.mv (.t 37)), qg 39 38 true (.fld 5 (.t 2)), qg 40 38 true (.ld false 1 (.t 39)), qg 41 38 true (.fld 5 (.t 3)), qg 42 38 true (.ld false 1 (.t 41)), qg 43 38 true (.bin .eql (.t 40) (.t 42)), q 44 (.pick (.t 38) (.t 43) (.c (.bool false))), q 45 (.mv (.t 44)), qg 46 45 true (.fld 6 (.t 2)), qg 47 45 true (.ld false 1 (.t 46)), qg 48 45 true (.fld 6 (.t 3)), qg 49 45 true (.ld false 1 (.t 48)), qg 50 45 true (.bin .eql (.t 47) (.t 49)), q 51 (.pick (.t 45) (.t 50) (.c (.bool false))), q 52 (.mv (.t 51)), qg 53 52 true (.fld 7 (.t 2)), qg 54 52 true (.ld false 1 (.t 53)), qg 55 52 true (.fld 7 (.t 3)), qg 56 52 true (.ld false 1 (.t 55)), ⟨(some 57), (some (52, true)), .call (.c (.func (.func 202) #[] #[])) [(.t 54), (.t 56)]⟩, q 58 (.pick (.t 52) (.t 57) (.c (.bool false))), q 59 (.mv (.t 58)), qg 60 59 true (.fld 8 (.t 2)), qg 61 59 true (.ld false 1 (.t 60)), qg 62 59 true (.fld 8 (.t 3)), qg 63 59 true (.ld false 1 (.t 62)), ⟨(some 64), (some (59, true)), .call (.c (.func (.func 203) #[] #[])) [(.t 61), (.t 63)]⟩, q 65 (.pick (.t 59) (.t 64) (.c (.bool false))), q 4 (.mv (.t 65))])
 .ret))
theorem w_impl_sameIdeal {args : List Value} {h : H} {Q : Value → H → Prop} (hl : args.length ≤ 66) (hk : wpc Try.prog b_impl_sameIdeal (retw [.tmp 4] Q) (argsFr args) h) : AC Try.prog 124 args h Q :=
  AC.of_wpc mixedOrders Try.func124 (by kernel_rfl) (by kernel_rfl : prepF Try.prog Try.f124 = some ⟨66, [.tmp 4], b_impl_sameIdeal⟩) hl hk

set_option maxHeartbeats 1600000 in
theorem sameIdeal_pc {h : H} {c1 c2 : List Value} {a b : UIdeal} (ha : RepR h (spIdeal a) c1) (hb : RepR h (spIdeal b) c2) (hn : a.small) : PC Try.prog 124 [.agg c1.toArray, .agg c2.toArray] h (.bool (decide (a = b))) := by
  obtain ⟨v1, v2, rfl, sb1, ss1⟩ := ideal_r.1 ha
  obtain ⟨u1, u2, rfl, sb2, ss2⟩ := ideal_r.1 hb
  obtain ⟨x1, x2, x3, x4, x5, x6, x7, x8, x9⟩ := a
  obtain ⟨w1, w2, w3, w4, w5, w6, w7, w8, w9⟩ := b
  simp only at *
  clear ha hb
  have hs1 := hn.1
  have hs2 := hn.2
  simp only at hs1 hs2
  refine PC_of ?_
  refine w_impl_sameIdeal (by simp) ?_
  unfold b_impl_sameIdeal
  simp -implicitDefEqProofs only [go_sem, ↓reduceIte, reduceCtorEq, Int.reduceEq, Int.reduceLT, Int.reduceLE, Nat.reduceEqDiff, Nat.reduceAdd, Nat.reduceMul, Nat.reduceLeDiff, Nat.reduceSub, Int.reduceNeg, sb1.one, ss1.one, sb2.one, ss2.one]
  intro b1 hb_b1 n_b1
  simp -implicitDefEqProofs only [go_sem, ↓reduceIte, reduceCtorEq, Int.reduceEq, Int.reduceLT, Int.reduceLE, Nat.reduceEqDiff, Nat.reduceAdd, Nat.reduceMul, Nat.reduceLeDiff, Nat.reduceSub, Int.reduceNeg, sb1.one, ss1.one, sb2.one, ss2.one, hb_b1]
  intro b2 hb_b2 m0_b2
  obtain ⟨z_b2_b1, y_b2_b1, n_b2⟩ := fne m0_b2
  simp only [H.set_base] at hb_b2
  by_cases p1 : x1 = w1
  rotate_left
  · simp -implicitDefEqProofs only [go_sem, ↓reduceIte, reduceCtorEq, Int.reduceEq, Int.reduceLT, Int.reduceLE, Nat.reduceEqDiff, Nat.reduceAdd, Nat.reduceMul, Nat.reduceLeDiff, Nat.reduceSub, Int.reduceNeg, p1, hb_b1, hb_b2, z_b2_b1, y_b2_b1]
    exact ⟨(((Ext.refl _).set' n_b1 _).set' n_b2 _), dec_f fun h => p1 (by injection h)⟩
  subst p1
  by_cases p2 : x2 = w2
  rotate_left
  · simp -implicitDefEqProofs only [go_sem, ↓reduceIte, reduceCtorEq, Int.reduceEq, Int.reduceLT, Int.reduceLE, Nat.reduceEqDiff, Nat.reduceAdd, Nat.reduceMul, Nat.reduceLeDiff, Nat.reduceSub, Int.reduceNeg, p2, hb_b1, hb_b2, z_b2_b1, y_b2_b1]
    exact ⟨(((Ext.refl _).set' n_b1 _).set' n_b2 _), dec_f fun h => p2 (by injection h)⟩
  subst p2
  by_cases p3 : x3 = w3
  rotate_left
  · simp -implicitDefEqProofs only [go_sem, ↓reduceIte, reduceCtorEq, Int.reduceEq, Int.reduceLT, Int.reduceLE, Nat.reduceEqDiff, Nat.reduceAdd, Nat.reduceMul, Nat.reduceLeDiff, Nat.reduceSub, Int.reduceNeg, p3, hb_b1, hb_b2, z_b2_b1, y_b2_b1]
    exact ⟨(((Ext.refl _).set' n_b1 _).set' n_b2 _), dec_f fun h => p3 (by injection h)⟩
  subst p3
  by_cases p4 : x4 = w4
  rotate_left
  · simp -implicitDefEqProofs only [go_sem, ↓reduceIte, reduceCtorEq, Int.reduceEq, Int.reduceLT, Int.reduceLE, Nat.reduceEqDiff, Nat.reduceAdd, Nat.reduceMul, Nat.reduceLeDiff, Nat.reduceSub, Int.reduceNeg, p4, hb_b1, hb_b2, z_b2_b1, y_b2_b1]
    exact ⟨(((Ext.refl _).set' n_b1 _).set' n_b2 _), dec_f fun h => p4 (by injection h)⟩
  subst p4
  by_cases p5 : x5 = w5
  rotate_left
  · simp -implicitDefEqProofs only [go_sem, ↓reduceIte, reduceCtorEq, Int.reduceEq, Int.reduceLT, Int.reduceLE, Nat.reduceEqDiff, Nat.reduceAdd, Nat.reduceMul, Nat.reduceLeDiff, Nat.reduceSub, Int.reduceNeg, p5, hb_b1, hb_b2, z_b2_b1, y_b2_b1]
    exact ⟨(((Ext.refl _).set' n_b1 _).set' n_b2 _), dec_f fun h => p5 (by injection h)⟩
  subst p5
  by_cases p6 : x6 = w6
  rotate_left
  · simp -implicitDefEqProofs only [go_sem, ↓reduceIte, reduceCtorEq, Int.reduceEq, Int.reduceLT, Int.reduceLE, Nat.reduceEqDiff, Nat.reduceAdd, Nat.reduceMul, Nat.reduceLeDiff, Nat.reduceSub, Int.reduceNeg, p6, hb_b1, hb_b2, z_b2_b1, y_b2_b1]
    exact ⟨(((Ext.refl _).set' n_b1 _).set' n_b2 _), dec_f fun h => p6 (by injection h)⟩
  subst p6
  by_cases p7 : x7 = w7
  rotate_left
  · simp -implicitDefEqProofs only [go_sem, ↓reduceIte, reduceCtorEq, Int.reduceEq, Int.reduceLT, Int.reduceLE, Nat.reduceEqDiff, Nat.reduceAdd, Nat.reduceMul, Nat.reduceLeDiff, Nat.reduceSub, Int.reduceNeg, p7, hb_b1, hb_b2, z_b2_b1, y_b2_b1]
    exact ⟨(((Ext.refl _).set' n_b1 _).set' n_b2 _), dec_f fun h => p7 (by injection h)⟩
  subst p7
  simp -implicitDefEqProofs only [go_sem, ↓reduceIte, reduceCtorEq, Int.reduceEq, Int.reduceLT, Int.reduceLE, Nat.reduceEqDiff, Nat.reduceAdd, Nat.reduceMul, Nat.reduceLeDiff, Nat.reduceSub, Int.reduceNeg, sb1.one, ss1.one, sb2.one, ss2.one, hb_b1, hb_b2, z_b2_b1, y_b2_b1]
  refine PC.use (eqlStr_pc (sb1.ext (((Ext.refl _).set' n_b1 _).set' n_b2 _)) (sb2.ext (((Ext.refl _).set' n_b1 _).set' n_b2 _)) hs1) ?_
  by_cases p8 : x8 = w8
  rotate_left
  · simp -implicitDefEqProofs only [go_sem, ↓reduceIte, reduceCtorEq, Int.reduceEq, Int.reduceLT, Int.reduceLE, Nat.reduceEqDiff, Nat.reduceAdd, Nat.reduceMul, Nat.reduceLeDiff, Nat.reduceSub, Int.reduceNeg, p8, hb_b1, hb_b2, z_b2_b1, y_b2_b1]
    exact ⟨(((Ext.refl _).set' n_b1 _).set' n_b2 _), dec_f fun h => p8 (by injection h)⟩
  subst p8
  simp -implicitDefEqProofs only [go_sem, ↓reduceIte, reduceCtorEq, Int.reduceEq, Int.reduceLT, Int.reduceLE, Nat.reduceEqDiff, Nat.reduceAdd, Nat.reduceMul, Nat.reduceLeDiff, Nat.reduceSub, Int.reduceNeg, hb_b1, hb_b2, z_b2_b1, y_b2_b1]
  refine PC.use (eqlStep_pc (ss1.ext (((Ext.refl _).set' n_b1 _).set' n_b2 _)) (ss2.ext (((Ext.refl _).set' n_b1 _).set' n_b2 _)) hs2) ?_
  by_cases p9 : x9 = w9
  · subst p9
    simp -implicitDefEqProofs only [go_sem, ↓reduceIte, reduceCtorEq, Int.reduceEq, Int.reduceLT, Int.reduceLE, Nat.reduceEqDiff, Nat.reduceAdd, Nat.reduceMul, Nat.reduceLeDiff, Nat.reduceSub, Int.reduceNeg, hb_b1, hb_b2, z_b2_b1, y_b2_b1]
    exact (((Ext.refl _).set' n_b1 _).set' n_b2 _)
  · simp -implicitDefEqProofs only [go_sem, ↓reduceIte, reduceCtorEq, Int.reduceEq, Int.reduceLT, Int.reduceLE, Nat.reduceEqDiff, Nat.reduceAdd, Nat.reduceMul, Nat.reduceLeDiff, Nat.reduceSub, Int.reduceNeg, p9, hb_b1, hb_b2, z_b2_b1, y_b2_b1]
    exact ⟨(((Ext.refl _).set' n_b1 _).set' n_b2 _), dec_f fun h => p9 (by injection h)⟩
/-- spec.l15Same -/
def b_spec_l15Same : C := (.seq (.ops [⟨(some 2), none, .box (.t 0)⟩, ⟨(some 3), none, .box (.t 1)⟩, q 4 (.mv (.c (.bool false)))])
 (.seq (.seq (.ops [q 7 (.fld 0 (.t 2)), q 8 (.ld false 1 (.t 7)), q 9 (.fld 0 (.t 3)), q 10 (.ld false 1 (.t 9)), q 11 (.bin .neq (.t 8) (.t 10)), q 12 (.mv (.t 11)), qg 13 12 false (.fld 1 (.t 2)), qg 14 12 false (.ld false 1 (.t 13)), qg 15 12 false (.fld 1 (.t 3)), qg 16 12 false (.ld false 1 (.t 15)), qg 17 12 false (.bin .neq (.t 14) (.t 16)), q 18 (.pick (.t 12) (.c (.bool true)) (.t 17)), q 19 (.mv (.t 18)), qg 20 19 false (.fld 2 (.t 2)), qg 21 19 false (.ld false 1 (.t 20)), qg 22 19 false (.fld 2 (.t 3)), qg 23 19 false (.ld false 1 (.t 22)), qg 24 19 false (.bin .neq (.t 21) (.t 23)), q 25 (.pick (.t 19) (.c (.bool true)) (.t 24)), q 26 (.mv (.t 25)), qg 27 26 false (.fld 3 (.t 2)), qg 28 26 false (.ld false 1 (.t 27)), qg 29 26 false (.fld 3 (.t 3)), qg 30 26 false (.ld false 1 (.t 29)), qg 31 26 false (.bin .neq (.t 28) (.t 30)), q 32 (.pick (.t 26) (.c (.bool true)) (.t 31)), q 33 (.mv (.t 32)), qg 34 33 false (.fld 4 (.t 2)), qg 35 33 false (.ld false 1 (.t 34)), qg 36 33 false (.fld 4 (.t 3)), qg 37 33 false (.ld false 1 (.t 36)), qg 38 33 false (.bin .neq (.t 35) (.t 37)), q 39 (.pick (.t 33) (.c (.bool true)) (.t 38)), q 40 (.mv (.t 39)), qg 41 40 false (.fld 5 (.t 2)), qg 42 40 false (.ld false 1 (.t 41)), qg 43 40 false (.fld 5 (.t 3)), qg 44 40 false (.ld false 1 (.t 43)), qg 45 40 false (.bin .neq (.t 42) (.t 44)), q 46 (.pick (.t 40) (.c (.bool true)) (.t 45)), q 47 (.mv (.t 46)), qg 48 47 false (.fld 6 (.t 2)), qg 49 47 false (.ld false 1 (.t 48)), qg 50 47 false (.fld 6 (.t 3)), qg 51 47 false (.ld false 1 (.t 50)), qg 52 47 false (.bin .neq (.t 49) (.t 51)), q 53 (.pick (.t 47) (.c (.bool true)) (.t 52)), q 54 (.mv (.t 53)), qg 55 54 false (.fld 7 (.t 2)), qg 56 54 false (.ld false 1 (.t 55)), qg 57 54 false (.len (.t 56)), qg 58 54 false (.fld 7 (.t 3)), qg 59 54 false (.ld false 1 (.t 58)), qg 60 54 false (.len (.t 59)), qg 61 54 false (.bin .neq (.t 57) (.t 60)), q 62 (.pick (.t 54) (.c (.bool true)) (.t 61)), q 63 (.mv (.t 62)), qg 64 63 false (.fld 8 (.t 2)), qg 65 63 false (.ld false 1 (.t 64)), qg 66 63 false (.len (.t 65)), qg 67 63 false (.fld 8 (.t 3)), qg 68 63 false (.ld false 1 (.t 67)), qg 69 63 false (.len (.t 68)), qg 70 63 false (.bin .neq (.t 66) (.t 69)), q 71 (.pick (.t 63) (.c (.bool true)) (.t 70))])
 (.cond (.t 71) (.seq (.ops [q 4 (.mv (.c (.bool false)))])
 .ret) .skip))
 (.seq (.seq (.ops [q 5 (.mv (.c (i64 0)))])
 (.block 0 (.loop (.seq (.seq (.ops [q 72 (.mv (.t 5)), q 73 (.fld 7 (.t 2)), q 74 (.ld false 1 (.t 73)), q 75 (.len (.t 74)), q 76 (.bin .lss (.t 72) (.t 75))])
 (.cond (.t 76) .skip (.exit 0)))
 (.seq (.block 1 (.seq (.dops true (.tk (q 79 (.fld 7 (.t 2))) (.tk (q 80 (.ld false 1 (.t 79))) (.tk (q 81 (.mv (.t 5))) (.tk (q 82 (.idx 1 (.t 80) (.t 81))) (.tk (q 83 (.ld false 1 (.t 82))) (.tk (q 84 (.fld 7 (.t 3))) (.tk (q 85 (.ld false 1 (.t 84))) (.tk (q 86 (.mv (.t 5))) (.tk (q 87 (.idx 1 (.t 85) (.t 86))) (.tk (q 88 (.ld false 1 (.t 87))) (.tk (q 89 (.bin .neq (.t 83) (.t 88))) .nil))))))))))))
 (.cond (.t 89) (.seq (.ops [q 4 (.mv (.c (.bool false)))])
 .ret) .skip)))
 (.ops [q 77 (.mv (.t 5)), q 78 (.bin .add (.t 77) (.c (i64 1))), q 5 (.mv (.t 78))]))))))
 (.seq (.seq (.ops [q 6 (.mv (.c (i64 0)))])
 (.block 2 (.loop (.seq (.seq (.ops [q 90 (.mv (.t 6)), q 91 (.fld 8 (.t 2)), q 92 (.ld false 1 (.t 91)), q 93 (.len (.t 92)), q 94 (.bin .lss (.t 90) (.t 93))])
 (.cond (.t 94) .skip (.exit 2)))
 (.seq (.block 3 (.seq (.dops true (.tk (q 97 (.fld 8 (.t 2))) (.tk (q 98 (.ld false 1 (.t 97))) (.tk (q 99 (.mv (.t 6))) (.tk (q 100 (.idx 4 (.t 98) (.t 99))) (.tk (q 101 (.ld true 4 (.t 100))) (.tk (q 102 (.fld 8 (.t 3))) (.tk (q 103 (.ld false 1 (.t 102))) (.tk (q 104 (.mv (.t 6))) (.tk (q 105 (.idx 4 (.t 103) (.t 104))) (.tk (q 106 (.ld true 4 (.t 105))) (.tk (q 107 (.eqa true [.i, .i, .i, .s] (.t 101) (.t 106))) .nil))))))))))))
 (.cond (.t 107) (.seq (.ops [q 4 (.mv (.c (.bool false)))])
 .ret) .skip)))
 (.ops [q 95 (.mv (.t 6)), q 96 (.bin .add (.t 95) (.c (i64 1))), q 6 (.mv (.t 96))]))))))
 (.seq (.ops [q 4 (.mv (.c (.bool true)))])
 .ret)))))
theorem w_spec_l15Same {args : List Value} {h : H} {Q : Value → H → Prop} (hl : args.length ≤ 108) (hk : wpc Try.prog b_spec_l15Same (retw [.tmp 4] Q) (argsFr args) h) : AC Try.prog 123 args h Q :=
  AC.of_wpc mixedOrders Try.func123 (by kernel_rfl) (by kernel_rfl : prepF Try.prog Try.f123 = some ⟨108, [.tmp 4], b_spec_l15Same⟩) hl hk

set_option maxHeartbeats 1600000 in
theorem l15Same_pc {h : H} {c1 c2 : List Value} {a b : UIdeal} (ha : RepR h (spIdeal a) c1) (hb : RepR h (spIdeal b) c2) (hn : a.small) : PC Try.prog 123 [.agg c1.toArray, .agg c2.toArray] h (.bool (decide (a = b))) := by
  obtain ⟨v1, v2, rfl, sb1, ss1⟩ := ideal_r.1 ha
  obtain ⟨u1, u2, rfl, sb2, ss2⟩ := ideal_r.1 hb
  obtain ⟨x1, x2, x3, x4, x5, x6, x7, x8, x9⟩ := a
  obtain ⟨w1, w2, w3, w4, w5, w6, w7, w8, w9⟩ := b
  simp only at *
  clear ha hb
  have hs1 := hn.1
  have hs2 := hn.2
  simp only at hs1 hs2
  obtain ⟨a1, c1, d1, o1, rfl, hc1, r1, s1⟩ := sb1
  obtain ⟨a2, c2, d2, o2, rfl, hc2, r2, s2⟩ := ss1
  obtain ⟨a3, c3, d3, o3, rfl, hc3, r3, s3⟩ := sb2
  obtain ⟨a4, c4, d4, o4, rfl, hc4, r4, s4⟩ := ss2
  have l1 : (strs x8).length = x8.length := by simp
  have l2 : (x9.map UStep.cells).length = x9.length := by simp
  have l3 : (strs w8).length = w8.length := by simp
  have l4 : (w9.map UStep.cells).length = w9.length := by simp
  rw [l1] at r1
  rw [l2] at r2
  rw [l3] at r3
  rw [l4] at r4
  skip
  refine PC_of ?_
  refine w_spec_l15Same (by simp) ?_
  unfold b_spec_l15Same
  simp -implicitDefEqProofs only [go_sem, ↓reduceIte, reduceCtorEq, Int.reduceEq, Int.reduceLT, Int.reduceLE, Nat.reduceEqDiff, Nat.reduceAdd, Nat.reduceMul, Nat.reduceLeDiff, Nat.reduceSub, Int.reduceNeg, l1, l2, l3, l4]
  intro b1 hb_b1 n_b1
  simp -implicitDefEqProofs only [go_sem, ↓reduceIte, reduceCtorEq, Int.reduceEq, Int.reduceLT, Int.reduceLE, Nat.reduceEqDiff, Nat.reduceAdd, Nat.reduceMul, Nat.reduceLeDiff, Nat.reduceSub, Int.reduceNeg, l1, l2, l3, l4, hb_b1]
  intro b2 hb_b2 m0_b2
  obtain ⟨z_b2_b1, y_b2_b1, n_b2⟩ := fne m0_b2
  simp only [H.set_base] at hb_b2
  by_cases p1 : x1 = w1
  rotate_left
  · simp -implicitDefEqProofs only [go_sem, ↓reduceIte, reduceCtorEq, Int.reduceEq, Int.reduceLT, Int.reduceLE, Nat.reduceEqDiff, Nat.reduceAdd, Nat.reduceMul, Nat.reduceLeDiff, Nat.reduceSub, Int.reduceNeg, p1, l1, l2, l3, l4, hb_b1, hb_b2, z_b2_b1, y_b2_b1]
    exact ⟨(((Ext.refl _).set' n_b1 _).set' n_b2 _), dec_f fun h => p1 (by injection h)⟩
  subst p1
  by_cases p2 : x2 = w2
  rotate_left
  · simp -implicitDefEqProofs only [go_sem, ↓reduceIte, reduceCtorEq, Int.reduceEq, Int.reduceLT, Int.reduceLE, Nat.reduceEqDiff, Nat.reduceAdd, Nat.reduceMul, Nat.reduceLeDiff, Nat.reduceSub, Int.reduceNeg, p2, l1, l2, l3, l4, hb_b1, hb_b2, z_b2_b1, y_b2_b1]
    exact ⟨(((Ext.refl _).set' n_b1 _).set' n_b2 _), dec_f fun h => p2 (by injection h)⟩
  subst p2
  by_cases p3 : x3 = w3
  rotate_left
  · simp -implicitDefEqProofs only [go_sem, ↓reduceIte, reduceCtorEq, Int.reduceEq, Int.reduceLT, Int.reduceLE, Nat.reduceEqDiff, Nat.reduceAdd, Nat.reduceMul, Nat.reduceLeDiff, Nat.reduceSub, Int.reduceNeg, p3, l1, l2, l3, l4, hb_b1, hb_b2, z_b2_b1, y_b2_b1]
    exact ⟨(((Ext.refl _).set' n_b1 _).set' n_b2 _), dec_f fun h => p3 (by injection h)⟩
  subst p3
  by_cases p4 : x4 = w4
  rotate_left
  · simp -implicitDefEqProofs only [go_sem, ↓reduceIte, reduceCtorEq, Int.reduceEq, Int.reduceLT, Int.reduceLE, Nat.reduceEqDiff, Nat.reduceAdd, Nat.reduceMul, Nat.reduceLeDiff, Nat.reduceSub, Int.reduceNeg, p4, l1, l2, l3, l4, hb_b1, hb_b2, z_b2_b1, y_b2_b1]
    exact ⟨(((Ext.refl _).set' n_b1 _).set' n_b2 _), dec_f fun h => p4 (by injection h)⟩
  subst p4
  by_cases p5 : x5 = w5
  rotate_left
  · simp -implicitDefEqProofs only [go_sem, ↓reduceIte, reduceCtorEq, Int.reduceEq, Int.reduceLT, Int.reduceLE, Nat.reduceEqDiff, Nat.reduceAdd, Nat.reduceMul, Nat.reduceLeDiff, Nat.reduceSub, Int.reduceNeg, p5, l1, l2, l3, l4, hb_b1, hb_b2, z_b2_b1, y_b2_b1]
    exact ⟨(((Ext.refl _).set' n_b1 _).set' n_b2 _), dec_f fun h => p5 (by injection h)⟩
  subst p5
  by_cases p6 : x6 = w6
  rotate_left
  · simp -implicitDefEqProofs only [go_sem, ↓reduceIte, reduceCtorEq, Int.reduceEq, Int.reduceLT, Int.reduceLE, Nat.reduceEqDiff, Nat.reduceAdd, Nat.reduceMul, Nat.reduceLeDiff, Nat.reduceSub, Int.reduceNeg, p6, l1, l2, l3, l4, hb_b1, hb_b2, z_b2_b1, y_b2_b1]
    exact ⟨(((Ext.refl _).set' n_b1 _).set' n_b2 _), dec_f fun h => p6 (by injection h)⟩
  subst p6
  by_cases p7 : x7 = w7
  rotate_left
  · simp -implicitDefEqProofs only [go_sem, ↓reduceIte, reduceCtorEq, Int.reduceEq, Int.reduceLT, Int.reduceLE, Nat.reduceEqDiff, Nat.reduceAdd, Nat.reduceMul, Nat.reduceLeDiff, Nat.reduceSub, Int.reduceNeg, p7, l1, l2, l3, l4, hb_b1, hb_b2, z_b2_b1, y_b2_b1]
    exact ⟨(((Ext.refl _).set' n_b1 _).set' n_b2 _), dec_f fun h => p7 (by injection h)⟩
  subst p7
  by_cases p8 : x8.length = w8.length
  rotate_left
  · simp -implicitDefEqProofs only [go_sem, ↓reduceIte, reduceCtorEq, Int.reduceEq, Int.reduceLT, Int.reduceLE, Nat.reduceEqDiff, Nat.reduceAdd, Nat.reduceMul, Nat.reduceLeDiff, Nat.reduceSub, Int.reduceNeg, show ¬ ((x8.length : Int) = (w8.length : Int)) by omega, p8, l1, l2, l3, l4, hb_b1, hb_b2, z_b2_b1, y_b2_b1]
    exact ⟨(((Ext.refl _).set' n_b1 _).set' n_b2 _), dec_f fun h => p8 (by injection h with _ _ _ _ _ _ _ e8 e9; rw [e8])⟩
  have P8 : ((x8.length : Int) ≠ (w8.length : Int)) = False := eq_false fun h => h (by omega)
  have P8' : decide ((x8.length : Int) = (w8.length : Int)) = true := decide_eq_true (by omega)
  by_cases p9 : x9.length = w9.length
  rotate_left
  · simp -implicitDefEqProofs only [go_sem, ↓reduceIte, reduceCtorEq, Int.reduceEq, Int.reduceLT, Int.reduceLE, Nat.reduceEqDiff, Nat.reduceAdd, Nat.reduceMul, Nat.reduceLeDiff, Nat.reduceSub, Int.reduceNeg, P8, P8', show ¬ ((x9.length : Int) = (w9.length : Int)) by omega, p9, l1, l2, l3, l4, hb_b1, hb_b2, z_b2_b1, y_b2_b1]
    exact ⟨(((Ext.refl _).set' n_b1 _).set' n_b2 _), dec_f fun h => p9 (by injection h with _ _ _ _ _ _ _ e8 e9; rw [e9])⟩
  have P9 : ((x9.length : Int) ≠ (w9.length : Int)) = False := eq_false fun h => h (by omega)
  have P9' : decide ((x9.length : Int) = (w9.length : Int)) = true := decide_eq_true (by omega)
  simp -implicitDefEqProofs only [go_sem, ↓reduceIte, reduceCtorEq, Int.reduceEq, Int.reduceLT, Int.reduceLE, Nat.reduceEqDiff, Nat.reduceAdd, Nat.reduceMul, Nat.reduceLeDiff, Nat.reduceSub, Int.reduceNeg, P8, P8', P9, P9', l1, l2, l3, l4, hb_b1, hb_b2, z_b2_b1, y_b2_b1]
  generalize hhX : (h.set b1 ⟨_, _⟩).set b2 ⟨_, _⟩ = hX
  have eX : Ext h hX := by rw [← hhX]; exact (((Ext.refl _).set' n_b1 _).set' n_b2 _)
  have G1 : hX.get b1 = some ⟨[i64 x1, i64 x2, i64 x3, i64 x4, i64 x5, i64 x6, str x7, .slice a1 x8.length c1, .slice a2 x9.length c2], 9⟩ := by rw [← hhX]; simp -implicitDefEqProofs only [go_sem, ↓reduceIte, reduceCtorEq, Int.reduceEq, Int.reduceLT, Int.reduceLE, Nat.reduceEqDiff, Nat.reduceAdd, Nat.reduceMul, Nat.reduceLeDiff, Nat.reduceSub, Int.reduceNeg, l1, l2, l3, l4, hb_b1, hb_b2, z_b2_b1, y_b2_b1]
  have G2 : hX.get b2 = some ⟨[i64 x1, i64 x2, i64 x3, i64 x4, i64 x5, i64 x6, str x7, .slice a3 w8.length c3, .slice a4 w9.length c4], 9⟩ := by rw [← hhX]; simp -implicitDefEqProofs only [go_sem, ↓reduceIte, reduceCtorEq, Int.reduceEq, Int.reduceLT, Int.reduceLE, Nat.reduceEqDiff, Nat.reduceAdd, Nat.reduceMul, Nat.reduceLeDiff, Nat.reduceSub, Int.reduceNeg, l1, l2, l3, l4, hb_b1, hb_b2, z_b2_b1, y_b2_b1]
  refine loopW_of (fun m f h' => ∃ k, m + k = x8.length ∧ h' = hX ∧ f 2 = ptr b1 0 ∧ f 3 = ptr b2 0 ∧ f 5 = i64 k ∧ x8.take k = w8.take k) x8.length
    ⟨0, by simp, rfl, by simp -implicitDefEqProofs only [go_sem, ↓reduceIte, reduceCtorEq, Int.reduceEq, Int.reduceLT, Int.reduceLE, Nat.reduceEqDiff, Nat.reduceAdd, Nat.reduceMul, Nat.reduceLeDiff, Nat.reduceSub, Int.reduceNeg, l1, l2, l3, l4, hb_b1, hb_b2, z_b2_b1, y_b2_b1], by simp -implicitDefEqProofs only [go_sem, ↓reduceIte, reduceCtorEq, Int.reduceEq, Int.reduceLT, Int.reduceLE, Nat.reduceEqDiff, Nat.reduceAdd, Nat.reduceMul, Nat.reduceLeDiff, Nat.reduceSub, Int.reduceNeg, l1, l2, l3, l4, hb_b1, hb_b2, z_b2_b1, y_b2_b1], by simp -implicitDefEqProofs only [go_sem, ↓reduceIte, reduceCtorEq, Int.reduceEq, Int.reduceLT, Int.reduceLE, Nat.reduceEqDiff, Nat.reduceAdd, Nat.reduceMul, Nat.reduceLeDiff, Nat.reduceSub, Int.reduceNeg, l1, l2, l3, l4, hb_b1, hb_b2, z_b2_b1, y_b2_b1]; rfl, by simp⟩ ?_
  rintro m f h' ⟨k, hm, hh, f2, f3, f5, ht⟩
  have hh := hh.symm
  subst hh
  by_cases hk : k < x8.length
  · have hk2 : k < w8.length := by omega
    have d1 := ldc_sub eX.2 (s1 k _ (show (strs x8)[k]? = some [str x8[k]] by simp [hk]))
    have d2 := ldc_sub eX.2 (s3 k _ (show (strs w8)[k]? = some [str w8[k]] by simp [hk2]))
    by_cases he : x8[k] = w8[k]
    · simp -implicitDefEqProofs only [go_sem, ↓reduceIte, reduceCtorEq, Int.reduceEq, Int.reduceLT, Int.reduceLE, Nat.reduceEqDiff, Nat.reduceAdd, Nat.reduceMul, Nat.reduceLeDiff, Nat.reduceSub, Int.reduceNeg, f2, f3, f5, ldc_get G1, ldc_get G2, Int.ofNat_lt, Int.natCast_nonneg, hk, hk2, r1, r3, d1, d2, he, wrap_i64 (show -(9223372036854775808 : Int) ≤ ((k : Int) + 1) by omega) (show ((k : Int) + 1) < 9223372036854775808 by omega), l1, l2, l3, l4, hb_b1, hb_b2, z_b2_b1, y_b2_b1]
      exact ⟨m - 1, by omega, _, Ext.refl _, k + 1, by omega, rfl, rfl, (take_next hk hk2 ht).2 he⟩
    · simp -implicitDefEqProofs only [go_sem, ↓reduceIte, reduceCtorEq, Int.reduceEq, Int.reduceLT, Int.reduceLE, Nat.reduceEqDiff, Nat.reduceAdd, Nat.reduceMul, Nat.reduceLeDiff, Nat.reduceSub, Int.reduceNeg, f2, f3, f5, ldc_get G1, ldc_get G2, Int.ofNat_lt, Int.natCast_nonneg, hk, hk2, r1, r3, d1, d2, he, l1, l2, l3, l4, hb_b1, hb_b2, z_b2_b1, y_b2_b1]
      exact ⟨eX, dec_f fun h => he ((take_next hk hk2 ht).1 (by injection h with _ _ _ _ _ _ _ e8 e9; rw [e8]))⟩
  have e : k = x8.length := by omega
  subst e
  simp -implicitDefEqProofs only [go_sem, ↓reduceIte, reduceCtorEq, Int.reduceEq, Int.reduceLT, Int.reduceLE, Nat.reduceEqDiff, Nat.reduceAdd, Nat.reduceMul, Nat.reduceLeDiff, Nat.reduceSub, Int.reduceNeg, f2, f3, f5, ldc_get G1, ldc_get G2, Int.ofNat_lt, Nat.lt_irrefl, l1, l2, l3, l4, hb_b1, hb_b2, z_b2_b1, y_b2_b1]
  have E8 := take_eq p8 ht
  clear ht hm hk
  refine loopW_of (fun m f h' => ∃ k, m + k = x9.length ∧ h' = hX ∧ f 2 = ptr b1 0 ∧ f 3 = ptr b2 0 ∧ f 6 = i64 k ∧ x9.take k = w9.take k) x9.length
    ⟨0, by simp, rfl, by simp -implicitDefEqProofs only [go_sem, ↓reduceIte, reduceCtorEq, Int.reduceEq, Int.reduceLT, Int.reduceLE, Nat.reduceEqDiff, Nat.reduceAdd, Nat.reduceMul, Nat.reduceLeDiff, Nat.reduceSub, Int.reduceNeg, f2, l1, l2, l3, l4, hb_b1, hb_b2, z_b2_b1, y_b2_b1], by simp -implicitDefEqProofs only [go_sem, ↓reduceIte, reduceCtorEq, Int.reduceEq, Int.reduceLT, Int.reduceLE, Nat.reduceEqDiff, Nat.reduceAdd, Nat.reduceMul, Nat.reduceLeDiff, Nat.reduceSub, Int.reduceNeg, f3, l1, l2, l3, l4, hb_b1, hb_b2, z_b2_b1, y_b2_b1], by simp -implicitDefEqProofs only [go_sem, ↓reduceIte, reduceCtorEq, Int.reduceEq, Int.reduceLT, Int.reduceLE, Nat.reduceEqDiff, Nat.reduceAdd, Nat.reduceMul, Nat.reduceLeDiff, Nat.reduceSub, Int.reduceNeg, l1, l2, l3, l4, hb_b1, hb_b2, z_b2_b1, y_b2_b1]; rfl, by simp⟩ ?_
  rintro m f h' ⟨k, hm, hh, f2, f3, f6, ht⟩
  have hh := hh.symm
  subst hh
  by_cases hk : k < x9.length
  · have hk2 : k < w9.length := by omega
    have d1 := ldc_sub eX.2 (s2 k _ (show (x9.map UStep.cells)[k]? = some (x9[k]).cells by simp [hk]))
    have d2 := ldc_sub eX.2 (s4 k _ (show (w9.map UStep.cells)[k]? = some (w9[k]).cells by simp [hk2]))
    have q1 : x9[k] = w9[k] → (x9[k].kind = w9[k].kind ∧ x9[k].dst = w9[k].dst ∧ x9[k].src = w9[k].src ∧ x9[k].data = w9[k].data) = True := fun he => eq_true (by rw [he]; simp)
    have q2 : ¬ x9[k] = w9[k] → (x9[k].kind = w9[k].kind ∧ x9[k].dst = w9[k].dst ∧ x9[k].src = w9[k].src ∧ x9[k].data = w9[k].data) = False := fun he => eq_false fun q => he (by cases h1 : x9[k]; cases h2 : w9[k]; simp_all)
    by_cases he : x9[k] = w9[k]
    · simp -implicitDefEqProofs only [go_sem, ↓reduceIte, reduceCtorEq, Int.reduceEq, Int.reduceLT, Int.reduceLE, Nat.reduceEqDiff, Nat.reduceAdd, Nat.reduceMul, Nat.reduceLeDiff, Nat.reduceSub, Int.reduceNeg, f2, f3, f6, ldc_get G1, ldc_get G2, Int.ofNat_lt, Int.natCast_nonneg, hk, hk2, r2, r4, d1, d2, cellsEq_iiis, q1 he, wrap_i64 (show -(9223372036854775808 : Int) ≤ ((k : Int) + 1) by omega) (show ((k : Int) + 1) < 9223372036854775808 by omega), l1, l2, l3, l4, hb_b1, hb_b2, z_b2_b1, y_b2_b1]
      exact ⟨m - 1, by omega, _, Ext.refl _, k + 1, by omega, rfl, rfl, (take_next hk hk2 ht).2 he⟩
    · simp -implicitDefEqProofs only [go_sem, ↓reduceIte, reduceCtorEq, Int.reduceEq, Int.reduceLT, Int.reduceLE, Nat.reduceEqDiff, Nat.reduceAdd, Nat.reduceMul, Nat.reduceLeDiff, Nat.reduceSub, Int.reduceNeg, f2, f3, f6, ldc_get G1, ldc_get G2, Int.ofNat_lt, Int.natCast_nonneg, hk, hk2, r2, r4, d1, d2, cellsEq_iiis, q2 he, l1, l2, l3, l4, hb_b1, hb_b2, z_b2_b1, y_b2_b1]
      exact ⟨eX, dec_f fun h => he ((take_next hk hk2 ht).1 (by injection h with _ _ _ _ _ _ _ e8 e9; rw [e9]))⟩
  have e : k = x9.length := by omega
  subst e
  simp -implicitDefEqProofs only [go_sem, ↓reduceIte, reduceCtorEq, Int.reduceEq, Int.reduceLT, Int.reduceLE, Nat.reduceEqDiff, Nat.reduceAdd, Nat.reduceMul, Nat.reduceLeDiff, Nat.reduceSub, Int.reduceNeg, f2, f3, f6, ldc_get G1, ldc_get G2, Int.ofNat_lt, Nat.lt_irrefl, l1, l2, l3, l4, hb_b1, hb_b2, z_b2_b1, y_b2_b1]
  have E9 := take_eq p9 ht
  exact ⟨eX, dec_t (by rw [E8, E9])⟩
/-- impl.SameIdeal -/
def b_impl_SameIdeal : C := (.seq (.ops [⟨(some 2), none, .box (.t 0)⟩, ⟨(some 3), none, .box (.t 1)⟩, q 4 (.mv (.c (.bool false)))])
 (.seq (.ops [q 5 (.ld true 9 (.t 2)), ⟨(some 6), none, .call (.c (.func (.func 122) #[] #[])) [(.t 5)]⟩, q 7 (.mv (.t 6)), qg 8 7 true (.ld true 9 (.t 3)), ⟨(some 9), (some (7, true)), .call (.c (.func (.func 122) #[] #[])) [(.t 8)]⟩, q 10 (.pick (.t 7) (.t 9) (.c (.bool false))), q 11 (.mv (.t 10)), qg 12 11 true (.ld true 9 (.t 2)), qg 13 11 true (.ld true 9 (.t 3)), ⟨(some 14), (some (11, true)), .call (.c (.func (.func 124) #[] #[])) [(.t 12), (.t 13)]⟩, q 15 (.pick (.t 11) (.t 14) (.c (.bool false))), q 4 (.mv (.t 15))])
 .ret))
theorem w_impl_SameIdeal {args : List Value} {h : H} {Q : Value → H → Prop} (hl : args.length ≤ 16) (hk : wpc Try.prog b_impl_SameIdeal (retw [.tmp 4] Q) (argsFr args) h) : AC Try.prog 29 args h Q :=
  AC.of_wpc mixedOrders Try.func29 (by kernel_rfl) (by kernel_rfl : prepF Try.prog Try.f29 = some ⟨16, [.tmp 4], b_impl_SameIdeal⟩) hl hk

theorem implSameIdeal_pc {h : H} {c1 c2 : List Value} {a b : UIdeal} (ha : RepR h (spIdeal a) c1) (hb : RepR h (spIdeal b) c2) (hsa : a.small) (hsb : b.small) : PC Try.prog 29 [.agg c1.toArray, .agg c2.toArray] h (.bool (decide (idealOk a ∧ idealOk b ∧ a = b))) := by
  have l1 := ha.len
  have l2 := hb.len
  simp only [List.length_cons, List.length_nil, Nat.reduceAdd] at l1 l2
  have t1 := take_len l1
  have t2 := take_len l2
  have o1 := ha.one
  have o2 := hb.one
  refine PC_of ?_
  skip
  refine w_impl_SameIdeal (by simp) ?_
  unfold b_impl_SameIdeal
  simp -implicitDefEqProofs only [go_sem, ↓reduceIte, reduceCtorEq, Int.reduceEq, Int.reduceLT, Int.reduceLE, Nat.reduceEqDiff, Nat.reduceAdd, Nat.reduceMul, Nat.reduceLeDiff, Nat.reduceSub, Int.reduceNeg, l1, l2, t1, t2, o1, o2]
  intro b1 hb_b1 n_b1
  simp -implicitDefEqProofs only [go_sem, ↓reduceIte, reduceCtorEq, Int.reduceEq, Int.reduceLT, Int.reduceLE, Nat.reduceEqDiff, Nat.reduceAdd, Nat.reduceMul, Nat.reduceLeDiff, Nat.reduceSub, Int.reduceNeg, l1, l2, t1, t2, o1, o2, hb_b1]
  intro b2 hb_b2 m0_b2
  obtain ⟨z_b2_b1, y_b2_b1, n_b2⟩ := fne m0_b2
  simp only [H.set_base] at hb_b2
  simp -implicitDefEqProofs only [go_sem, ↓reduceIte, reduceCtorEq, Int.reduceEq, Int.reduceLT, Int.reduceLE, Nat.reduceEqDiff, Nat.reduceAdd, Nat.reduceMul, Nat.reduceLeDiff, Nat.reduceSub, Int.reduceNeg, l1, l2, t1, t2, o1, o2, hb_b1, hb_b2, z_b2_b1, y_b2_b1]
  refine PC.use (isIdeal_pc (ha.ext (((Ext.refl _).set' n_b1 _).set' n_b2 _)) hsa) ?_
  by_cases p1 : idealOk a
  rotate_left
  · simp -implicitDefEqProofs only [go_sem, ↓reduceIte, reduceCtorEq, Int.reduceEq, Int.reduceLT, Int.reduceLE, Nat.reduceEqDiff, Nat.reduceAdd, Nat.reduceMul, Nat.reduceLeDiff, Nat.reduceSub, Int.reduceNeg, p1, l1, l2, t1, t2, o1, o2, hb_b1, hb_b2, z_b2_b1, y_b2_b1]
    first | exact (((Ext.refl _).set' n_b1 _).set' n_b2 _) | exact ⟨(((Ext.refl _).set' n_b1 _).set' n_b2 _), dec_f fun h => p1 h.1⟩
  simp -implicitDefEqProofs only [go_sem, ↓reduceIte, reduceCtorEq, Int.reduceEq, Int.reduceLT, Int.reduceLE, Nat.reduceEqDiff, Nat.reduceAdd, Nat.reduceMul, Nat.reduceLeDiff, Nat.reduceSub, Int.reduceNeg, p1, l1, l2, t1, t2, o1, o2, hb_b1, hb_b2, z_b2_b1, y_b2_b1]
  refine PC.use (isIdeal_pc (hb.ext (((Ext.refl _).set' n_b1 _).set' n_b2 _)) hsb) ?_
  by_cases p2 : idealOk b
  rotate_left
  · simp -implicitDefEqProofs only [go_sem, ↓reduceIte, reduceCtorEq, Int.reduceEq, Int.reduceLT, Int.reduceLE, Nat.reduceEqDiff, Nat.reduceAdd, Nat.reduceMul, Nat.reduceLeDiff, Nat.reduceSub, Int.reduceNeg, p2, l1, l2, t1, t2, o1, o2, hb_b1, hb_b2, z_b2_b1, y_b2_b1]
    first | exact (((Ext.refl _).set' n_b1 _).set' n_b2 _) | exact ⟨(((Ext.refl _).set' n_b1 _).set' n_b2 _), dec_f fun h => p2 h.2.1⟩
  simp -implicitDefEqProofs only [go_sem, ↓reduceIte, reduceCtorEq, Int.reduceEq, Int.reduceLT, Int.reduceLE, Nat.reduceEqDiff, Nat.reduceAdd, Nat.reduceMul, Nat.reduceLeDiff, Nat.reduceSub, Int.reduceNeg, p2, l1, l2, t1, t2, o1, o2, hb_b1, hb_b2, z_b2_b1, y_b2_b1]
  refine PC.use (sameIdeal_pc (ha.ext (((Ext.refl _).set' n_b1 _).set' n_b2 _)) (hb.ext (((Ext.refl _).set' n_b1 _).set' n_b2 _)) hsa) ?_
  by_cases p3 : a = b
  · simp -implicitDefEqProofs only [go_sem, ↓reduceIte, reduceCtorEq, Int.reduceEq, Int.reduceLT, Int.reduceLE, Nat.reduceEqDiff, Nat.reduceAdd, Nat.reduceMul, Nat.reduceLeDiff, Nat.reduceSub, Int.reduceNeg, decide_eq_true p3, l1, l2, t1, t2, o1, o2, hb_b1, hb_b2, z_b2_b1, y_b2_b1]
    first | exact (((Ext.refl _).set' n_b1 _).set' n_b2 _) | exact ⟨(((Ext.refl _).set' n_b1 _).set' n_b2 _), dec_t ⟨p1, p2, p3⟩⟩
  · simp -implicitDefEqProofs only [go_sem, ↓reduceIte, reduceCtorEq, Int.reduceEq, Int.reduceLT, Int.reduceLE, Nat.reduceEqDiff, Nat.reduceAdd, Nat.reduceMul, Nat.reduceLeDiff, Nat.reduceSub, Int.reduceNeg, p3, l1, l2, t1, t2, o1, o2, hb_b1, hb_b2, z_b2_b1, y_b2_b1]
    first | exact (((Ext.refl _).set' n_b1 _).set' n_b2 _) | exact ⟨(((Ext.refl _).set' n_b1 _).set' n_b2 _), dec_f fun h => p3 h.2.2⟩
/-- spec.SameIdeal -/
def b_spec_SameIdeal : C := (.seq (.ops [⟨(some 2), none, .box (.t 0)⟩, ⟨(some 3), none, .box (.t 1)⟩, q 4 (.mv (.c (.bool false)))])
 (.seq (.ops [q 5 (.ld true 9 (.t 2)), ⟨(some 6), none, .call (.c (.func (.func 24) #[] #[])) [(.t 5)]⟩, q 7 (.mv (.t 6)), qg 8 7 true (.ld true 9 (.t 3)), ⟨(some 9), (some (7, true)), .call (.c (.func (.func 24) #[] #[])) [(.t 8)]⟩, q 10 (.pick (.t 7) (.t 9) (.c (.bool false))), q 11 (.mv (.t 10)), qg 12 11 true (.ld true 9 (.t 2)), qg 13 11 true (.ld true 9 (.t 3)), ⟨(some 14), (some (11, true)), .call (.c (.func (.func 123) #[] #[])) [(.t 12), (.t 13)]⟩, q 15 (.pick (.t 11) (.t 14) (.c (.bool false))), q 4 (.mv (.t 15))])
 .ret))
theorem w_spec_SameIdeal {args : List Value} {h : H} {Q : Value → H → Prop} (hl : args.length ≤ 16) (hk : wpc Try.prog b_spec_SameIdeal (retw [.tmp 4] Q) (argsFr args) h) : AC Try.prog 28 args h Q :=
  AC.of_wpc mixedOrders Try.func28 (by kernel_rfl) (by kernel_rfl : prepF Try.prog Try.f28 = some ⟨16, [.tmp 4], b_spec_SameIdeal⟩) hl hk

theorem specSameIdeal_pc {h : H} {c1 c2 : List Value} {a b : UIdeal} (ha : RepR h (spIdeal a) c1) (hb : RepR h (spIdeal b) c2) (hsa : a.small) (hsb : b.small) : PC Try.prog 28 [.agg c1.toArray, .agg c2.toArray] h (.bool (decide (idealOk a ∧ idealOk b ∧ a = b))) := by
  have l1 := ha.len
  have l2 := hb.len
  simp only [List.length_cons, List.length_nil, Nat.reduceAdd] at l1 l2
  have t1 := take_len l1
  have t2 := take_len l2
  have o1 := ha.one
  have o2 := hb.one
  refine PC_of ?_
  skip
  refine w_spec_SameIdeal (by simp) ?_
  unfold b_spec_SameIdeal
  simp -implicitDefEqProofs only [go_sem, ↓reduceIte, reduceCtorEq, Int.reduceEq, Int.reduceLT, Int.reduceLE, Nat.reduceEqDiff, Nat.reduceAdd, Nat.reduceMul, Nat.reduceLeDiff, Nat.reduceSub, Int.reduceNeg, l1, l2, t1, t2, o1, o2]
  intro b1 hb_b1 n_b1
  simp -implicitDefEqProofs only [go_sem, ↓reduceIte, reduceCtorEq, Int.reduceEq, Int.reduceLT, Int.reduceLE, Nat.reduceEqDiff, Nat.reduceAdd, Nat.reduceMul, Nat.reduceLeDiff, Nat.reduceSub, Int.reduceNeg, l1, l2, t1, t2, o1, o2, hb_b1]
  intro b2 hb_b2 m0_b2
  obtain ⟨z_b2_b1, y_b2_b1, n_b2⟩ := fne m0_b2
  simp only [H.set_base] at hb_b2
  simp -implicitDefEqProofs only [go_sem, ↓reduceIte, reduceCtorEq, Int.reduceEq, Int.reduceLT, Int.reduceLE, Nat.reduceEqDiff, Nat.reduceAdd, Nat.reduceMul, Nat.reduceLeDiff, Nat.reduceSub, Int.reduceNeg, l1, l2, t1, t2, o1, o2, hb_b1, hb_b2, z_b2_b1, y_b2_b1]
  refine PC.use (specIdealRight_pc (ha.ext (((Ext.refl _).set' n_b1 _).set' n_b2 _)) hsa) ?_
  by_cases p1 : idealOk a
  rotate_left
  · simp -implicitDefEqProofs only [go_sem, ↓reduceIte, reduceCtorEq, Int.reduceEq, Int.reduceLT, Int.reduceLE, Nat.reduceEqDiff, Nat.reduceAdd, Nat.reduceMul, Nat.reduceLeDiff, Nat.reduceSub, Int.reduceNeg, p1, l1, l2, t1, t2, o1, o2, hb_b1, hb_b2, z_b2_b1, y_b2_b1]
    first | exact (((Ext.refl _).set' n_b1 _).set' n_b2 _) | exact ⟨(((Ext.refl _).set' n_b1 _).set' n_b2 _), dec_f fun h => p1 h.1⟩
  simp -implicitDefEqProofs only [go_sem, ↓reduceIte, reduceCtorEq, Int.reduceEq, Int.reduceLT, Int.reduceLE, Nat.reduceEqDiff, Nat.reduceAdd, Nat.reduceMul, Nat.reduceLeDiff, Nat.reduceSub, Int.reduceNeg, p1, l1, l2, t1, t2, o1, o2, hb_b1, hb_b2, z_b2_b1, y_b2_b1]
  refine PC.use (specIdealRight_pc (hb.ext (((Ext.refl _).set' n_b1 _).set' n_b2 _)) hsb) ?_
  by_cases p2 : idealOk b
  rotate_left
  · simp -implicitDefEqProofs only [go_sem, ↓reduceIte, reduceCtorEq, Int.reduceEq, Int.reduceLT, Int.reduceLE, Nat.reduceEqDiff, Nat.reduceAdd, Nat.reduceMul, Nat.reduceLeDiff, Nat.reduceSub, Int.reduceNeg, p2, l1, l2, t1, t2, o1, o2, hb_b1, hb_b2, z_b2_b1, y_b2_b1]
    first | exact (((Ext.refl _).set' n_b1 _).set' n_b2 _) | exact ⟨(((Ext.refl _).set' n_b1 _).set' n_b2 _), dec_f fun h => p2 h.2.1⟩
  simp -implicitDefEqProofs only [go_sem, ↓reduceIte, reduceCtorEq, Int.reduceEq, Int.reduceLT, Int.reduceLE, Nat.reduceEqDiff, Nat.reduceAdd, Nat.reduceMul, Nat.reduceLeDiff, Nat.reduceSub, Int.reduceNeg, p2, l1, l2, t1, t2, o1, o2, hb_b1, hb_b2, z_b2_b1, y_b2_b1]
  refine PC.use (l15Same_pc (ha.ext (((Ext.refl _).set' n_b1 _).set' n_b2 _)) (hb.ext (((Ext.refl _).set' n_b1 _).set' n_b2 _)) hsa) ?_
  by_cases p3 : a = b
  · simp -implicitDefEqProofs only [go_sem, ↓reduceIte, reduceCtorEq, Int.reduceEq, Int.reduceLT, Int.reduceLE, Nat.reduceEqDiff, Nat.reduceAdd, Nat.reduceMul, Nat.reduceLeDiff, Nat.reduceSub, Int.reduceNeg, decide_eq_true p3, l1, l2, t1, t2, o1, o2, hb_b1, hb_b2, z_b2_b1, y_b2_b1]
    first | exact (((Ext.refl _).set' n_b1 _).set' n_b2 _) | exact ⟨(((Ext.refl _).set' n_b1 _).set' n_b2 _), dec_t ⟨p1, p2, p3⟩⟩
  · simp -implicitDefEqProofs only [go_sem, ↓reduceIte, reduceCtorEq, Int.reduceEq, Int.reduceLT, Int.reduceLE, Nat.reduceEqDiff, Nat.reduceAdd, Nat.reduceMul, Nat.reduceLeDiff, Nat.reduceSub, Int.reduceNeg, p3, l1, l2, t1, t2, o1, o2, hb_b1, hb_b2, z_b2_b1, y_b2_b1]
    first | exact (((Ext.refl _).set' n_b1 _).set' n_b2 _) | exact ⟨(((Ext.refl _).set' n_b1 _).set' n_b2 _), dec_f fun h => p3 h.2.2⟩
noncomputable def idealView (i : UIdeal) : List (List UInt8) := if i.phase = 4 then applyB i.base i.steps else i.base
noncomputable def viewOut (i : UIdeal) : List (List UInt8) := if idealOk i then idealView i else []
theorem viewOut_small {i : UIdeal} (hs : i.small) : (viewOut i).length ≤ 1048576 := by
  have := hs.1
  unfold viewOut idealView
  split
  · split
    · rw [applyB_len]; exact this
    · exact this
  · simp
/-- (impl.Ideal).view -/
def b_impl_Ideal_view : C := (.seq (.ops [⟨(some 1), none, .box (.t 0)⟩, q 2 (.mv (.c nils))])
 (.seq (.seq (.ops [q 3 (.fld 0 (.t 1)), q 4 (.ld false 1 (.t 3)), q 5 (.bin .eql (.t 4) (.c (i64 4)))])
 (.cond (.t 5) (.seq (.ops [q 6 (.fld 7 (.t 1)), q 7 (.ld false 1 (.t 6)), q 8 (.fld 8 (.t 1)), q 9 (.ld false 1 (.t 8)), ⟨(some 10), none, .call (.c (.func (.func 143) #[] #[])) [(.t 7), (.t 9)]⟩, q 2 (.mv (.t 10))])
 .ret) .skip))
 (.seq (.ops [q 11 (.fld 7 (.t 1)), q 12 (.ld false 1 (.t 11)), ⟨(some 13), none, .call (.c (.func (.func 204) #[] #[])) [(.t 12)]⟩, q 2 (.mv (.t 13))])
 .ret)))
theorem w_impl_Ideal_view {args : List Value} {h : H} {Q : Value → H → Prop} (hl : args.length ≤ 14) (hk : wpc Try.prog b_impl_Ideal_view (retw [.tmp 2] Q) (argsFr args) h) : AC Try.prog 126 args h Q :=
  AC.of_wpc mixedOrders Try.func126 (by kernel_rfl) (by kernel_rfl : prepF Try.prog Try.f126 = some ⟨14, [.tmp 2], b_impl_Ideal_view⟩) hl hk

theorem view_ac {h : H} {cs : List Value} {i : UIdeal} (hv : RepR h (spIdeal i) cs) (hs : i.small) (hok : idealOk i) : AC Try.prog 126 [.agg cs.toArray] h fun r h' => Ext h h' ∧ Fre h h' r 1 (strs (idealView i)) := by
  have himg := hok.2.1
  have hst : i.phase = 4 → ∀ s ∈ i.steps, stepOk s i.base.length := fun h4 => by
    have h5 := hok.2.2.2
    rw [if_neg (by omega)] at h5
    exact (code_zero h5.1.2.2.2.2.1).1.2.2
  obtain ⟨vb, vs, rfl, sb, ss⟩ := ideal_r.1 hv
  obtain ⟨hs1, hs2⟩ := hs
  unfold idealView
  refine w_impl_Ideal_view (by simp) ?_
  unfold b_impl_Ideal_view
  simp -implicitDefEqProofs only [go_sem, ↓reduceIte, reduceCtorEq, Int.reduceEq, Int.reduceLT, Int.reduceLE, Nat.reduceEqDiff, Nat.reduceAdd, Nat.reduceMul, Nat.reduceLeDiff, Nat.reduceSub, Int.reduceNeg, sb.one, ss.one]
  intro b1 hb_b1 n_b1
  by_cases h4 : i.phase = 4
  · rw [if_pos h4]
    simp -implicitDefEqProofs only [go_sem, ↓reduceIte, reduceCtorEq, Int.reduceEq, Int.reduceLT, Int.reduceLE, Nat.reduceEqDiff, Nat.reduceAdd, Nat.reduceMul, Nat.reduceLeDiff, Nat.reduceSub, Int.reduceNeg, decide_eq_true h4, hb_b1]
    refine AC_of (imageApply_ac (sb.ext ((Ext.refl _).set' n_b1 _)) (ss.ext ((Ext.refl _).set' n_b1 _)) himg hs2 (hst h4)) ?_
    rintro v h1 - ⟨e1, f1⟩
    simp -implicitDefEqProofs only [go_sem, ↓reduceIte, reduceCtorEq, Int.reduceEq, Int.reduceLT, Int.reduceLE, Nat.reduceEqDiff, Nat.reduceAdd, Nat.reduceMul, Nat.reduceLeDiff, Nat.reduceSub, Int.reduceNeg, hb_b1]
    exact ⟨(((Ext.refl _).set' n_b1 _)).trans e1, f1.back ((Ext.refl _).set' n_b1 _)⟩
  rw [if_neg h4]
  simp -implicitDefEqProofs only [go_sem, ↓reduceIte, reduceCtorEq, Int.reduceEq, Int.reduceLT, Int.reduceLE, Nat.reduceEqDiff, Nat.reduceAdd, Nat.reduceMul, Nat.reduceLeDiff, Nat.reduceSub, Int.reduceNeg, h4, hb_b1]
  refine AC_of (cloneStrs_ac (sb.ext ((Ext.refl _).set' n_b1 _)) hs1) ?_
  rintro v h1 - ⟨e1, f1⟩
  simp -implicitDefEqProofs only [go_sem, ↓reduceIte, reduceCtorEq, Int.reduceEq, Int.reduceLT, Int.reduceLE, Nat.reduceEqDiff, Nat.reduceAdd, Nat.reduceMul, Nat.reduceLeDiff, Nat.reduceSub, Int.reduceNeg, hb_b1]
  exact ⟨(((Ext.refl _).set' n_b1 _)).trans e1, f1.back ((Ext.refl _).set' n_b1 _)⟩
/-- spec.l15View -/
def b_spec_l15View : C := (.seq (.ops [⟨(some 1), none, .box (.t 0)⟩, q 2 (.mv (.c nils))])
 (.seq (.seq (.ops [q 3 (.fld 0 (.t 1)), q 4 (.ld false 1 (.t 3)), q 5 (.bin .eql (.t 4) (.c (i64 4)))])
 (.cond (.t 5) (.seq (.ops [q 6 (.fld 7 (.t 1)), q 7 (.ld false 1 (.t 6)), q 8 (.fld 8 (.t 1)), q 9 (.ld false 1 (.t 8)), ⟨(some 10), none, .call (.c (.func (.func 170) #[] #[])) [(.t 7), (.t 9)]⟩, q 2 (.mv (.t 10))])
 .ret) .skip))
 (.seq (.ops [⟨(some 11), none, .bsl 0 [] []⟩, q 12 (.fld 7 (.t 1)), q 13 (.ld false 1 (.t 12)), ⟨(some 14), none, .app 1 16 (.t 11) (.t 13)⟩, q 2 (.mv (.t 14))])
 .ret)))
theorem w_spec_l15View {args : List Value} {h : H} {Q : Value → H → Prop} (hl : args.length ≤ 15) (hk : wpc Try.prog b_spec_l15View (retw [.tmp 2] Q) (argsFr args) h) : AC Try.prog 125 args h Q :=
  AC.of_wpc mixedOrders Try.func125 (by kernel_rfl) (by kernel_rfl : prepF Try.prog Try.f125 = some ⟨15, [.tmp 2], b_spec_l15View⟩) hl hk

theorem l15View_ac {h : H} {cs : List Value} {i : UIdeal} (hv : RepR h (spIdeal i) cs) (hs : i.small) (hok : idealOk i) : AC Try.prog 125 [.agg cs.toArray] h fun r h' => Ext h h' ∧ Fre h h' r 1 (strs (idealView i)) := by
  have himg := hok.2.1
  have hst : i.phase = 4 → ∀ s ∈ i.steps, stepOk s i.base.length := fun h4 => by
    have h5 := hok.2.2.2
    rw [if_neg (by omega)] at h5
    exact (code_zero h5.1.2.2.2.2.1).1.2.2
  obtain ⟨vb, vs, rfl, sb, ss⟩ := ideal_r.1 hv
  obtain ⟨hs1, hs2⟩ := hs
  unfold idealView
  refine w_spec_l15View (by simp) ?_
  unfold b_spec_l15View
  simp -implicitDefEqProofs only [go_sem, ↓reduceIte, reduceCtorEq, Int.reduceEq, Int.reduceLT, Int.reduceLE, Nat.reduceEqDiff, Nat.reduceAdd, Nat.reduceMul, Nat.reduceLeDiff, Nat.reduceSub, Int.reduceNeg, sb.one, ss.one]
  intro b1 hb_b1 n_b1
  by_cases h4 : i.phase = 4
  · rw [if_pos h4]
    simp -implicitDefEqProofs only [go_sem, ↓reduceIte, reduceCtorEq, Int.reduceEq, Int.reduceLT, Int.reduceLE, Nat.reduceEqDiff, Nat.reduceAdd, Nat.reduceMul, Nat.reduceLeDiff, Nat.reduceSub, Int.reduceNeg, decide_eq_true h4, hb_b1]
    refine AC_of (l07Apply_ac (sb.ext ((Ext.refl _).set' n_b1 _)) (ss.ext ((Ext.refl _).set' n_b1 _)) himg hs2 (hst h4)) ?_
    rintro v h1 - ⟨e1, f1⟩
    simp -implicitDefEqProofs only [go_sem, ↓reduceIte, reduceCtorEq, Int.reduceEq, Int.reduceLT, Int.reduceLE, Nat.reduceEqDiff, Nat.reduceAdd, Nat.reduceMul, Nat.reduceLeDiff, Nat.reduceSub, Int.reduceNeg, hb_b1]
    exact ⟨(((Ext.refl _).set' n_b1 _)).trans e1, f1.back ((Ext.refl _).set' n_b1 _)⟩
  rw [if_neg h4]
  simp -implicitDefEqProofs only [go_sem, ↓reduceIte, reduceCtorEq, Int.reduceEq, Int.reduceLT, Int.reduceLE, Nat.reduceEqDiff, Nat.reduceAdd, Nat.reduceMul, Nat.reduceLeDiff, Nat.reduceSub, Int.reduceNeg, h4, hb_b1]
  intro b3 hb3 n3
  have hsrc := src0 n3 (sb.ext ((Ext.refl _).set' n_b1 _)) (strs_wid _) (by decide)
  obtain ⟨z31, y31, n31⟩ := fne n3
  have o1 := sb.one
  simp -implicitDefEqProofs only [go_sem, ↓reduceIte, reduceCtorEq, Int.reduceEq, Int.reduceLT, Int.reduceLE, Nat.reduceEqDiff, Nat.reduceAdd, Nat.reduceMul, Nat.reduceLeDiff, Nat.reduceSub, Int.reduceNeg, hsrc, z31, y31, o1, hb_b1]
  refine app0 hb3 n3 rfl (strs_wid _) (strs_one _) (by simp; omega) ?_
  intro v1 h1 e1 w1
  simp -implicitDefEqProofs only [go_sem, ↓reduceIte, reduceCtorEq, Int.reduceEq, Int.reduceLT, Int.reduceLE, Nat.reduceEqDiff, Nat.reduceAdd, Nat.reduceMul, Nat.reduceLeDiff, Nat.reduceSub, Int.reduceNeg, hb_b1]
  exact ⟨(((Ext.refl _).set' n_b1 _)).trans e1, w1.fre.back ((Ext.refl _).set' n_b1 _)⟩
/-- impl.IdealView -/
def b_impl_IdealView : C := (.seq (.ops [⟨(some 1), none, .box (.t 0)⟩, q 2 (.mv (.c nils))])
 (.seq (.seq (.ops [q 3 (.ld true 9 (.t 1)), ⟨(some 4), none, .call (.c (.func (.func 122) #[] #[])) [(.t 3)]⟩, q 5 (.un .not (.t 4))])
 (.cond (.t 5) (.seq (.ops [q 2 (.mv (.c nils))])
 .ret) .skip))
 (.seq (.ops [q 6 (.ld true 9 (.t 1)), ⟨(some 7), none, .call (.c (.func (.func 126) #[] #[])) [(.t 6)]⟩, q 2 (.mv (.t 7))])
 .ret)))
theorem w_impl_IdealView {args : List Value} {h : H} {Q : Value → H → Prop} (hl : args.length ≤ 8) (hk : wpc Try.prog b_impl_IdealView (retw [.tmp 2] Q) (argsFr args) h) : AC Try.prog 31 args h Q :=
  AC.of_wpc mixedOrders Try.func31 (by kernel_rfl) (by kernel_rfl : prepF Try.prog Try.f31 = some ⟨8, [.tmp 2], b_impl_IdealView⟩) hl hk

theorem implIdealView_ac {h : H} {cs : List Value} {i : UIdeal} (hv : RepR h (spIdeal i) cs) (hs : i.small) : AC Try.prog 31 [.agg cs.toArray] h fun r h' => Ext h h' ∧ Fre h h' r 1 (strs (viewOut i)) := by
  have l1 := hv.len
  simp only [List.length_cons, List.length_nil, Nat.reduceAdd] at l1
  have t1 := take_len l1
  have o1 := hv.one
  skip
  unfold viewOut
  refine w_impl_IdealView (by simp) ?_
  unfold b_impl_IdealView
  simp -implicitDefEqProofs only [go_sem, ↓reduceIte, reduceCtorEq, Int.reduceEq, Int.reduceLT, Int.reduceLE, Nat.reduceEqDiff, Nat.reduceAdd, Nat.reduceMul, Nat.reduceLeDiff, Nat.reduceSub, Int.reduceNeg, l1, t1, o1]
  intro b1 hb_b1 n_b1
  simp -implicitDefEqProofs only [go_sem, ↓reduceIte, reduceCtorEq, Int.reduceEq, Int.reduceLT, Int.reduceLE, Nat.reduceEqDiff, Nat.reduceAdd, Nat.reduceMul, Nat.reduceLeDiff, Nat.reduceSub, Int.reduceNeg, l1, t1, o1, hb_b1]
  refine PC.use (isIdeal_pc (hv.ext ((Ext.refl _).set' n_b1 _)) hs) ?_
  by_cases p1 : idealOk i
  rotate_left
  · rw [if_neg p1]
    simp -implicitDefEqProofs only [go_sem, ↓reduceIte, reduceCtorEq, Int.reduceEq, Int.reduceLT, Int.reduceLE, Nat.reduceEqDiff, Nat.reduceAdd, Nat.reduceMul, Nat.reduceLeDiff, Nat.reduceSub, Int.reduceNeg, p1, l1, t1, o1, hb_b1]
    exact ⟨((Ext.refl _).set' n_b1 _), .inl ⟨none, 0, rfl, rfl⟩⟩
  rw [if_pos p1]
  simp -implicitDefEqProofs only [go_sem, ↓reduceIte, reduceCtorEq, Int.reduceEq, Int.reduceLT, Int.reduceLE, Nat.reduceEqDiff, Nat.reduceAdd, Nat.reduceMul, Nat.reduceLeDiff, Nat.reduceSub, Int.reduceNeg, p1, l1, t1, o1, hb_b1]
  refine AC_of (view_ac (hv.ext ((Ext.refl _).set' n_b1 _)) hs p1) ?_
  rintro v h1 - ⟨e1, f1⟩
  simp -implicitDefEqProofs only [go_sem, ↓reduceIte, reduceCtorEq, Int.reduceEq, Int.reduceLT, Int.reduceLE, Nat.reduceEqDiff, Nat.reduceAdd, Nat.reduceMul, Nat.reduceLeDiff, Nat.reduceSub, Int.reduceNeg, l1, t1, o1, hb_b1]
  exact ⟨(((Ext.refl _).set' n_b1 _)).trans e1, f1.back ((Ext.refl _).set' n_b1 _)⟩
/-- spec.IdealView -/
def b_spec_IdealView : C := (.seq (.ops [⟨(some 1), none, .box (.t 0)⟩, q 2 (.mv (.c nils))])
 (.seq (.seq (.ops [q 3 (.ld true 9 (.t 1)), ⟨(some 4), none, .call (.c (.func (.func 24) #[] #[])) [(.t 3)]⟩, q 5 (.un .not (.t 4))])
 (.cond (.t 5) (.seq (.ops [⟨(some 6), none, .bsl 0 [] []⟩, q 2 (.mv (.t 6))])
 .ret) .skip))
 (.seq (.ops [q 7 (.ld true 9 (.t 1)), ⟨(some 8), none, .call (.c (.func (.func 125) #[] #[])) [(.t 7)]⟩, q 2 (.mv (.t 8))])
 .ret)))
theorem w_spec_IdealView {args : List Value} {h : H} {Q : Value → H → Prop} (hl : args.length ≤ 9) (hk : wpc Try.prog b_spec_IdealView (retw [.tmp 2] Q) (argsFr args) h) : AC Try.prog 30 args h Q :=
  AC.of_wpc mixedOrders Try.func30 (by kernel_rfl) (by kernel_rfl : prepF Try.prog Try.f30 = some ⟨9, [.tmp 2], b_spec_IdealView⟩) hl hk

theorem specIdealView_ac {h : H} {cs : List Value} {i : UIdeal} (hv : RepR h (spIdeal i) cs) (hs : i.small) : AC Try.prog 30 [.agg cs.toArray] h fun r h' => Ext h h' ∧ Fre h h' r 1 (strs (viewOut i)) := by
  have l1 := hv.len
  simp only [List.length_cons, List.length_nil, Nat.reduceAdd] at l1
  have t1 := take_len l1
  have o1 := hv.one
  skip
  unfold viewOut
  refine w_spec_IdealView (by simp) ?_
  unfold b_spec_IdealView
  simp -implicitDefEqProofs only [go_sem, ↓reduceIte, reduceCtorEq, Int.reduceEq, Int.reduceLT, Int.reduceLE, Nat.reduceEqDiff, Nat.reduceAdd, Nat.reduceMul, Nat.reduceLeDiff, Nat.reduceSub, Int.reduceNeg, l1, t1, o1]
  intro b1 hb_b1 n_b1
  simp -implicitDefEqProofs only [go_sem, ↓reduceIte, reduceCtorEq, Int.reduceEq, Int.reduceLT, Int.reduceLE, Nat.reduceEqDiff, Nat.reduceAdd, Nat.reduceMul, Nat.reduceLeDiff, Nat.reduceSub, Int.reduceNeg, l1, t1, o1, hb_b1]
  refine PC.use (specIdealRight_pc (hv.ext ((Ext.refl _).set' n_b1 _)) hs) ?_
  by_cases p1 : idealOk i
  rotate_left
  · rw [if_neg p1]
    simp -implicitDefEqProofs only [go_sem, ↓reduceIte, reduceCtorEq, Int.reduceEq, Int.reduceLT, Int.reduceLE, Nat.reduceEqDiff, Nat.reduceAdd, Nat.reduceMul, Nat.reduceLeDiff, Nat.reduceSub, Int.reduceNeg, p1, l1, t1, o1, hb_b1]
    intro b6 hb_b6 m0_b6
    obtain ⟨z_b6_b1, y_b6_b1, n_b6⟩ := fne m0_b6
    simp only [H.set_base] at hb_b6
    simp -implicitDefEqProofs only [go_sem, ↓reduceIte, reduceCtorEq, Int.reduceEq, Int.reduceLT, Int.reduceLE, Nat.reduceEqDiff, Nat.reduceAdd, Nat.reduceMul, Nat.reduceLeDiff, Nat.reduceSub, Int.reduceNeg, l1, t1, o1, hb_b1, hb_b6, z_b6_b1, y_b6_b1]
    exact ⟨(((Ext.refl _).set' n_b1 _).set' n_b6 _), .inl ⟨_, 0, rfl, rfl⟩⟩
  skip
  rw [if_pos p1]
  simp -implicitDefEqProofs only [go_sem, ↓reduceIte, reduceCtorEq, Int.reduceEq, Int.reduceLT, Int.reduceLE, Nat.reduceEqDiff, Nat.reduceAdd, Nat.reduceMul, Nat.reduceLeDiff, Nat.reduceSub, Int.reduceNeg, p1, l1, t1, o1, hb_b1]
  refine AC_of (l15View_ac (hv.ext ((Ext.refl _).set' n_b1 _)) hs p1) ?_
  rintro v h1 - ⟨e1, f1⟩
  simp -implicitDefEqProofs only [go_sem, ↓reduceIte, reduceCtorEq, Int.reduceEq, Int.reduceLT, Int.reduceLE, Nat.reduceEqDiff, Nat.reduceAdd, Nat.reduceMul, Nat.reduceLeDiff, Nat.reduceSub, Int.reduceNeg, l1, t1, o1, hb_b1]
  exact ⟨(((Ext.refl _).set' n_b1 _)).trans e1, f1.back ((Ext.refl _).set' n_b1 _)⟩
end Go.Proofs.Ytpponffjeilhmaa
