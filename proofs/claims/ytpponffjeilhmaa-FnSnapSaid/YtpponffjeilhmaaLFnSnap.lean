/- Each block read before the merge is that of the updated image, and the base is unchanged: the given statement, with no condition. -/
import Derived.Test.YtpponffjeilhmaaCDw
import Derived.Test.YtpponffjeilhmaaCF
import Derived.Test.YtpponffjeilhmaaRows
import Derived.ProofKit
import Derived.ShutString
import Derived.ChangeOld
import Derived.Below
set_option linter.unusedVariables false
set_option linter.unusedSimpArgs false
set_option maxRecDepth 100000
namespace Go.Proofs.Ytpponffjeilhmaa
open Go.KH

theorem imgOut_len (l : List (List UInt8)) (u : List UStep) (h : l.length ≤ 1048576) : (imgOut l u).1.length ≤ 1048576 := by
  unfold imgOut
  split
  · simp
  · split
    · split
      · simp only [applyB_len]; omega
      · simp
    · simp
theorem snap_bad {im : List (List UInt8)} {l : List UStep} {b : Int} (h : (imgOut im l).2 ≠ 0) : (snapOut im l b).2 ≠ 0 := by
  unfold imgOut at h
  unfold snapOut
  split
  · simp
  · rename_i h1
    rw [if_neg h1] at h
    split
    · rename_i h2
      rw [if_pos h2] at h
      split
      · rename_i h3; rw [if_pos h3] at h; simp at h
      · assumption
    · simp
theorem snap_good {im : List (List UInt8)} {l : List UStep} (h : (imgOut im l).2 = 0) : (imgOut im l).1 = applyB im l ∧ codeOf l im.length = 0 ∧ ∀ b : Int, 0 ≤ b → b ≤ (im.length : Int) - 1 → snapOut im l b = (at8 (applyB im l) b, 0) := by
  unfold imgOut at h ⊢
  unfold snapOut
  by_cases h1 : 400 < im.length ∨ 400 < l.length
  · rw [if_pos h1] at h; simp at h
  simp only [if_neg h1] at h ⊢
  by_cases h2 : imageOk im
  · simp only [if_pos h2] at h ⊢
    by_cases h3 : codeOf l im.length = 0
    · simp only [if_pos h3] at h ⊢
      exact ⟨trivial, h3, fun b h4 h5 => if_pos ⟨h4, h5⟩⟩
    · rw [if_neg h3] at h; exact absurd h h3
  · rw [if_neg h2] at h; simp at h
theorem snap_same {im : List (List UInt8)} {l : List UStep} (hc : codeOf l im.length = 0) {k : Nat} (hk : k < im.length) (ht : touches l k < 0) (hk2 : k < (applyB im l).length) : (applyB im l)[k] = im[k] := by
  obtain ⟨⟨h1, h2⟩, h3, -⟩ := code_zero hc
  have hl : l.length ≤ 20 := h1
  rw [touches, if_pos hl] at ht
  have h4 := (at8_apply (im := im) (block := (k : Int)) h3 h2.2 (by omega)).1 (by
    have := firstAt_le (isTouch (k : Int)) l
    unfold touch at ht ⊢; omega)
  simp only [at8, Int.toNat_natCast] at h4
  rw [List.getElem?_eq_getElem hk2, List.getElem?_eq_getElem hk] at h4
  simpa using h4
/-- laws.FnSnap -/
def b_laws_FnSnap : C := (.seq (.ops [q 4 (.mv (.c (.bool false)))])
 (.seq (.seq (.ops [q 15 (.mv (.t 0)), q 16 (.len (.t 15)), q 17 (.bin .gtr (.t 16) (.c (i64 1048576))), q 18 (.mv (.t 17)), qg 19 18 false (.mv (.t 1)), qg 20 18 false (.len (.t 19)), qg 21 18 false (.bin .gtr (.t 20) (.c (i64 1048576))), q 22 (.pick (.t 18) (.c (.bool true)) (.t 21))])
 (.cond (.t 22) (.seq (.ops [q 4 (.mv (.c (.bool true)))])
 .ret) .skip))
 (.seq (.ops [q 24 (.mv (.t 0)), ⟨(some 25), none, .call (.c (.func (.func 65) #[] #[])) [(.t 24)]⟩, q 23 (.mv (.t 25)), q 26 (.ext 0 (.t 23)), q 27 (.ext 1 (.t 23)), q 28 (.ext 2 (.t 23)), q 5 (.mv (.t 26)), q 6 (.mv (.t 27)), q 7 (.mv (.t 28))])
 (.seq (.ops [q 29 (.mv (.t 5)), q 30 (.mv (.t 6)), q 31 (.mv (.t 7)), ⟨(some 32), none, .call (.c (.func (.func 66) #[] #[])) [(.t 29), (.t 30), (.t 31)]⟩, ⟨(some 8), none, .alloc [(str []), (i64 0), (i64 0)]⟩, ⟨none, none, .st 3 (.t 8) (.t 32)⟩])
 (.seq (.ops [q 34 (.mv (.t 1)), ⟨(some 35), none, .call (.c (.func (.func 67) #[] #[])) [(.t 34)]⟩, q 33 (.mv (.t 35)), q 36 (.ext 0 (.t 33)), q 37 (.ext 1 (.t 33)), q 9 (.mv (.t 36)), q 10 (.mv (.t 37))])
 (.seq (.ops [q 39 (.mv (.t 1)), ⟨(some 40), none, .call (.c (.func (.func 68) #[] #[])) [(.t 39)]⟩, q 38 (.mv (.t 40)), q 41 (.ext 0 (.t 38)), q 42 (.ext 1 (.t 38)), q 11 (.mv (.t 41)), q 12 (.mv (.t 42))])
 (.seq (.seq (.dops true (.tk (q 43 (.ld true 3 (.t 8))) (.tk (q 44 (.mv (.t 5))) (.tk (q 45 (.mv (.t 6))) (.tk (q 46 (.mv (.t 7))) (.sq (⟨(some 47), none, .call (.c (.func (.func 69) #[] #[])) [(.t 44), (.t 45), (.t 46)]⟩) (.tk (q 48 (.eqa true [.s, .i, .i] (.t 43) (.t 47))) (.tk (q 49 (.mv (.t 48))) (.tk (qg 50 49 false (.mv (.t 9))) (.tk (qg 51 49 false (.mv (.t 10))) (.tk (qg 53 49 false (.mv (.t 9))) (.tk (qg 54 49 false (.mv (.t 10))) (.sq (⟨(some 52), (some (49, false)), .call (.c (.func (.func 70) #[] #[])) [(.t 50), (.t 51)]⟩) (.sq (⟨(some 55), (some (49, false)), .call (.c (.func (.func 71) #[] #[])) [(.t 53), (.t 54)]⟩) (.tk (qg 56 49 false (.bin .neq (.t 52) (.t 55))) (.tk (q 57 (.pick (.t 49) (.c (.bool true)) (.t 56))) (.tk (q 58 (.mv (.t 57))) (.tk (qg 59 58 false (.mv (.t 11))) (.tk (qg 60 58 false (.mv (.t 12))) (.tk (qg 62 58 false (.mv (.t 11))) (.tk (qg 63 58 false (.mv (.t 12))) (.sq (⟨(some 61), (some (58, false)), .call (.c (.func (.func 73) #[] #[])) [(.t 59), (.t 60)]⟩) (.sq (⟨(some 64), (some (58, false)), .call (.c (.func (.func 74) #[] #[])) [(.t 62), (.t 63)]⟩) (.sq (⟨(some 65), (some (58, false)), .call (.c (.func (.func 72) #[] #[])) [(.t 61), (.t 64)]⟩) (.tk (qg 66 58 false (.un .not (.t 65))) (.tk (q 67 (.pick (.t 58) (.c (.bool true)) (.t 66))) .nil))))))))))))))))))))))))))
 (.cond (.t 67) (.seq (.ops [q 4 (.mv (.c (.bool false)))])
 .ret) .skip))
 (.seq (.ops [q 68 (.mv (.t 5)), q 69 (.mv (.t 6)), ⟨(some 70), none, .call (.c (.func (.func 73) #[] #[])) [(.t 68), (.t 69)]⟩, ⟨(some 13), none, .alloc [nils, (i64 0)]⟩, ⟨none, none, .st 2 (.t 13) (.t 70)⟩])
 (.seq (.seq (.ops [q 71 (.fld 1 (.t 13)), q 72 (.ld false 1 (.t 71)), q 73 (.bin .neq (.t 72) (.c (i64 0)))])
 (.cond (.t 73) (.seq (.ops [q 74 (.fld 2 (.t 8)), q 75 (.ld false 1 (.t 74)), q 76 (.bin .neq (.t 75) (.c (i64 0))), q 4 (.mv (.t 76))])
 .ret) .skip))
 (.seq (.seq (.ops [q 14 (.mv (.c (i64 0)))])
 (.block 0 (.loop (.seq (.seq (.ops [q 77 (.mv (.t 14)), q 78 (.mv (.t 5)), q 79 (.len (.t 78)), q 80 (.bin .lss (.t 77) (.t 79))])
 (.cond (.t 80) .skip (.exit 0)))
 (.seq (.block 1 (.seq (.dops true (.tk (q 83 (.mv (.t 5))) (.tk (q 84 (.mv (.t 6))) (.tk (q 85 (.mv (.t 14))) (.tk (q 87 (.fld 0 (.t 13))) (.tk (q 88 (.ld false 1 (.t 87))) (.tk (q 89 (.mv (.t 14))) (.tk (q 90 (.idx 1 (.t 88) (.t 89))) (.tk (q 91 (.ld false 1 (.t 90))) (.tk (q 92 (.build [(str []), (i64 0), (i64 0)] [(0, 1, (.t 91))])) (.sq (⟨(some 86), none, .call (.c (.func (.func 66) #[] #[])) [(.t 83), (.t 84), (.t 85)]⟩) (.tk (q 93 (.eqa true [.s, .i, .i] (.t 86) (.t 92))) (.tk (q 94 (.mv (.t 93))) (.tk (qg 95 94 false (.mv (.t 6))) (.tk (qg 96 94 false (.mv (.t 14))) (.sq (⟨(some 97), (some (94, false)), .call (.c (.func (.func 70) #[] #[])) [(.t 95), (.t 96)]⟩) (.tk (qg 98 94 false (.bin .lss (.t 97) (.c (i64 0)))) (.tk (qg 99 94 false (.mv (.t 98))) (.tk (qg 100 99 true (.fld 0 (.t 13))) (.tk (qg 101 99 true (.ld false 1 (.t 100))) (.tk (qg 102 99 true (.mv (.t 14))) (.tk (qg 103 99 true (.idx 1 (.t 101) (.t 102))) (.tk (qg 104 99 true (.ld false 1 (.t 103))) (.tk (qg 105 99 true (.mv (.t 5))) (.tk (qg 106 99 true (.mv (.t 14))) (.tk (qg 107 99 true (.idx 1 (.t 105) (.t 106))) (.tk (qg 108 99 true (.ld false 1 (.t 107))) (.tk (qg 109 99 true (.bin .neq (.t 104) (.t 108))) (.tk (qg 110 94 false (.pick (.t 99) (.t 109) (.c (.bool false)))) (.tk (q 111 (.pick (.t 94) (.c (.bool true)) (.t 110))) .nil))))))))))))))))))))))))))))))
 (.cond (.t 111) (.seq (.ops [q 4 (.mv (.c (.bool false)))])
 .ret) .skip)))
 (.ops [q 81 (.mv (.t 14)), q 82 (.bin .add (.t 81) (.c (i64 1))), q 14 (.mv (.t 82))]))))))
 (.seq (.ops [q 4 (.mv (.c (.bool true)))])
 .ret)))))))))))
theorem w_laws_FnSnap {args : List Value} {h : H} {Q : Value → H → Prop} (hl : args.length ≤ 112) (hk : wpc Try.prog b_laws_FnSnap (retw [.tmp 4] Q) (argsFr args) h) : AC Try.prog 10 args h Q :=
  AC.of_wpc mixedOrders Try.func10 (by kernel_rfl) (by kernel_rfl : prepF Try.prog Try.f10 = some ⟨112, [.tmp 4], b_laws_FnSnap⟩) hl hk

set_option maxHeartbeats 3200000 in
theorem fnSnap_walk {h : H} {va vb : Value} {l1 l2 : List UInt8} (A : Sl h va 1 (bys l1)) (B : Sl h vb 1 (bys l2)) : AC Try.prog 10 [va, vb] h fun r _ => r = .bool true := by
  have k1 : (bys l1).length = l1.length := by simp [bys]
  have k2 : (bys l2).length = l2.length := by simp [bys]
  obtain ⟨a1, c1, rfl⟩ := A.shape
  obtain ⟨a2, c2, rfl⟩ := B.shape
  rw [k1] at A
  rw [k2] at B
  skip
  refine w_laws_FnSnap (by simp) ?_
  unfold b_laws_FnSnap
  simp -implicitDefEqProofs only [go_sem, ↓reduceIte, reduceCtorEq, Int.reduceEq, Int.reduceLT, Int.reduceLE, Nat.reduceEqDiff, Nat.reduceAdd, Nat.reduceMul, Nat.reduceLeDiff, Nat.reduceSub, Int.reduceNeg, k1, k2]
  by_cases h1 : 1048576 < l1.length
  · simp -implicitDefEqProofs only [go_sem, ↓reduceIte, reduceCtorEq, Int.reduceEq, Int.reduceLT, Int.reduceLE, Nat.reduceEqDiff, Nat.reduceAdd, Nat.reduceMul, Nat.reduceLeDiff, Nat.reduceSub, Int.reduceNeg, show (1048576 : Int) < (l1.length : Int) by omega, k1, k2]
  by_cases h2 : 1048576 < l2.length
  · simp -implicitDefEqProofs only [go_sem, ↓reduceIte, reduceCtorEq, Int.reduceEq, Int.reduceLT, Int.reduceLE, Nat.reduceEqDiff, Nat.reduceAdd, Nat.reduceMul, Nat.reduceLeDiff, Nat.reduceSub, Int.reduceNeg, show ¬ (1048576 : Int) < (l1.length : Int) by omega, show (1048576 : Int) < (l2.length : Int) by omega, k1, k2]
  simp -implicitDefEqProofs only [go_sem, ↓reduceIte, reduceCtorEq, Int.reduceEq, Int.reduceLT, Int.reduceLE, Nat.reduceEqDiff, Nat.reduceAdd, Nat.reduceMul, Nat.reduceLeDiff, Nat.reduceSub, Int.reduceNeg, show ¬ (1048576 : Int) < (l1.length : Int) by omega, show ¬ (1048576 : Int) < (l2.length : Int) by omega, k1, k2]
  refine AC_of (drawSnapRead_ac A (by omega)) ?_
  rintro _ h3 - ⟨e3, T, L, blk', u, w, hb, rfl, I⟩
  obtain ⟨au, cu, rfl⟩ := I.su.shape
  obtain ⟨aw, cw, rfl⟩ := I.sw.shape
  obtain ⟨t9, tn, hok, ln, su, sw⟩ := I
  have kt : (strs T).length = T.length := by simp
  have kl : (L.map UStep.cells).length = L.length := by simp
  rw [kt] at su
  rw [kl] at sw
  skip
  simp -implicitDefEqProofs only [go_sem, ↓reduceIte, reduceCtorEq, Int.reduceEq, Int.reduceLT, Int.reduceLE, Nat.reduceEqDiff, Nat.reduceAdd, Nat.reduceMul, Nat.reduceLeDiff, Nat.reduceSub, Int.reduceNeg, k1, k2, kt, kl]
  refine PC.use (implSnapRead_pc su sw (by omega) (by omega) hb) ?_
  obtain ⟨y, hy⟩ : ∃ y, snapOut T L blk' = y := ⟨_, rfl⟩
  rw [hy]
  simp -implicitDefEqProofs only [go_sem, ↓reduceIte, reduceCtorEq, Int.reduceEq, Int.reduceLT, Int.reduceLE, Nat.reduceEqDiff, Nat.reduceAdd, Nat.reduceMul, Nat.reduceLeDiff, Nat.reduceSub, Int.reduceNeg, k1, k2, kt, kl]
  intro b8 hb8 n8
  have e8 := (Ext.refl h3).set n8 ⟨[str y.1, i64 0, i64 y.2], 3⟩
  simp -implicitDefEqProofs only [go_sem, ↓reduceIte, reduceCtorEq, Int.reduceEq, Int.reduceLT, Int.reduceLE, Nat.reduceEqDiff, Nat.reduceAdd, Nat.reduceMul, Nat.reduceLeDiff, Nat.reduceSub, Int.reduceNeg, hb8, k1, k2, kt, kl]
  refine AC_of (drawTouches_ac ((B.ext e3).ext e8) (by omega)) ?_
  rintro _ h4 - ⟨e4, L2, at', w2, hok2, ln2, hat, rfl, sw2⟩
  simp -implicitDefEqProofs only [go_sem, ↓reduceIte, reduceCtorEq, Int.reduceEq, Int.reduceLT, Int.reduceLE, Nat.reduceEqDiff, Nat.reduceAdd, Nat.reduceMul, Nat.reduceLeDiff, Nat.reduceSub, Int.reduceNeg, k1, k2, kt, kl]
  refine AC_of (drawSnapAll_ac (((B.ext e3).ext e8).ext e4) (by omega)) ?_
  rintro _ h5 - ⟨e5, T3, L3, u3, w3, rfl, I3⟩
  obtain ⟨t93, tn3, hok3, ln3, su3, sw3⟩ := I3
  have g8 := e5.2.g b8 _ (e4.2.g b8 _ (H.set_get_same _ _ _))
  have su5 := ((su.ext e8).ext e4).ext e5
  have sw5 := ((sw.ext e8).ext e4).ext e5
  have sw25 := sw2.ext e5
  have hb85 : h5.base ≤ b8 := by rw [e5.1, e4.1, H.set_base]; exact hb8
  clear A B e3 e4 e5 e8 su sw sw2
  skip
  simp -implicitDefEqProofs only [go_sem, ↓reduceIte, reduceCtorEq, Int.reduceEq, Int.reduceLT, Int.reduceLE, Nat.reduceEqDiff, Nat.reduceAdd, Nat.reduceMul, Nat.reduceLeDiff, Nat.reduceSub, Int.reduceNeg, ldc_get g8, k1, k2, kt, kl]
  refine PC.use (specSnapRead_pc su5 sw5 (by omega) (by omega) hb) ?_
  rw [hy]
  simp -implicitDefEqProofs only [go_sem, ↓reduceIte, reduceCtorEq, Int.reduceEq, Int.reduceLT, Int.reduceLE, Nat.reduceEqDiff, Nat.reduceAdd, Nat.reduceMul, Nat.reduceLeDiff, Nat.reduceSub, Int.reduceNeg, cellsEq_sii, k1, k2, kt, kl]
  refine PC.use (implTouches_pc sw25 (by omega)) ?_
  simp -implicitDefEqProofs only [go_sem, ↓reduceIte, reduceCtorEq, Int.reduceEq, Int.reduceLT, Int.reduceLE, Nat.reduceEqDiff, Nat.reduceAdd, Nat.reduceMul, Nat.reduceLeDiff, Nat.reduceSub, Int.reduceNeg, k1, k2, kt, kl]
  refine PC.use (specTouches_pc sw25 (by omega)) ?_
  simp -implicitDefEqProofs only [go_sem, ↓reduceIte, reduceCtorEq, Int.reduceEq, Int.reduceLT, Int.reduceLE, Nat.reduceEqDiff, Nat.reduceAdd, Nat.reduceMul, Nat.reduceLeDiff, Nat.reduceSub, Int.reduceNeg, k1, k2, kt, kl]
  refine AC_of (implSnapAll_ac su3 sw3 (by omega) (by omega)) ?_
  rintro r h6 - ⟨e6, cs, rfl, f6⟩
  obtain ⟨x1, rfl, f61⟩ := img_f.1 f6
  have s1 := f61.sl
  refine ⟨e6.2, ?_⟩
  simp -implicitDefEqProofs only [go_sem, ↓reduceIte, reduceCtorEq, Int.reduceEq, Int.reduceLT, Int.reduceLE, Nat.reduceEqDiff, Nat.reduceAdd, Nat.reduceMul, Nat.reduceLeDiff, Nat.reduceSub, Int.reduceNeg, k1, k2, kt, kl]
  refine AC_of (specSnapAll_ac (su3.ext e6) (sw3.ext e6) (by omega) (by omega)) ?_
  rintro r h7 - ⟨e7, cs, rfl, f7⟩
  obtain ⟨x2, rfl, f71⟩ := img_f.1 f7
  have s2 := f71.sl
  refine ⟨(e6.trans e7).2, ?_⟩
  simp -implicitDefEqProofs only [go_sem, ↓reduceIte, reduceCtorEq, Int.reduceEq, Int.reduceLT, Int.reduceLE, Nat.reduceEqDiff, Nat.reduceAdd, Nat.reduceMul, Nat.reduceLeDiff, Nat.reduceSub, Int.reduceNeg, k1, k2, kt, kl]
  refine PC.use (lwImage_pc (s1.ext e7) s2 (imgOut_len _ _ (by omega))) ?_
  have G8 := e7.2.g b8 _ (e6.2.g b8 _ g8)
  have su7 := (su5.ext e6).ext e7
  have sw7 := (sw5.ext e6).ext e7
  refine ⟨(e6.trans e7).2, ?_⟩
  refine dopw_mono (K := fun f h' => f 67 = .bool false ∧ f 5 = .slice au T.length cu ∧ f 6 = .slice aw L.length cw ∧ f 8 = ptr b8 0 ∧ h' = h7) ?_ _ ?_
  rotate_left
  · simp -implicitDefEqProofs only [go_sem, ↓reduceIte, reduceCtorEq, Int.reduceEq, Int.reduceLT, Int.reduceLE, Nat.reduceEqDiff, Nat.reduceAdd, Nat.reduceMul, Nat.reduceLeDiff, Nat.reduceSub, Int.reduceNeg, k1, k2, kt, kl]
  clear f6 f61 f71 f7 s1 s2 e7 e6 su5 sw5 g8 su3 sw3 sw25
  rintro f h' ⟨f67, f5, f6, f8, rfl⟩
  simp only [thenQ_nor, wpc_cond, ev_t, f67, asB_mk, withO_some, Bool.false_eq_true, Br_false, wpc_skip]
  simp -implicitDefEqProofs only [go_sem, ↓reduceIte, reduceCtorEq, Int.reduceEq, Int.reduceLT, Int.reduceLE, Nat.reduceEqDiff, Nat.reduceAdd, Nat.reduceMul, Nat.reduceLeDiff, Nat.reduceSub, Int.reduceNeg, f5, f6, f8, k1, k2, kt, kl]
  refine AC_of (implSnapAll_ac su7 sw7 (by omega) (by omega)) ?_
  rintro r h9 - ⟨e9, cs, rfl, fi0⟩
  obtain ⟨x1, rfl, fi⟩ := img_f.1 fi0
  have s9 := fi.sl
  clear fi0 fi
  obtain ⟨ai, ci, rfl⟩ := s9.shape
  obtain ⟨o, ho⟩ : ∃ o, imgOut T L = o := ⟨_, rfl⟩
  rw [ho] at s9
  have ki : (strs o.1).length = o.1.length := by simp
  rw [ho]
  rw [ki] at s9
  skip
  simp -implicitDefEqProofs only [go_sem, ↓reduceIte, reduceCtorEq, Int.reduceEq, Int.reduceLT, Int.reduceLE, Nat.reduceEqDiff, Nat.reduceAdd, Nat.reduceMul, Nat.reduceLeDiff, Nat.reduceSub, Int.reduceNeg, k1, k2, kt, kl, ki]
  intro b13 hb13 n13
  have e13 := (Ext.refl h9).set n13 ⟨[.slice ai o.1.length ci, i64 o.2], 2⟩
  have J8 := e13.2.g b8 _ (e9.2.g b8 _ G8)
  have su8 := (su7.ext e9).ext e13
  have sw8 := (sw7.ext e9).ext e13
  have si8 := s9.ext e13
  have J13 : (h9.set b13 ⟨[.slice ai o.1.length ci, i64 o.2], 2⟩).get b13 = some ⟨[.slice ai o.1.length ci, i64 o.2], 2⟩ := H.set_get_same _ _ _
  generalize hH : h9.set b13 ⟨[.slice ai o.1.length ci, i64 o.2], 2⟩ = hX at e13 J8 su8 sw8 si8 J13
  simp -implicitDefEqProofs only [go_sem, ↓reduceIte, reduceCtorEq, Int.reduceEq, Int.reduceLT, Int.reduceLE, Nat.reduceEqDiff, Nat.reduceAdd, Nat.reduceMul, Nat.reduceLeDiff, Nat.reduceSub, Int.reduceNeg, hb13, hH, ldc_get J13, k1, k2, kt, kl, ki]
  by_cases hc : o.2 = 0
  rotate_left
  · have hy2 : y.2 ≠ 0 := by rw [← hy]; exact snap_bad (by rw [ho]; exact hc)
    simp -implicitDefEqProofs only [go_sem, ↓reduceIte, reduceCtorEq, Int.reduceEq, Int.reduceLT, Int.reduceLE, Nat.reduceEqDiff, Nat.reduceAdd, Nat.reduceMul, Nat.reduceLeDiff, Nat.reduceSub, Int.reduceNeg, hc, f8, ldc_get J8, hy2, k1, k2, kt, kl, ki]
  have hgood := snap_good (im := T) (l := L) (by rw [ho]; exact hc)
  obtain ⟨hg1, hg2, hg3⟩ := hgood
  rw [ho] at hg1
  have holen : o.1.length = T.length := by rw [hg1, applyB_len]
  simp -implicitDefEqProofs only [go_sem, ↓reduceIte, reduceCtorEq, Int.reduceEq, Int.reduceLT, Int.reduceLE, Nat.reduceEqDiff, Nat.reduceAdd, Nat.reduceMul, Nat.reduceLeDiff, Nat.reduceSub, Int.reduceNeg, hc, k1, k2, kt, kl, ki]
  refine loopW_of (fun m f h' => ∃ j, m + j = T.length ∧ h' = hX ∧ f 5 = .slice au T.length cu ∧ f 6 = .slice aw L.length cw ∧ f 13 = ptr b13 0 ∧ f 14 = i64 j) T.length
    ⟨0, by simp, rfl, by simp -implicitDefEqProofs only [go_sem, ↓reduceIte, reduceCtorEq, Int.reduceEq, Int.reduceLT, Int.reduceLE, Nat.reduceEqDiff, Nat.reduceAdd, Nat.reduceMul, Nat.reduceLeDiff, Nat.reduceSub, Int.reduceNeg, f5, k1, k2, kt, kl, ki], by simp -implicitDefEqProofs only [go_sem, ↓reduceIte, reduceCtorEq, Int.reduceEq, Int.reduceLT, Int.reduceLE, Nat.reduceEqDiff, Nat.reduceAdd, Nat.reduceMul, Nat.reduceLeDiff, Nat.reduceSub, Int.reduceNeg, f6, k1, k2, kt, kl, ki], by simp -implicitDefEqProofs only [go_sem, ↓reduceIte, reduceCtorEq, Int.reduceEq, Int.reduceLT, Int.reduceLE, Nat.reduceEqDiff, Nat.reduceAdd, Nat.reduceMul, Nat.reduceLeDiff, Nat.reduceSub, Int.reduceNeg, k1, k2, kt, kl, ki], by simp -implicitDefEqProofs only [go_sem, ↓reduceIte, reduceCtorEq, Int.reduceEq, Int.reduceLT, Int.reduceLE, Nat.reduceEqDiff, Nat.reduceAdd, Nat.reduceMul, Nat.reduceLeDiff, Nat.reduceSub, Int.reduceNeg, k1, k2, kt, kl, ki]; rfl⟩ ?_
  clear f5 f6 f8 f67
  rintro m f h' ⟨j, hm, rfl, f5, f6, f13, f14⟩
  by_cases hj : j < T.length
  rotate_left
  · have : j = T.length := by omega
    subst this
    simp -implicitDefEqProofs only [go_sem, ↓reduceIte, reduceCtorEq, Int.reduceEq, Int.reduceLT, Int.reduceLE, Nat.reduceEqDiff, Nat.reduceAdd, Nat.reduceMul, Nat.reduceLeDiff, Nat.reduceSub, Int.reduceNeg, f5, f6, f13, f14, Nat.lt_irrefl, Int.ofNat_lt, k1, k2, kt, kl, ki]
  have hjo : j < o.1.length := by omega
  have hsn : snapOut T L (j : Int) = (o.1[j], 0) := by
    rw [hg3 _ (by omega) (by omega)]
    have : at8 (applyB T L) (j : Int) = o.1[j] := by
      simp only [at8, Int.toNat_natCast, ← hg1]
      rw [List.getElem?_eq_getElem hjo]; rfl
    rw [this]
  obtain ⟨_, _, bi, oi, ei, _, ri, li⟩ := si8
  simp only [ki, Value.slice.injEq, true_and] at ei ri
  obtain ⟨rfl, rfl⟩ := ei
  have di := li j [str o.1[j]] (by simp [hjo])
  have su9 := su8
  obtain ⟨_, _, bu, ou, eu, _, ru, lu⟩ := su8
  simp only [kt, Value.slice.injEq, true_and] at eu ru
  obtain ⟨rfl, rfl⟩ := eu
  have du := lu j [str T[j]] (by simp [hj])
  skip
  simp -implicitDefEqProofs only [go_sem, ↓reduceIte, reduceCtorEq, Int.reduceEq, Int.reduceLT, Int.reduceLE, Nat.reduceEqDiff, Nat.reduceAdd, Nat.reduceMul, Nat.reduceLeDiff, Nat.reduceSub, Int.reduceNeg, k1, k2, kt, kl, ki, f5, f6, f13, f14, Int.ofNat_lt, Int.natCast_nonneg, hj, hjo, ldc_get J13, ri, di, ru, du]
  refine PC.use (implSnapRead_pc su9 sw8 (by omega) (by omega) (by unfold in64; omega)) ?_
  rw [hsn]
  simp -implicitDefEqProofs only [go_sem, ↓reduceIte, reduceCtorEq, Int.reduceEq, Int.reduceLT, Int.reduceLE, Nat.reduceEqDiff, Nat.reduceAdd, Nat.reduceMul, Nat.reduceLeDiff, Nat.reduceSub, Int.reduceNeg, cellsEq_sii, k1, k2, kt, kl, ki, f5, f6, f13, f14, Int.ofNat_lt, Int.natCast_nonneg, hj, hjo, ldc_get J13, ri, di, ru, du]
  refine PC.use (implTouches_pc sw8 (by omega)) ?_
  by_cases ht : touches L (j : Int) < 0
  · have hs := snap_same hg2 hj ht (by rw [← hg1]; exact hjo)
    have hs' : o.1[j] = T[j] := by rw [← hs]; simp only [hg1]
    simp -implicitDefEqProofs only [go_sem, ↓reduceIte, reduceCtorEq, Int.reduceEq, Int.reduceLT, Int.reduceLE, Nat.reduceEqDiff, Nat.reduceAdd, Nat.reduceMul, Nat.reduceLeDiff, Nat.reduceSub, Int.reduceNeg, ht, hs', wrap_i64 (show -(9223372036854775808 : Int) ≤ ((j : Int) + 1) by omega) (show ((j : Int) + 1) < 9223372036854775808 by omega), k1, k2, kt, kl, ki, f5, f6, f13, f14, Int.ofNat_lt, Int.natCast_nonneg, hj, hjo, ldc_get J13, ri, di, ru, du]
    exact ⟨m - 1, by omega, _, Ext.refl _, j + 1, by omega, rfl, rfl⟩
  · simp -implicitDefEqProofs only [go_sem, ↓reduceIte, reduceCtorEq, Int.reduceEq, Int.reduceLT, Int.reduceLE, Nat.reduceEqDiff, Nat.reduceAdd, Nat.reduceMul, Nat.reduceLeDiff, Nat.reduceSub, Int.reduceNeg, ht, wrap_i64 (show -(9223372036854775808 : Int) ≤ ((j : Int) + 1) by omega) (show ((j : Int) + 1) < 9223372036854775808 by omega), k1, k2, kt, kl, ki, f5, f6, f13, f14, Int.ofNat_lt, Int.natCast_nonneg, hj, hjo, ldc_get J13, ri, di, ru, du]
    exact ⟨m - 1, by omega, _, Ext.refl _, j + 1, by omega, rfl, rfl⟩
theorem fnSnap_law (h : H) (args : List Value) (ha : okAs h [.one (.sl [.int .u8]), .one (.sl [.int .u8])] args) : AC Try.prog 10 args h fun r _ => r = .bool true := by
  obtain ⟨v, w, l1, l2, rfl, A, B⟩ := okAs_codes ha
  exact fnSnap_walk A B
section
open Go.ChangeShapes Go.WideShapes Go.ChangeAt Go.RowKit
theorem fnSnap_lifted (os : Os) (started : os.Started) (H' : Type) (enc : TypeId × Value → H') : ReturnsInHanded {} Try.checked os 10 .any (Rows.fnSnapSpec.pre6 enc Try.prog Try.f10 Rows.fnSnapRow.domain false) (Rows.fnSnapSpec.post enc Try.prog Try.f10 false true false false) :=
  law_row (Ck := Try.checked) [.one (.sl [.int .u8]), .one (.sl [.int .u8])] (by kernel_rfl) started (by kernel_rfl) Try.func10 (ChangeSpec.witness6 (enc := enc) (C := Try.checked) false ⟨#[], #[.slice none 0 0, .slice none 0 0], []⟩ 8 (by kernel_rfl) (by kernel_rfl) (by kernel_rfl) (by kernel_rfl))
    (by kernel_rfl) (by kernel_rfl) rfl (by kernel_rfl : Try.prog.underlying (Try.f10.resultTypes.getD 0 0) = some .bool) rfl
    (fun ds hd => by
      rw [show Try.f10.params.toList.length = 2 by kernel_rfl] at hd
      match ds, hd with
      | [_, _], _ => rfl)
    (by kernel_rfl) fnSnap_law
theorem fnSnap_holds : Rows.FnSnapSaid :=
  OpenClaim.holds_of_wide 10 Try.f10 rfl rfl rfl rfl rfl rfl rfl ⟨rfl, rfl, rfl, rfl, rfl⟩ rfl rfl rfl rfl rfl (by kernel_rfl) Try.func10 (by kernel_rfl)
    (of_decide_eq_true (by kernel_rfl)) (by unfold Func.isWrapper; first | (rw [if_pos (by decide +kernel)]; kernel_rfl) | (rw [if_neg (by decide +kernel)]; exact ⟨rfl, rfl⟩))
    (fun os started H' enc _ => fnSnap_lifted os started H' enc)
end
end Go.Proofs.Ytpponffjeilhmaa
