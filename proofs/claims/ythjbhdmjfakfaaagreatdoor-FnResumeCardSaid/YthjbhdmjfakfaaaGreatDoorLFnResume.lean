/- Of a package whose steps come with a label behind each, the power may fail ahead of any step; what was labelled is kept, and with the steps that are sent again it is finished: the given statement, with no condition. -/
import Derived.Test.YthjbhdmjfakfaaaGreatDoorMCQe
import Derived.Test.YthjbhdmjfakfaaaGreatDoorMCZj
import Derived.Test.YthjbhdmjfakfaaaGreatDoorMCZe
import Derived.Test.YthjbhdmjfakfaaaGreatDoorRows
import Derived.Test.YthjbhdmjfakfaaaGreatDoorCards
import Derived.Test.YthjbhdmjfakfaaaGreatDoorTie
import Derived.SevenTiedAt
import Derived.ProofKit
import Derived.ShutString
import Derived.ChangeOld
import Derived.Below
set_option linter.unusedVariables false
set_option linter.unusedSimpArgs false
set_option maxRecDepth 100000
namespace Go.Proofs.YthjbhdmjfakfaaaGreatDoor
open Go.KH

def b_laws_FnResume : C := (jo [q 4 (.mv (.c (.bool false)))]
 (.seq (jo [jm 19 0, q 20 (.len (.t 19)), jk 21 .gtr 20 1048576, jm 22 21, qg 23 22 false (.mv (.t 1)), qg 24 22 false (.len (.t 23)), qg 25 22 false (.bin .gtr (.t 24) (.c (i64 1048576))), q 26 (.pick (.t 22) (.c (.bool true)) (.t 25))]
 (.cond (.t 26) (jo [q 4 (.mv (.c (.bool true)))]
 .ret) .skip))
 (jo [jm 28 0, jc 29 6 [(.t 28)], jm 27 29, q 30 (.ext 0 (.t 27)), q 31 (.ext 1 (.t 27)), jm 5 30, jm 6 31]
 (jo [jm 32 5, jm 33 6, jc 34 14 [(.t 32), (.t 33)], ⟨(some 7), none, .alloc [(i64 0), (str []), nils, (i64 0)]⟩, js 4 7 34]
 (jo [jm 35 5, jc 36 24 [(.t 35)], ⟨(some 8), none, .alloc [(i64 0), nils, nils, (i64 0)]⟩, js 4 8 36]
 (.seq (jo [jf 37 3 7, jl 38 37, jk 39 .neq 38 0, jm 40 39, qg 41 40 false (.fld 3 (.t 8)), qg 42 40 false (.ld false 1 (.t 41)), qg 43 40 false (.bin .neq (.t 42) (.c (i64 0))), q 44 (.pick (.t 40) (.c (.bool true)) (.t 43))]
 (.cond (.t 44) (.seq (.dops true (.tk (jf 45 3 8) (.tk (jl 46 45) (.tk (jm 47 5) (.sq (jc 48 25 [(.t 47)]) (.tk (q 49 (.part false 3 1 (.t 48))) (.tk (jb 50 .eql 46 49) (.tk (jm 4 50) .nil))))))))
 .ret) .skip))
 (jo [⟨(some 51), none, .bsl 0 [] []⟩, jm 9 51]
 (.seq (jo [q 10 (.mv (.c (i64 0)))]
 (.block 0 (.loop (.seq (jo [jm 52 10, jk 53 .add 52 1, jf 54 0 7, jf 55 2 54, jl 56 55, q 57 (.len (.t 56)), jb 58 .lss 53 57]
 (.cond (.t 58) .skip (.exit 0)))
 (.seq (.block 1 (.ops [jm 61 9, jf 62 0 7, jf 63 2 62, jl 64 63, jm 65 10, q 66 (.idx 4 (.t 64) (.t 65)), jd 67 4 66, jm 68 10, q 69 (.build [(i64 0), (i64 0), (i64 0), (str [])] [(0, 1, (.c (i64 5))), (2, 1, (.t 68))]), ⟨(some 70), none, .bsl 2 [(i64 0), (i64 0), (i64 0), (str []), (i64 0), (i64 0), (i64 0), (str [])] [(0, 4, (.t 67)), (4, 4, (.t 69))]⟩, ⟨(some 71), none, .app 4 40 (.t 61) (.t 70)⟩, jm 9 71]))
 (.ops [jm 59 10, jk 60 .add 59 1, jm 10 60]))))))
 (jo [jm 72 9, q 73 (.build [(i64 0), (i64 0), (i64 0), (str [])] [(0, 1, (.c (i64 5))), (2, 1, (.c (i64 100)))]), ⟨(some 74), none, .bsl 1 [(i64 0), (i64 0), (i64 0), (str [])] [(0, 4, (.t 73))]⟩, ⟨(some 75), none, .app 4 40 (.t 72) (.t 74)⟩, jm 9 75]
 (jo [jf 76 0 8, jd 77 3 76, jm 78 9, q 79 (.len (.t 78)), jf 80 0 7, jf 81 1 80, jl 82 81, q 83 (.build [(i64 0), (i64 0), (i64 0), (str []), (i64 0), (i64 0), (i64 0), (str [])] [(0, 1, (.c (i64 1))), (1, 1, (.t 79)), (2, 1, (.c (i64 4))), (3, 1, (.t 82))]), jc 84 26 [(.t 77), (.t 83)], ⟨(some 11), none, .alloc [(i64 0), nils, nils, (str []), nils, (i64 0)]⟩, js 6 11 84]
 (jo [q 12 (.mv (.c (i64 0)))]
 (.seq (jo [q 13 (.mv (.c (i64 0)))]
 (.block 2 (.loop (.seq (jo [jm 85 13, jm 86 9, q 87 (.len (.t 86)), jb 88 .lss 85 87]
 (.cond (.t 88) .skip (.exit 2)))
 (.block 3 (jo [jm 89 9, jm 90 13, q 91 (.idx 4 (.t 89) (.t 90)), jd 92 4 91, q 93 (.build [(i64 0), (i64 0), (i64 0), (str []), (i64 0), (i64 0), (i64 0), (str [])] [(0, 1, (.c (i64 2))), (4, 4, (.t 92))]), ⟨(some 14), none, .alloc [(i64 0), (i64 0), (i64 0), (str []), (i64 0), (i64 0), (i64 0), (str [])]⟩, js 8 14 93]
 (.seq (jo [jm 94 12, jk 95 .lss 94 6, jm 96 95, qg 97 96 true (.mv (.t 1)), qg 98 96 true (.mv (.t 13)), qg 99 96 true (.mv (.t 12)), qg 100 96 true (.bin .add (.t 98) (.t 99)), jcg 101 96 true 21 [(.t 97), (.t 100), (.c (i64 3))], qg 102 96 true (.bin .eql (.t 101) (.c (i64 0))), q 103 (.pick (.t 96) (.t 102) (.c (.bool false)))]
 (.cond (.t 103) (jo [jm 104 12, jk 105 .add 104 1, jm 12 105]
 (.seq (.dops true (.tk (jf 106 0 11) (.tk (jd 107 3 106) (.tk (jd 108 8 14) (.tk (jm 109 1) (.tk (jm 110 12) (.tk (jm 112 1) (.tk (jm 113 12) (.tk (jk 114 .add 113 1) (.alt (jc 111 21 [(.t 109), (.t 110), (.c (i64 3))]) (.alt (jc 115 21 [(.t 112), (.t 114), (.c (i64 30))]) (.alt (⟨(some 116), none, .bsl 1 [(i64 0)] [(0, 1, (.t 115))]⟩) (.alt (jc 117 31 [(.t 107), (.t 108), (.t 111), (.t 116)]) (.tk (q 118 (.part true 0 3 (.t 117))) (.alt (jc 119 30 [(.t 118)]) (.sq (⟨(some 15), none, .alloc [(i64 0), nils, nils, (i64 0)]⟩) (.lt (js 4 15 119) .nil)) (⟨(some 15), none, .alloc [(i64 0), nils, nils, (i64 0)]⟩) (.sq (jc 119 30 [(.t 118)]) (.lt (js 4 15 119) .nil)))) (⟨(some 15), none, .alloc [(i64 0), nils, nils, (i64 0)]⟩) (.sq (jc 117 31 [(.t 107), (.t 108), (.t 111), (.t 116)]) (.tk (q 118 (.part true 0 3 (.t 117))) (.sq (jc 119 30 [(.t 118)]) (.lt (js 4 15 119) .nil))))) (⟨(some 15), none, .alloc [(i64 0), nils, nils, (i64 0)]⟩) (.sq (⟨(some 116), none, .bsl 1 [(i64 0)] [(0, 1, (.t 115))]⟩) (.sq (jc 117 31 [(.t 107), (.t 108), (.t 111), (.t 116)]) (.tk (q 118 (.part true 0 3 (.t 117))) (.sq (jc 119 30 [(.t 118)]) (.lt (js 4 15 119) .nil)))))) (⟨(some 15), none, .alloc [(i64 0), nils, nils, (i64 0)]⟩) (.sq (jc 115 21 [(.t 112), (.t 114), (.c (i64 30))]) (.sq (⟨(some 116), none, .bsl 1 [(i64 0)] [(0, 1, (.t 115))]⟩) (.sq (jc 117 31 [(.t 107), (.t 108), (.t 111), (.t 116)]) (.tk (q 118 (.part true 0 3 (.t 117))) (.sq (jc 119 30 [(.t 118)]) (.lt (js 4 15 119) .nil))))))) (⟨(some 15), none, .alloc [(i64 0), nils, nils, (i64 0)]⟩) (.sq (jc 111 21 [(.t 109), (.t 110), (.c (i64 3))]) (.sq (jc 115 21 [(.t 112), (.t 114), (.c (i64 30))]) (.sq (⟨(some 116), none, .bsl 1 [(i64 0)] [(0, 1, (.t 115))]⟩) (.sq (jc 117 31 [(.t 107), (.t 108), (.t 111), (.t 116)]) (.tk (q 118 (.part true 0 3 (.t 117))) (.sq (jc 119 30 [(.t 118)]) (.lt (js 4 15 119) .nil)))))))))))))))))
 (jo [jf 120 0 15, jd 121 3 120, jc 122 32 [(.t 121)], q 123 (.part false 1 1 (.t 122)), jm 16 123]
 (.seq (jo [jf 124 3 15, jl 125 124, jk 126 .neq 125 0, jm 127 126, qg 128 127 false (.mv (.t 16)), qg 129 127 false (.mv (.t 13)), qg 130 127 false (.bin .sub (.t 129) (.c (i64 1))), qg 131 127 false (.bin .lss (.t 128) (.t 130)), q 132 (.pick (.t 127) (.c (.bool true)) (.t 131)), jm 133 132, qg 134 133 false (.mv (.t 16)), qg 135 133 false (.mv (.t 13)), qg 136 133 false (.bin .add (.t 135) (.c (i64 1))), qg 137 133 false (.bin .gtr (.t 134) (.t 136)), q 138 (.pick (.t 133) (.c (.bool true)) (.t 137)), jm 139 138, qg 140 139 false (.mv (.t 16)), qg 141 139 false (.fld 0 (.t 15)), qg 142 139 false (.ld true 3 (.t 141)), jcg 143 139 false 32 [(.t 142)], qg 144 139 false (.part false 0 1 (.t 143)), qg 145 139 false (.len (.t 144)), qg 146 139 false (.bin .neq (.t 140) (.t 145)), q 147 (.pick (.t 139) (.c (.bool true)) (.t 146))]
 (.cond (.t 147) (jo [q 4 (.mv (.c (.bool false)))]
 .ret) .skip))
 (jo [jf 148 0 15, jd 149 3 148, jf 150 0 11, js 3 150 149]
 (jo [jm 151 16, jm 13 151]
 (.exit 3))))))) .skip))
 (jo [jf 152 0 11, jd 153 3 152, jd 154 8 14, jc 155 26 [(.t 153), (.t 154)], js 6 11 155]
 (.seq (jo [jf 156 5 11, jl 157 156, jk 158 .neq 157 0]
 (.cond (.t 158) (jo [q 4 (.mv (.c (.bool false)))]
 .ret) .skip))
 (.ops [jm 159 13, jk 160 .add 159 1, jm 13 160]))))))))))
 (jo [jf 161 0 11, jd 162 3 161, q 163 (.build [(i64 0), (i64 0), (i64 0), (str []), (i64 0), (i64 0), (i64 0), (str [])] [(0, 1, (.c (i64 3)))]), jc 164 26 [(.t 162), (.t 163)], ⟨(some 17), none, .alloc [(i64 0), nils, nils, (str []), nils, (i64 0)]⟩, js 6 17 164]
 (jo [jf 165 0 17, jd 166 3 165, q 167 (.build [(i64 0), (i64 0), (i64 0), (str []), (i64 0), (i64 0), (i64 0), (str [])] [(0, 1, (.c (i64 11)))]), jc 168 26 [(.t 166), (.t 167)], ⟨(some 18), none, .alloc [(i64 0), nils, nils, (str []), nils, (i64 0)]⟩, js 6 18 168]
 (jo [jf 169 5 17, jl 170 169, jk 171 .eql 170 0, jm 172 171, qg 173 172 true (.fld 5 (.t 18)), qg 174 172 true (.ld false 1 (.t 173)), qg 175 172 true (.bin .eql (.t 174) (.c (i64 0))), q 176 (.pick (.t 172) (.t 175) (.c (.bool false))), jm 177 176, qg 178 177 true (.fld 0 (.t 18)), qg 179 177 true (.ld true 3 (.t 178)), jcg 180 177 true 27 [(.t 179)], qg 181 177 true (.part false 0 1 (.t 180)), qg 182 177 true (.mv (.t 6)), jcg 183 177 true 22 [(.t 181), (.t 182)], q 184 (.pick (.t 177) (.t 183) (.c (.bool false))), jm 4 184]
 .ret)))))))))))))))
theorem w_laws_FnResume : Wk Tryz.prog 5 185 [.tmp 4] b_laws_FnResume := Wk.of mixedOrders Tryz.func5 (by kernel_rfl) (by kernel_rfl)

set_option maxHeartbeats 6400000 in
theorem fnResume_walk {h : H} (tb : Tabs h) {va vb : Value} {l1 l2 : List UInt8} (A : Sl h va 1 (bys l1)) (B : Sl h vb 1 (bys l2)) : AC Tryz.prog 5 [va, vb] h fun r _ => r = .bool true := by
 have k1 : (bys l1).length = l1.length := by simp [bys]
 have k2 : (bys l2).length = l2.length := by simp [bys]
 obtain ⟨a1, c1, rfl⟩ := A.shape
 obtain ⟨a2, c2, rfl⟩ := B.shape
 rw [k1] at A
 rw [k2] at B
 skip
 refine w_laws_FnResume (by simp) ?_
 unfold b_laws_FnResume
 simp -implicitDefEqProofs only [go_sem, k1, k2]
 by_cases h1 : 1048576 < l1.length
 ·simp -implicitDefEqProofs only [go_sem, show (1048576 : Int) < (l1.length : Int) by omega, k1, k2]
 by_cases h2 : 1048576 < l2.length
 ·simp -implicitDefEqProofs only [go_sem, show ¬ (1048576 : Int) < (l1.length : Int) by omega, show (1048576 : Int) < (l2.length : Int) by omega, k1, k2]
 simp -implicitDefEqProofs only [go_sem, show ¬ (1048576 : Int) < (l1.length : Int) by omega, show ¬ (1048576 : Int) < (l2.length : Int) by omega, k1, k2]
 refine AC_of (drawPackageOf_ac A (by omega)) ?_
 rintro _ h3 - ⟨e3, P, Q, vP, vQ, rfl, hP9, hP10, sP, hQ9, hQ10, sQ⟩
 simp -implicitDefEqProofs only [go_sem, k1, k2]
 refine AC_of (specPackageOf_ac sP sQ (by omega) (by omega)) ?_
 rintro _ h4 - ⟨e4, cX, rfl, FX⟩
 obtain ⟨vX, rfl, fX⟩ := po_f.1 FX
 have x1 := fX.sl.one
 have x2 := fX.sl.vcl
 simp -implicitDefEqProofs only [go_sem, x1, x2, k1, k2]
 intro b7 hb7 n7
 simp -implicitDefEqProofs only [go_sem, hb7, x1, x2, k1, k2]
 have E3 := e3.trans e4
 have e7 := (Ext.refl h4).set n7 ⟨[i64 (packageOut P Q).1.blocks, str (packageOut P Q).1.digest, vX, i64 (packageOut P Q).2], 4⟩
 have g7 : (h4.set b7 ⟨[i64 (packageOut P Q).1.blocks, str (packageOut P Q).1.digest, vX, i64 (packageOut P Q).2], 4⟩).get b7 = some ⟨[i64 (packageOut P Q).1.blocks, str (packageOut P Q).1.digest, vX, i64 (packageOut P Q).2], 4⟩ := H.set_get_same _ _ _
 have sX := fX.sl.ext e7
 have E7 := E3.trans e7
 have sP7 := (sP.ext e4).ext e7
 have hX9 := packageOut_small P Q
 generalize h4.set b7 ⟨[i64 (packageOut P Q).1.blocks, str (packageOut P Q).1.digest, vX, i64 (packageOut P Q).2], 4⟩ = h7 at e7 g7 sX E7 sP7 ⊢
 refine AC_of (implMachineNew_ac sP7 (by omega)) ?_
 rintro _ h8 - ⟨e8, cM, rfl, FM⟩
 obtain ⟨us, ud, rfl, fM⟩ := machO_f.1 FM
 have m1 := fM.1.sl.one
 have m2 := fM.2.1.sl.one
 simp -implicitDefEqProofs only [go_sem, m1, m2, k1, k2]
 intro b8 hb8 n8
 have z78 : b7 ≠ b8 := fun e => by rw [← e, e8.2.g b7 _ g7] at n8; cases n8
 have e9 := (Ext.refl h8).set n8 ⟨[i64 (newOut P).1.blocks, us, ud, i64 (newOut P).2], 4⟩
 have g8 : (h8.set b8 ⟨[i64 (newOut P).1.blocks, us, ud, i64 (newOut P).2], 4⟩).get b8 = some ⟨[i64 (newOut P).1.blocks, us, ud, i64 (newOut P).2], 4⟩ := H.set_get_same _ _ _
 have g79 := e9.2.g b7 _ (e8.2.g b7 _ g7)
 simp -implicitDefEqProofs only [go_sem, hb8, m1, m2, eq_false z78, ldc_get (e8.2.g b7 _ g7), k1, k2]
 have E9 := (E7.trans e8).trans e9
 have fM9 := fM.r.ext e9
 have sX9 := (sX.ext e8).ext e9
 have sP9 := (sP7.ext e8).ext e9
 generalize h8.set b8 ⟨[i64 (newOut P).1.blocks, us, ud, i64 (newOut P).2], 4⟩ = h9 at e9 g8 g79 E9 fM9 sX9 sP9 ⊢
 by_cases c0 : (packageOut P Q).2 = 0
 rotate_left
 ·simp -implicitDefEqProofs only [go_sem, c0, ldc_get g8, k1, k2]
  refine AC_of (specMachineNew_ac sP9 (by omega)) ?_
  rintro _ h10 - ⟨e10, cN, rfl, FN⟩
  obtain ⟨ws, wd, rfl, -⟩ := machO_f.1 FN
  refine ⟨e10.2, ?_⟩
  simp -implicitDefEqProofs only [go_sem, k1, k2]
 obtain ⟨iA, iB, hAB, hpk⟩ := made_of c0
 have hnew : newOut P = (machNew P, 0) := by unfold newOut; rw [if_neg (by omega), if_pos iA]
 rw [hnew] at g8 fM9
 rw [hpk] at g79 sX9
 obtain ⟨L, hL⟩ : ∃ L, L = pkgSteps P Q := ⟨_, rfl⟩
 have hLc : codeOf L P.length = 0 := by rw [hL]; exact pkgSteps_code iA iB hAB
 have hLa : applyB P L = Q := by rw [hL]; exact pkgSteps_apply iA iB hAB
 have hL9 : L.length ≤ 9 := by rw [hL]; exact pkgSteps_len iA
 have hL1 : 1 ≤ L.length := by rw [hL]; unfold pkgSteps; simp
 obtain ⟨D, hD⟩ : ∃ D, D = shaL Q.flatten := ⟨_, rfl⟩
 have hD32 : D.length = 32 := by rw [hD]; exact shaL_length _
 simp only at g79 sX9 g8
 rw [← hD, c0] at g79
 rw [← hL] at sX9
 obtain ⟨wr, hfull, hLW⟩ := made_wr iA iB hAB
 obtain ⟨W, hW⟩ : ∃ W, W = stepsTo P Q P.length := ⟨_, rfl⟩
 rw [← hW] at wr hfull hLW
 rw [← hL] at hLW
 have hLlen : L.length = W.length + 1 := by rw [hLW]; simp
 have hW8 := wr.few
 simp -implicitDefEqProofs only [go_sem, c0, hnew, ldc_get g8, k1, k2]
 intro b9 hb9 n9
 refine opsw_abs (fun f => f 1 = .slice a2 l2.length c2 ∧ f 6 = vQ ∧ f 7 = ptr b7 0 ∧ f 8 = ptr b8 0 ∧ f 51 = sl b9 0 0 0) ⟨by simp -implicitDefEqProofs only [go_sem, k1, k2], by simp -implicitDefEqProofs only [go_sem, k1, k2], by simp -implicitDefEqProofs only [go_sem, k1, k2], by simp -implicitDefEqProofs only [go_sem, k1, k2], by simp -implicitDefEqProofs only [go_sem, k1, k2]⟩ ?_
 rintro F ⟨f1, f6, f7, f8, f51⟩
 have sQ9 := (((sQ.ext e4).ext e7).ext e8).ext e9
 have eS := (Ext.refl h9).set n9 ⟨[], 0⟩
 have o0 : Own h9 (h9.set b9 ⟨[], 0⟩) (sl b9 0 0 0) 4 ((mixL W 0).map UStep.cells) := .inr ⟨b9, 0, 0, rfl, Nat.le_refl _, hb9, n9, H.set_get_same _ _ _, by simp, Wid.nil 4⟩
 have ll : (L.map UStep.cells).length = L.length := by simp
 obtain ⟨aX, cX, rfl⟩ := sX9.shape
 have sX9' := sX9
 rw [ll] at sX9' g79
 obtain ⟨_, _, bX, oX, eX, hcX, rX2, rX3⟩ := sX9'
 rw [ll] at eX rX2
 simp only [Value.slice.injEq, true_and] at eX
 obtain ⟨rfl, rfl⟩ := eX
 simp -implicitDefEqProofs only [go_sem, f1, f6, f7, f8, f51, k1, k2]
 refine loopW_of (fun m f h' => ∃ (k : Nat) (w : Value), m + k = W.length ∧ f 1 = .slice a2 l2.length c2 ∧ f 6 = vQ ∧ f 7 = ptr b7 0 ∧ f 8 = ptr b8 0 ∧ f 9 = w ∧ f 10 = i64 k ∧ Ext h9 h' ∧ Own h9 h' w 4 ((mixL W k).map UStep.cells)) W.length
  ⟨0, _, by omega, by simp -implicitDefEqProofs only [go_sem, f1, k1, k2], by simp -implicitDefEqProofs only [go_sem, f6, k1, k2], by simp -implicitDefEqProofs only [go_sem, f7, k1, k2], by simp -implicitDefEqProofs only [go_sem, f8, k1, k2], by simp -implicitDefEqProofs only [go_sem, k1, k2], by simp -implicitDefEqProofs only [go_sem, k1, k2]; rfl, eS, o0⟩ ?_
 clear f1 f6 f7 f8 f51 F
 rintro m f h' ⟨k, w, hm, f1, f6, f7, f8, f9, f10, eh, ow⟩
 obtain ⟨aw, cw, rfl⟩ := ow.shape
 have lw : ((mixL W k).map UStep.cells).length = 2 * k := by rw [List.length_map, mix_len]
 rw [lw] at ow f9
 have g7h := eh.2.g b7 _ g79
 skip
 have wk1 : IntKind.i64.wrap ((k : Int) + 1) = (k : Int) + 1 := wrap_i64 (by omega) (by omega)
 by_cases hk : k < W.length
 ·have hkL : k < L.length := by omega
  have hLk : L[k] = W[k] := by
   have h1 : L[k]? = some L[k] := List.getElem?_eq_getElem hkL
   have h2 : L[k]? = (W ++ [labS])[k]? := by rw [hLW]
   rw [List.getElem?_append_left hk, List.getElem?_eq_getElem hk, h1] at h2
   exact Option.some.inj h2
  have row := ldc_sub eh.2 (rX3 k L[k].cells (by rw [List.getElem?_map, List.getElem?_eq_getElem hkL]; rfl))
  simp -implicitDefEqProofs only [go_sem, wk1, show (k : Int) + 1 < (L.length : Int) by omega, rX2, row, Int.ofNat_lt, Int.natCast_nonneg, hkL, k1, k2, f1, f6, f7, f8, f9, f10, ldc_get g7h, ll]
  intro b70 hb70 n70
  simp -implicitDefEqProofs only [go_sem, k1, k2, f1, f6, f7, f8, f9, f10, ldc_get g7h, ll]
  refine appW_own (new := [L[k].cells, (labN k).cells]) (eh.set n70 _) (ow.ext ((Ext.refl _).set n70 _)) (by simp -implicitDefEqProofs only [go_sem, k1, k2, f1, f6, f7, f8, f9, f10, ldc_get g7h, ll]; rfl) (by intro r hr; simp at hr; rcases hr with rfl | rfl <;> rfl) (by simp [oneCell_int, oneCell_str]) (by rw [lw]; simp; omega) ?_
  intro v' h'' he2 ho2 _
  simp -implicitDefEqProofs only [go_sem, wk1, k1, k2, f1, f6, f7, f8, f9, f10, ldc_get g7h, ll]
  exact ⟨m - 1, by omega, h'', Ext.refl _, k + 1, v', by omega, rfl, by push_cast; rfl, he2, by rw [mix_succ, List.map_append, show W.getD k step0 = L[k] by rw [hLk, List.getD_eq_getElem?_getD, List.getElem?_eq_getElem hk]; rfl]; exact ho2⟩
 have e : k = W.length := by omega
 subst e
 simp -implicitDefEqProofs only [go_sem, wk1, show ¬ (W.length : Int) + 1 < (L.length : Int) by omega, k1, k2, f1, f6, f7, f8, f9, f10, ldc_get g7h, ll]
 intro b74 hb74 n74
 simp -implicitDefEqProofs only [go_sem, k1, k2, f1, f6, f7, f8, f9, f10, ldc_get g7h, ll]
 refine appW_own (new := [(labN 100).cells]) (eh.set n74 _) (ow.ext ((Ext.refl _).set n74 _)) (by simp -implicitDefEqProofs only [go_sem, k1, k2, f1, f6, f7, f8, f9, f10, ldc_get g7h, ll]; rfl) (by intro r hr; simp at hr; subst hr; rfl) (by simp [oneCell_int, oneCell_str]) (by rw [lw]; simp; omega) ?_
 intro v' h10 e10 ow10 _
 have ow10 : Own h9 h10 v' 4 ((fullL W).map UStep.cells) := by unfold fullL; rw [List.map_append]; exact ow10
 have hN17 := full_len W
 obtain ⟨N, hN⟩ : ∃ N, N = (fullL W).length := ⟨_, rfl⟩
 obtain ⟨al, cl, rfl⟩ := ow10.shape
 have lN : ((fullL W).map UStep.cells).length = N := by rw [List.length_map, hN]
 rw [lN] at ow10 ⊢
 have sl10 := ow10.sl
 have G7 := e10.2.g b7 _ g79
 have G8 := e10.2.g b8 _ g8
 have E10 := E9.trans e10
 have m10 := fM9.ext e10
 have sQ10 := sQ9.ext e10
 have B10 := B.ext E10
 refine opsw_abs (fun f => f 1 = .slice a2 l2.length c2 ∧ f 6 = vQ ∧ f 7 = ptr b7 0 ∧ f 8 = ptr b8 0 ∧ f 75 = .slice al N cl) ⟨by simp -implicitDefEqProofs only [go_sem, k1, k2, f1, f6, f7, f8, f9, f10, ldc_get g7h, ll], by simp -implicitDefEqProofs only [go_sem, k1, k2, f1, f6, f7, f8, f9, f10, ldc_get g7h, ll], by simp -implicitDefEqProofs only [go_sem, k1, k2, f1, f6, f7, f8, f9, f10, ldc_get g7h, ll], by simp -implicitDefEqProofs only [go_sem, k1, k2, f1, f6, f7, f8, f9, f10, ldc_get g7h, ll], by simp -implicitDefEqProofs only [go_sem, k1, k2, f1, f6, f7, f8, f9, f10, ldc_get g7h, ll]⟩ ?_
 clear f1 f6 f7 f8 f9 f10
 rintro F ⟨f1, f6, f7, f8, f75⟩
 skip
 obtain ⟨d0, ar0, -⟩ := new_dev iA
 obtain ⟨M0, hM0⟩ : ∃ M0, M0 = machNew P := ⟨_, rfl⟩
 simp only at m10
 rw [← hM0] at d0 ar0 G8 m10
 obtain ⟨c1, hc1⟩ : ∃ c1 : UCmd, c1 = ⟨1, N, 4, D, ⟨0, 0, 0, []⟩⟩ := ⟨_, rfl⟩
 have hc1a : 1 ≤ c1.a ∧ c1.a ≤ 20 := by rw [hc1]; simp only; omega
 have hc1b : 0 ≤ c1.b ∧ c1.b ≤ 4 := by rw [hc1]; simp only; omega
 have hc1d : c1.digest.length = 32 := by rw [hc1]; exact hD32
 have hc1n : (c1.a + c1.b).toNat = N + 4 := by rw [hc1]; simp only; omega
 have hc1k : cmdOk c1 := by
  rw [hc1]
  unfold cmdOk
  simp only [if_true, if_neg (show ¬ ((1 : Int) = 2) by decide)]
  refine ⟨by decide, ⟨by omega, by omega⟩, by decide, hD32, trivial, trivial, trivial, trivial⟩
 have hd1 : Does M0 idle0 c1 (beginOut M0 idle0 c1 0) := .inl ⟨by rw [hc1], rfl, hc1a, hc1b, hc1d, 0, by omega, rfl, rfl⟩
 have h024 : 0 + (c1.a + c1.b).toNat ≤ 24 := by rw [hc1n]; omega
 have hcc : c1.cells.toArray = #[i64 1, i64 N, i64 4, str D, i64 0, i64 0, i64 0, str []] := by rw [hc1]
 have hAC := implDo_ac (c := c1) (tb.ext E10) (mach_r.2 ⟨us, ud, rfl, m10⟩) d0.fin1 d0.stM (d0.right (.inl (by decide))) hc1k (d0.genOk (by omega)) hd1
 rw [hcc] at hAC
 skip
 simp -implicitDefEqProofs only [go_sem, ldc_get G7, ldc_get G8, k1, k2, f1, f6, f7, f8, ldc_get g7h, ll, f1, f6, f7, f8, f75]
 refine AC_of hAC ?_
 obtain ⟨hbo, d2, rc2, hdirty2⟩ := d0.begin (c := c1) (x := 0) (by omega) rfl hc1a hc1b hc1d h024
 obtain ⟨S2, hS2⟩ : ∃ S2, S2 = beginS idle0 c1 (runI 0 (c1.a + c1.b).toNat) := ⟨_, rfl⟩
 obtain ⟨M2, hM2⟩ : ∃ M2, M2 = after M0 (beginOut M0 idle0 c1 0).1 := ⟨_, rfl⟩
 have hM2b : M2.blocks = M0.blocks := by rw [hM2]; rfl
 have hM2f : actsDo M0.flash (beginOut M0 idle0 c1 0).1 = M2.flash := by rw [hM2]; rfl
 have hb2 : (beginOut M0 idle0 c1 0).2 = 0 := by rw [hbo]
 rw [← hS2, ← hM2] at d2 rc2
 rw [← hM2] at hdirty2
 have hS2p : S2.phase = 2 := by rw [hS2]; rfl
 have hS2n : S2.need = ((fullL W).length : Int) := by rw [hS2, hc1, ← hN]; rfl
 have hS2s : S2.stash = 4 := by rw [hS2, hc1]; rfl
 have hS2m : S2.mine.length = S2.stash.toNat + (fullL W).length := by rw [hS2s, ← hN, hS2]; show (runI 0 (c1.a + c1.b).toNat).length = _; rw [runI_len, hc1n]; show N + 4 = 4 + N; omega
 have hS2d : S2.digest = D := by rw [hS2, hc1]; rfl
 have hS2o : S2.done = 0 := by rw [hS2]; rfl
 have at2 : At M2 P S2 2 W 0 := ⟨d2, by rw [List.take_zero]; exact rc2, by unfold Loose; rw [if_pos (.inl rfl)]; exact hdirty2, wr, hS2p, hS2m, by omega⟩
 rintro _ h11 - ⟨e11, us2, ud2, rfl, f11⟩
 rw [hM2f] at f11
 rw [hb2, ← hM2b]
 have q1 := f11.1.sl.one
 have q2 := f11.2.1.sl.one
 simp -implicitDefEqProofs only [go_sem, q1, q2, k1, k2, f1, f6, f7, f8, ldc_get g7h, ll, f1, f6, f7, f8, f75]
 intro b11 hb11 n11
 have e12 := (Ext.refl h11).set n11 ⟨[i64 M2.blocks, us2, ud2, str [], nils, i64 0], 6⟩
 have g12 : (h11.set b11 ⟨[i64 M2.blocks, us2, ud2, str [], nils, i64 0], 6⟩).get b11 = some ⟨[i64 M2.blocks, us2, ud2, str [], nils, i64 0], 6⟩ := H.set_get_same _ _ _
 have m12 := f11.r.ext e12
 have E11 := E10.trans e11
 have sl11 := sl10.ext e11
 have sQ11 := sQ10.ext e11
 have B11 := B10.ext e11
 simp -implicitDefEqProofs only [go_sem, hb11, q1, q2, k1, k2, f1, f6, f7, f8, ldc_get g7h, ll, f1, f6, f7, f8, f75]
 generalize h11.set b11 ⟨[i64 M2.blocks, us2, ud2, str [], nils, i64 0], 6⟩ = h12 at e12 g12 m12 ⊢
 refine loopW_of (fun m f h' => ∃ (k c : Nat) (M : UMach) (us ud : Value), m = (6 - c) * 100 + (N - k) ∧ c ≤ 6 ∧ f 1 = .slice a2 l2.length c2 ∧ f 6 = vQ ∧ f 9 = .slice al N cl ∧ f 11 = ptr b11 0 ∧ f 12 = i64 c ∧ f 13 = i64 k ∧ Ext h11 h' ∧ h'.get b11 = some ⟨[i64 M.blocks, us, ud, str [], nils, i64 0], 6⟩ ∧ FlR h' M.flash us ud ∧ At M P S2 2 W k) (600 + N)
  ⟨0, 0, M2, us2, ud2, by omega, by omega, by simp -implicitDefEqProofs only [go_sem, k1, k2, f1, f6, f7, f8, ldc_get g7h, ll, f1, f6, f7, f8, f75], by simp -implicitDefEqProofs only [go_sem, k1, k2, f1, f6, f7, f8, ldc_get g7h, ll, f1, f6, f7, f8, f75], by simp -implicitDefEqProofs only [go_sem, k1, k2, f1, f6, f7, f8, ldc_get g7h, ll, f1, f6, f7, f8, f75], by simp -implicitDefEqProofs only [go_sem, k1, k2, f1, f6, f7, f8, ldc_get g7h, ll, f1, f6, f7, f8, f75], by simp -implicitDefEqProofs only [go_sem, k1, k2, f1, f6, f7, f8, ldc_get g7h, ll, f1, f6, f7, f8, f75]; rfl, by simp -implicitDefEqProofs only [go_sem, k1, k2, f1, f6, f7, f8, ldc_get g7h, ll, f1, f6, f7, f8, f75]; rfl, e12, g12, m12, at2⟩ ?_
 clear f1 f6 f7 f8 f75 F
 rintro m f h' ⟨k, c, M, us3, ud3, hm, hc6, f1, f6, f9, f11', f12, f13, eh, gh, mh, aM⟩
 skip
 skip
 have hbh : h'.base ≤ b11 := by rw [eh.1]; exact hb11
 have hkN := aM.le
 rw [← hN] at hkN
 refine wpc_cut (fun f2 h2 => h2 = h' ∧ k < N ∧ f2 1 = .slice a2 l2.length c2 ∧ f2 6 = vQ ∧ f2 9 = .slice al N cl ∧ f2 11 = ptr b11 0 ∧ f2 12 = i64 c ∧ f2 13 = i64 k) ?_ ?_
 ·by_cases hk : k < N
  ·simp -implicitDefEqProofs only [go_sem, show (k : Int) < (N : Int) by omega, k1, k2, f1, f6, ldc_get g7h, ll, f1, f6, f9, f11', f12, f13]
   exact hk
  ·have hkN' : k = N := by omega
   have aN : At M P S2 2 W (fullL W).length := by rw [← hN, ← hkN']; exact aM
   obtain ⟨hfin, d3, snd3, hba, d4, hview⟩ := finished aN hS2s hS2o hS2n (by rw [hfull, ← hD, hS2d]) (by omega)
   rw [hfull] at hview
   obtain ⟨M3, hM3⟩ : ∃ M3, M3 = after M (⟨true, 0, []⟩ :: saveActs M (readyOf S2)) := ⟨_, rfl⟩
   rw [← hM3] at d3 snd3 hba d4 hview
   obtain ⟨M4, hM4⟩ : ∃ M4, M4 = after M3 (saveActs M3 (trialOf S2)) := ⟨_, rfl⟩
   rw [← hM4] at d4 hview
   have hM3b : M3.blocks = M.blocks := by rw [hM3]; rfl
   have hM3f : actsDo M.flash (⟨true, 0, []⟩ :: saveActs M (readyOf S2)) = M3.flash := by rw [hM3]; rfl
   have hM4b : M4.blocks = M3.blocks := by rw [hM4]; rfl
   have hM4f : actsDo M3.flash (saveActs M3 (trialOf S2)) = M4.flash := by rw [hM4]; rfl
   have hd3 : Does M S2 ⟨3, 0, 0, [], ⟨0, 0, 0, []⟩⟩ (⟨true, 0, []⟩ :: saveActs M (readyOf S2), 0) := .inr (.inr (.inl ⟨rfl, hS2p, hfin.symm⟩))
   have hk3 : cmdOk ⟨3, 0, 0, [], ⟨0, 0, 0, []⟩⟩ := by decide
   have hd4 : Does M3 (readyOf S2) ⟨11, 0, 0, [], ⟨0, 0, 0, []⟩⟩ (saveActs M3 (trialOf S2), 0) := .inr (.inr (.inr (.inr ⟨rfl, by rw [hba]⟩)))
   have hk4 : cmdOk ⟨11, 0, 0, [], ⟨0, 0, 0, []⟩⟩ := by decide
   have mo1 := mh.1.one
   have mo2 := mh.2.one
   simp -implicitDefEqProofs only [go_sem, show ¬ (k : Int) < (N : Int) by omega, ldc_get gh, k1, k2, f1, f6, ldc_get g7h, ll, f1, f6, f9, f11', f12, f13]
   refine AC_of (implDo_ac (c := ⟨3, 0, 0, [], ⟨0, 0, 0, []⟩⟩) (tb.ext (E11.trans eh)) (mach_r.2 ⟨us3, ud3, rfl, mh⟩) aM.dev.fin1 aM.dev.stM (aM.dev.right (.inl (by omega))) hk3 (aM.dev.genOk (by omega)) hd3) ?_
   rintro _ hA - ⟨eA, us5, ud5, rfl, f5'⟩
   simp only at f5' ⊢
   rw [hM3f] at f5'
   rw [← hM3b]
   have q1 := f5'.1.sl.one
   have q2 := f5'.2.1.sl.one
   refine opsw_abs (fun f => f 6 = vQ ∧ f 164 = .agg #[i64 M3.blocks, us5, ud5, str [], nils, i64 0]) ⟨by simp -implicitDefEqProofs only [go_sem, f6, k1, k2, f1, f6, ldc_get g7h, ll, f1, f6, f9, f11', f12, f13], by simp -implicitDefEqProofs only [go_sem, k1, k2, f1, f6, ldc_get g7h, ll, f1, f6, f9, f11', f12, f13]⟩ ?_
   clear f1 f6 f9 f11' f12 f13
   rintro F ⟨f6, f164⟩
   skip
   skip
   simp -implicitDefEqProofs only [go_sem, q1, q2, k1, k2, ldc_get g7h, ll, f164, f6]
   intro b17 hb17 n17
   have eB := (Ext.refl hA).set n17 ⟨[i64 M3.blocks, us5, ud5, str [], nils, i64 0], 6⟩
   have gB : (hA.set b17 ⟨[i64 M3.blocks, us5, ud5, str [], nils, i64 0], 6⟩).get b17 = some ⟨[i64 M3.blocks, us5, ud5, str [], nils, i64 0], 6⟩ := H.set_get_same _ _ _
   have mB := f5'.r.ext eB
   have EB := (eh.trans eA).trans eB
   simp -implicitDefEqProofs only [go_sem, hb17, q1, q2, k1, k2, ldc_get g7h, ll, f164, f6]
   generalize hA.set b17 ⟨[i64 M3.blocks, us5, ud5, str [], nils, i64 0], 6⟩ = hB at eB gB mB EB ⊢
   refine AC_of (implDo_ac (c := ⟨11, 0, 0, [], ⟨0, 0, 0, []⟩⟩) (tb.ext (E11.trans EB)) (mach_r.2 ⟨us5, ud5, rfl, mB⟩) d3.fin1 d3.stM (d3.right snd3) hk4 (d3.genOk (by omega)) hd4) ?_
   rintro _ hC - ⟨eC, us6, ud6, rfl, f6'⟩
   simp only at f6' ⊢
   rw [hM4f] at f6'
   rw [← hM4b]
   have q3 := f6'.1.sl.one
   have q4 := f6'.2.1.sl.one
   simp -implicitDefEqProofs only [go_sem, q3, q4, k1, k2, ldc_get g7h, ll, f164, f6]
   intro b18 hb18 n18
   have gC := eC.2.g b17 _ gB
   have z1718 : b17 ≠ b18 := fun e => by rw [← e, gC] at n18; cases n18
   have eD := (Ext.refl hC).set n18 ⟨[i64 M4.blocks, us6, ud6, str [], nils, i64 0], 6⟩
   have mD := f6'.r.ext eD
   have sQD := ((sQ11.ext EB).ext eC).ext eD
   simp -implicitDefEqProofs only [go_sem, hb18, q3, q4, eq_false z1718, ldc_get gC, f6, k1, k2, ldc_get g7h, ll, f164, f6]
   generalize hC.set b18 ⟨[i64 M4.blocks, us6, ud6, str [], nils, i64 0], 6⟩ = hD' at eD mD sQD ⊢
   refine AC_of (implViewOf_ac (mach_r.2 ⟨us6, ud6, rfl, mD⟩) d4.fin1) ?_
   rintro _ hE - ⟨eE, cV, rfl, FV⟩
   rw [hview] at FV
   obtain ⟨vV, rfl, fV⟩ := img_f.1 FV
   have i1 := fV.sl.one
   have i2 := fV.sl.vcl
   simp -implicitDefEqProofs only [go_sem, i1, i2, k1, k2, ldc_get g7h, ll, f164, f6]
   refine (lwTexts_pc fV.sl (sQD.ext eE) (show Q.length ≤ 1048576 by omega)).use ?_
   simp -implicitDefEqProofs only [go_sem, k1, k2, ldc_get g7h, ll, f164, f6]
   skip
 clear f1 f6 f9 f11' f12 f13 f
 rintro f h2 ⟨rfl, hk, f1, f6, f9, f11', f12, f13⟩
 skip
 have sl2 := sl11.ext eh
 have hkF : k < (fullL W).length := by omega
 obtain ⟨_, _, bl, ol, el, hcl, rl2, rl3⟩ := sl2
 rw [lN] at el rl2
 simp only [Value.slice.injEq, true_and] at el
 obtain ⟨rfl, rfl⟩ := el
 have rowk := rl3 k (fullL W)[k].cells (by rw [List.getElem?_map, List.getElem?_eq_getElem hkF]; rfl)
 obtain ⟨C, hC⟩ : ∃ C : UCmd, C = ⟨2, 0, 0, [], (fullL W)[k]⟩ := ⟨_, rfl⟩
 have hCc : C.cells = [i64 2, i64 0, i64 0, str [], i64 (fullL W)[k].kind, i64 (fullL W)[k].dst, i64 (fullL W)[k].src, str (fullL W)[k].data] := by rw [hC]
 obtain ⟨xo, xs, xd⟩ := aM.wr.mem _ (List.getElem_mem hkF)
 have hPr := aM.wr.room
 have hCk : cmdOk C := by
  rw [hC]
  unfold cmdOk
  simp only [if_neg (show ¬ ((2 : Int) = 1) by decide), if_neg (show ¬ ((2 : Int) = 9) by decide), if_neg (show ¬ ((2 : Int) = 7) by decide), if_true]
  exact ⟨by decide, trivial, trivial, trivial, stepOk_wide xs (by omega)⟩
 have hlogM := aM.log
 have htl := aM.tlen
 have hdC : Does M S2 C (stepActs M S2 k (fullL W)[k], 0) := .inr (.inl ⟨by rw [hC], hS2p, by rw [hlogM, htl, hS2n]; omega, by rw [hC]; exact xo, by rw [hC]; exact xd, by rw [hC, hlogM, aM.blocks]; show codeOf ((fullL W).take k ++ [(fullL W)[k]]) _ = 0; rw [take_snoc hkF]; exact code_take aM.wr.code (by omega), by rw [hC, hlogM, htl]⟩)
 have hrM := aM.dev.right (.inl (show S2.phase ≤ 2 by omega))
 have hgM := aM.dev.genOk (show (2 : Int) < 1000000 by omega)
 simp -implicitDefEqProofs only [wpc_block]
 refine wpc_cut (fun f3 h3 => ∃ b14, f3 1 = .slice a2 l2.length c2 ∧ f3 6 = vQ ∧ f3 9 = .slice al N cl ∧ f3 11 = ptr b11 0 ∧ f3 12 = i64 c ∧ f3 13 = i64 k ∧ f3 14 = ptr b14 0 ∧ h3.get b14 = some ⟨C.cells, 8⟩ ∧ Ext h2 h3) ?_ ?_
 ·simp -implicitDefEqProofs only [go_sem, rl2, rowk, Int.ofNat_lt, Int.natCast_nonneg, hk, k1, k2, ldc_get g7h, ll, f1, f6, f9, f11', f12, f13]
  intro b14 hb14 n14
  simp -implicitDefEqProofs only [go_sem, hb14, k1, k2, ldc_get g7h, ll, f1, f6, f9, f11', f12, f13]
  exact ⟨b14, rfl, by rw [if_pos rfl, hCc], (Ext.refl _).set n14 _⟩
 clear f1 f6 f9 f11' f12 f13 f
 rintro f h3 ⟨b14, f1, f6, f9, f11', f12, f13, f14, g14, e3'⟩
 have gh3 := e3'.2.g b11 _ gh
 have mh3 := mh.ext e3'
 have eh3 := eh.trans e3'
 have B3 := B11.ext eh3
 skip
 have wkc : IntKind.i64.wrap ((k : Int) + (c : Int)) = ((k + c : Nat) : Int) := by rw [wrap_i64 (by omega) (by omega)]; omega
 refine wpc_cut (fun f4 h4 => h4 = h3 ∧ f4 1 = .slice a2 l2.length c2 ∧ f4 6 = vQ ∧ f4 9 = .slice al N cl ∧ f4 11 = ptr b11 0 ∧ f4 12 = i64 c ∧ f4 13 = i64 k ∧ f4 14 = ptr b14 0) ?_ ?_
 ·by_cases c6 : c < 6
  rotate_left
  ·simp -implicitDefEqProofs only [go_sem, show ¬ (c : Int) < 6 by omega, k1, k2, ldc_get g7h, ll, f1, f6, f9, f11', f12, f13, f14]
  obtain ⟨kc, ⟨kc0, kc1, -⟩, pkc⟩ := lwAt_pc (h := h3) (at' := k + c) (most := 3) B3 (by omega) (by omega) (in64_small (by omega))
  simp -implicitDefEqProofs only [go_sem, show (c : Int) < 6 by omega, wkc, k1, k2, ldc_get g7h, ll, f1, f6, f9, f11', f12, f13, f14]
  refine pkc.use ?_
  simp -implicitDefEqProofs only [go_sem, k1, k2, ldc_get g7h, ll, f1, f6, f9, f11', f12, f13, f14]
  refine Br.of (fun hcut => ?_) (fun hcut => ?_)
  rotate_left
  ·simp -implicitDefEqProofs only [go_sem, k1, k2, ldc_get g7h, ll, f1, f6, f9, f11', f12, f13, f14]
  refine wpc_cut (fun f5 h5 => h5 = h3 ∧ f5 1 = .slice a2 l2.length c2 ∧ f5 6 = vQ ∧ f5 9 = .slice al N cl ∧ f5 11 = ptr b11 0 ∧ f5 12 = i64 ((c + 1 : Nat) : Int) ∧ f5 13 = i64 k ∧ f5 14 = ptr b14 0) ?_ ?_
  ·simp -implicitDefEqProofs only [go_sem, wrap_i64 (show -(9223372036854775808 : Int) ≤ ((c : Int) + 1) by omega) (show ((c : Int) + 1) < 9223372036854775808 by omega), k1, k2, ldc_get g7h, ll, f1, f6, f9, f11', f12, f13, f14]
   push_cast; rfl
  clear f1 f6 f9 f11' f12 f13 f14 f
  rintro f h5 ⟨rfl, f1, f6, f9, f11', f12, f13, f14⟩
  have hcut := fun n fate (hn : (0 : Int) ≤ n) => aM.cut hkF (n := n) (fate := fate) hn
  obtain ⟨mcut, hmcut⟩ : ∃ mcut : Int → Int → UMach, mcut = fun n fate => ⟨M.blocks, cutF M.flash (stepActs M S2 k (fullL W)[k]) n [fate]⟩ := ⟨_, rfl⟩
  have hcutL : ∀ n fate, 0 ≤ n → Left (mcut n fate) P S2 2 W k := fun n fate hn => by rw [hmcut]; exact hcut n fate hn
  have hmf : ∀ n fate, (mcut n fate).flash = cutF M.flash (stepActs M S2 k (fullL W)[k]) n [fate] := fun n fate => by rw [hmcut]
  have hmb : ∀ n fate, (mcut n fate).blocks = M.blocks := fun n fate => by rw [hmcut]
  refine wpc_cut (fun f6' h6 => ∃ (b15 : Nat) (n fate : Int) (ys yd : Value), 0 ≤ n ∧ f6' 1 = .slice a2 l2.length c2 ∧ f6' 6 = vQ ∧ f6' 9 = .slice al N cl ∧ f6' 11 = ptr b11 0 ∧ f6' 12 = i64 ((c + 1 : Nat) : Int) ∧ f6' 13 = i64 k ∧ f6' 15 = ptr b15 0 ∧ h6.get b15 = some ⟨[i64 M.blocks, ys, yd, i64 0], 4⟩ ∧ FlF h5 h6 (bootM (mcut n fate) S2).flash ys yd ∧ Ext h5 h6) ?_ ?_
  ·have L11 := ldc_get gh3
   have L14 := ldc_get g14
   have wc2 : IntKind.i64.wrap (((c + 1 : Nat) : Int) + 1) = ((c + 2 : Nat) : Int) := by rw [wrap_i64 (by omega) (by omega)]; push_cast; omega
   have mo1 := mh.1.one
   have mo2 := mh.2.one
   rw [wpc_dops_t]
   simp -implicitDefEqProofs only [dopw_tk, wv_fld, wv_ldt, wv_mv, wv_bin, ev_t, ev_c, asP_mk, withO_some, putf_s, upd_app, Nat.reduceEqDiff, if_false, if_true, f11', f14, f1, f12, L11, L14, List.drop_zero, Nat.zero_add, Nat.add_zero, List.length_cons, List.length_nil, Nat.reduceAdd, Nat.reduceLeDiff, Nat.le_refl, List.take_succ_cons, List.take_zero, bi_add, wc2]
   obtain ⟨X, hX⟩ : ∃ X : List (Nat × Value), X = [(1, .slice a2 l2.length c2), (6, vQ), (9, .slice al N cl), (11, ptr b11 0), (12, i64 ((c + 1 : Nat) : Int)), (13, i64 k), (107, .agg #[i64 M.blocks, us3, ud3]), (108, .agg C.cells.toArray), (109, .slice a2 l2.length c2), (110, i64 ((c + 1 : Nat) : Int)), (112, .slice a2 l2.length c2), (114, i64 ((c + 2 : Nat) : Int))] := ⟨_, rfl⟩
   have hXn : ∀ d, d = 111 ∨ d = 115 ∨ d = 116 ∨ d = 117 ∨ d = 118 ∨ d = 119 ∨ d = 15 → ∀ p ∈ X, p.1 ≠ d := fun d hd p hp => by
    rw [hX] at hp
    simp only [List.mem_cons, List.not_mem_nil, or_false] at hp
    rcases hp with rfl | rfl | rfl | rfl | rfl | rfl | rfl | rfl | rfl | rfl | rfl | rfl <;> simp only <;> omega
   obtain ⟨Base, hBase⟩ : ∃ Base : Nat → Fr → H → Prop, Base = fun i f h => RgK X f ∧ Ext h5 h ∧ ∃ (n fate : Int) (vf zs zd : Value), 0 ≤ n ∧ in64 fate ∧ (1 ≤ i → f 111 = i64 n) ∧ (2 ≤ i → f 115 = i64 fate) ∧ (3 ≤ i → f 116 = vf ∧ Sl h vf 1 (ints [fate])) ∧ (4 ≤ i → f 117 = .agg #[i64 M.blocks, zs, zd, i64 0] ∧ FlR h (mcut n fate).flash zs zd) ∧ (5 ≤ i → f 118 = .agg #[i64 M.blocks, zs, zd]) ∧ (6 ≤ i → ∃ ys yd, f 119 = .agg #[i64 M.blocks, ys, yd, i64 0] ∧ FlF h5 h (bootM (mcut n fate) S2).flash ys yd) := ⟨_, rfl⟩
   obtain ⟨RL, hRL⟩ : ∃ RL : List (Bool × GO), RL = [(true, jc 111 21 [.t 109, .t 110, .c (i64 3)]), (true, jc 115 21 [.t 112, .t 114, .c (i64 30)]), (true, ⟨some 116, none, .bsl 1 [i64 0] [(0, 1, .t 115)]⟩), (true, jc 117 31 [.t 107, .t 108, .t 111, .t 116]), (false, q 118 (.part true 0 3 (.t 117))), (true, jc 119 30 [.t 118])] := ⟨_, rfl⟩
   have stp : ∀ i kk g, RL[i]? = some (kk, g) → ∀ f h, Base i f h → (kk = true → gow Tryz.prog g f h fun f' h' => Ext h h' ∧ Base (i + 1) f' h' ∧ f' 15 = f 15 ∧ (5 = i → ∀ b, h.get b ≠ none → ∀ w ys yd w', f' 119 = .agg #[w, ys, yd, w'] → blk ys ≠ some b ∧ blk yd ≠ some b)) ∧ (kk = false → TkOk h5 g f fun f' => Base (i + 1) f' h ∧ f' 15 = f 15) := by
    intro i kk g hg f h hB
    rw [hBase] at hB ⊢
    obtain ⟨r, e, n, fate, vf, zs, zd, hn0, hf64, s1, s2, s3, s4, s5, s6⟩ := hB
    have r107 := r (107, .agg #[i64 M.blocks, us3, ud3]) (by rw [hX]; simp)
    have r108 := r (108, .agg C.cells.toArray) (by rw [hX]; simp)
    have r109 := r (109, .slice a2 l2.length c2) (by rw [hX]; simp)
    have r110 := r (110, i64 ((c + 1 : Nat) : Int)) (by rw [hX]; simp)
    have r112 := r (112, .slice a2 l2.length c2) (by rw [hX]; simp)
    have r114 := r (114, i64 ((c + 2 : Nat) : Int)) (by rw [hX]; simp)
    simp only at r107 r108 r109 r110 r112 r114
    rw [hRL] at hg
    obtain rfl | rfl | rfl | rfl | rfl | rfl | h6 : i = 0 ∨ i = 1 ∨ i = 2 ∨ i = 3 ∨ i = 4 ∨ i = 5 ∨ 6 ≤ i := by omega
    ·simp only [List.getElem?_cons_zero, Option.some.injEq, Prod.mk.injEq] at hg
     obtain ⟨rfl, rfl⟩ := hg
     refine ⟨fun _ => ?_, fun q => by cases q⟩
     obtain ⟨n', ⟨n0, -, -⟩, pn⟩ := lwAt_pc (h := h) (at' := c + 1) (most := 3) (B3.ext e) (by omega) (by omega) (in64_small (by omega))
     simp -implicitDefEqProofs only [go_sem, r109, r110, k1, k2, ldc_get g7h, ll, f1, f6, f9, f11', f12, f13, f14]
     refine pn.use ?_
     exact ⟨Ext.refl _, ⟨r.put (hXn 111 (by omega)) _, e, n', fate, vf, zs, zd, n0, hf64, fun _ => by simp -implicitDefEqProofs only [go_sem, k1, k2, ldc_get g7h, ll, f1, f6, f9, f11', f12, f13, f14], by omega, by omega, by omega, by omega, by omega⟩, by simp -implicitDefEqProofs only [go_sem, k1, k2, ldc_get g7h, ll, f1, f6, f9, f11', f12, f13, f14], by omega⟩
    ·simp only [List.getElem?_cons_zero, List.getElem?_cons_succ, Option.some.injEq, Prod.mk.injEq] at hg
     obtain ⟨rfl, rfl⟩ := hg
     refine ⟨fun _ => ?_, fun q => by cases q⟩
     have t1 := s1 (by omega)
     obtain ⟨f', ⟨f0, fm, -⟩, pf⟩ := lwAt_pc (h := h) (at' := c + 2) (most := 30) (B3.ext e) (by omega) (by omega) (in64_small (by omega))
     have fm' := fm (by omega)
     simp -implicitDefEqProofs only [go_sem, r112, r114, k1, k2, ldc_get g7h, ll, f1, f6, f9, f11', f12, f13, f14]
     refine pf.use ?_
     exact ⟨Ext.refl _, ⟨r.put (hXn 115 (by omega)) _, e, n, f', vf, zs, zd, hn0, in64_small (by omega), fun _ => by simp -implicitDefEqProofs only [go_sem, t1, k1, k2, ldc_get g7h, ll, f1, f6, f9, f11', f12, f13, f14], fun _ => by simp -implicitDefEqProofs only [go_sem, k1, k2, ldc_get g7h, ll, f1, f6, f9, f11', f12, f13, f14], by omega, by omega, by omega, by omega⟩, by simp -implicitDefEqProofs only [go_sem, k1, k2, ldc_get g7h, ll, f1, f6, f9, f11', f12, f13, f14], by omega⟩
    ·simp only [List.getElem?_cons_zero, List.getElem?_cons_succ, Option.some.injEq, Prod.mk.injEq] at hg
     obtain ⟨rfl, rfl⟩ := hg
     refine ⟨fun _ => ?_, fun q => by cases q⟩
     have t1 := s1 (by omega)
     have t2 := s2 (by omega)
     simp -implicitDefEqProofs only [go_sem, t2, k1, k2, ldc_get g7h, ll, f1, f6, f9, f11', f12, f13, f14]
     intro b hb nb
     have eb := (Ext.refl h).set nb ⟨[i64 fate], 1⟩
     have sb : Sl (h.set b ⟨[i64 fate], 1⟩) (sl b 0 1 1) 1 (ints [fate]) := Sl.of_get (h := h.set b ⟨[i64 fate], 1⟩) (b := b) (c := 1) (z := 1) (w := 1) (rows := ints [fate]) (H.set_get_same _ _ _) (by simp) (by intro r hr; simp at hr; subst hr; rfl)
     exact ⟨eb, ⟨r.put (hXn 116 (by omega)) _, e.trans eb, n, fate, _, zs, zd, hn0, hf64, fun _ => by simp -implicitDefEqProofs only [go_sem, t1, k1, k2, ldc_get g7h, ll, f1, f6, f9, f11', f12, f13, f14], fun _ => by simp -implicitDefEqProofs only [go_sem, t2, k1, k2, ldc_get g7h, ll, f1, f6, f9, f11', f12, f13, f14], fun _ => ⟨by simp -implicitDefEqProofs only [go_sem, k1, k2, ldc_get g7h, ll, f1, f6, f9, f11', f12, f13, f14], sb⟩, by omega, by omega, by omega⟩, by simp -implicitDefEqProofs only [go_sem, k1, k2, ldc_get g7h, ll, f1, f6, f9, f11', f12, f13, f14], by omega⟩
    ·simp only [List.getElem?_cons_zero, List.getElem?_cons_succ, Option.some.injEq, Prod.mk.injEq] at hg
     obtain ⟨rfl, rfl⟩ := hg
     refine ⟨fun _ => ?_, fun q => by cases q⟩
     have t1 := s1 (by omega)
     have t2 := s2 (by omega)
     obtain ⟨t3, sf⟩ := s3 (by omega)
     simp -implicitDefEqProofs only [go_sem, r107, r108, t1, t3, k1, k2, ldc_get g7h, ll, f1, f6, f9, f11', f12, f13, f14]
     refine AC_of (implCut_ac (c := C) (tb.ext ((E11.trans eh3).trans e)) (mach_r.2 ⟨us3, ud3, rfl, mh3.ext e⟩) aM.dev.fin1 aM.dev.stM hrM hCk hgM hdC hn0 sf (by simp) (fun x hx => by rw [List.mem_singleton.1 hx]; exact hf64)) ?_
     rintro _ h' - ⟨e', xs', xd', rfl, fx⟩
     exact ⟨e', ⟨r.put (hXn 117 (by omega)) _, e.trans e', n, fate, vf, xs', xd', hn0, hf64, fun _ => by simp -implicitDefEqProofs only [go_sem, t1, k1, k2, ldc_get g7h, ll, f1, f6, f9, f11', f12, f13, f14], fun _ => by simp -implicitDefEqProofs only [go_sem, t2, k1, k2, ldc_get g7h, ll, f1, f6, f9, f11', f12, f13, f14], fun _ => ⟨by simp -implicitDefEqProofs only [go_sem, t3, k1, k2, ldc_get g7h, ll, f1, f6, f9, f11', f12, f13, f14], sf.ext e'⟩, fun _ => ⟨by simp -implicitDefEqProofs only [go_sem, k1, k2, ldc_get g7h, ll, f1, f6, f9, f11', f12, f13, f14], by rw [hmf]; exact fx.r⟩, by omega, by omega⟩, by simp -implicitDefEqProofs only [go_sem, k1, k2, ldc_get g7h, ll, f1, f6, f9, f11', f12, f13, f14], by omega⟩
    ·simp only [List.getElem?_cons_zero, List.getElem?_cons_succ, Option.some.injEq, Prod.mk.injEq] at hg
     obtain ⟨rfl, rfl⟩ := hg
     refine ⟨(fun q => by cases q), fun _ => ?_⟩
     have t1 := s1 (by omega)
     have t2 := s2 (by omega)
     have t3 := s3 (by omega)
     obtain ⟨t4, fz⟩ := s4 (by omega)
     refine ⟨some 118, _, rfl, ?_⟩
     rw [wv_partt, show ev f (.t 117) = f 117 from rfl, t4]
     simp -implicitDefEqProofs only [asA_mk, withO_some]
     refine ⟨⟨r.put (hXn 118 (by omega)) _, e, n, fate, vf, zs, zd, hn0, hf64, fun _ => t1, fun _ => t2, fun _ => t3, fun _ => ⟨t4, fz⟩, fun _ => rfl, fun q => ?_⟩, rfl⟩
     omega
    ·simp only [List.getElem?_cons_zero, List.getElem?_cons_succ, Option.some.injEq, Prod.mk.injEq] at hg
     obtain ⟨rfl, rfl⟩ := hg
     refine ⟨fun _ => ?_, fun q => by cases q⟩
     have t1 := s1 (by omega)
     have t2 := s2 (by omega)
     have t3 := s3 (by omega)
     obtain ⟨t4, fz⟩ := s4 (by omega)
     have t5 := s5 (by omega)
     obtain ⟨κ, aY, -, -, hbo, -⟩ := (hcutL n fate hn0).boot aM
     have hd' := (hcutL n fate hn0).1
     simp -implicitDefEqProofs only [go_sem, t5, k1, k2, ldc_get g7h, ll, f1, f6, f9, f11', f12, f13, f14]
     have hB := implBoot_ac (h := h) (m := mcut n fate) (mach_r.2 ⟨zs, zd, rfl, fz⟩) hd'.fin1
     rw [hmb, hbo] at hB
     refine AC_of hB ?_
     rintro _ h' - ⟨e', cB, rfl, FB⟩
     obtain ⟨ys', yd', rfl, fB⟩ := machO_f.1 FB
     have hbb : (bootM (mcut n fate) S2).blocks = M.blocks := hmb n fate
     refine ⟨e', ⟨r.put (hXn 119 (by omega)) _, e.trans e', n, fate, vf, zs, zd, hn0, hf64, fun _ => by simp -implicitDefEqProofs only [go_sem, t1, k1, k2, ldc_get g7h, ll, f1, f6, f9, f11', f12, f13, f14], fun _ => by simp -implicitDefEqProofs only [go_sem, t2, k1, k2, ldc_get g7h, ll, f1, f6, f9, f11', f12, f13, f14], fun _ => ⟨by simp -implicitDefEqProofs only [go_sem, t3.1, k1, k2, ldc_get g7h, ll, f1, f6, f9, f11', f12, f13, f14], t3.2.ext e'⟩, fun _ => ⟨by simp -implicitDefEqProofs only [go_sem, t4, k1, k2, ldc_get g7h, ll, f1, f6, f9, f11', f12, f13, f14], fz.ext e'⟩, fun _ => by simp -implicitDefEqProofs only [go_sem, t5, k1, k2, ldc_get g7h, ll, f1, f6, f9, f11', f12, f13, f14], fun _ => ⟨ys', yd', by rw [← hbb]; simp -implicitDefEqProofs only [go_sem, k1, k2, ldc_get g7h, ll, f1, f6, f9, f11', f12, f13, f14], fB.back e⟩⟩, by simp -implicitDefEqProofs only [go_sem, k1, k2, ldc_get g7h, ll, f1, f6, f9, f11', f12, f13, f14], fun _ b hb w ys yd w' hq => ?_⟩
     have hq' : Value.agg #[i64 (bootM (mcut n fate) S2).blocks, ys', yd', i64 0] = .agg #[w, ys, yd, w'] := by simpa only [putf_s, upd_app, if_true] using hq
     obtain ⟨-, rfl, rfl, -⟩ : i64 (bootM (mcut n fate) S2).blocks = w ∧ ys' = ys ∧ yd' = yd ∧ i64 0 = w' := by simpa using hq'
     exact ⟨fun q => hb (fB.1.new b q), fun q => hb (fB.2.1.new b q)⟩
    ·rw [List.getElem?_eq_none (by simp only [List.length_cons, List.length_nil]; omega)] at hg
     cases hg
   have hlen : RL.length = 6 := by rw [hRL]; rfl
   have sub : ∀ {i f h}, Base i f h → Sub h5 h := fun {i f h} hB => by rw [hBase] at hB; exact hB.2.1.2
   obtain ⟨I, hI⟩ : ∃ I : Nat → Fr → H → Prop, I = fun i f h => Base i f h ∧ ∃ b, f 15 = ptr b 0 ∧ h.get b = some ⟨[i64 0, nils, nils, i64 0], 4⟩ ∧ h.base ≤ b ∧ h5.get b = none ∧ (6 ≤ i → ∀ w ys yd w', f 119 = .agg #[w, ys, yd, w'] → blk ys ≠ some b ∧ blk yd ≠ some b) := ⟨_, rfl⟩
   have hJ : RowOk Tryz.prog h5 RL Base := fun i kk g hg f h hB => by
    obtain ⟨s1, s2⟩ := stp i kk g hg f h hB
    refine ⟨fun hk => gow_mono (fun f' h' q => ⟨sub q.2.1, q.2.1⟩) (s1 hk), fun hk => ?_⟩
    obtain ⟨d, o, e, w⟩ := s2 hk
    exact ⟨d, o, e, withO_mono (fun v q => q.1) w⟩
   have hIr : RowOk Tryz.prog h5 RL I := fun i kk g hg f h hB => by
    rw [hI] at hB ⊢
    obtain ⟨hB, b, f15, gb, hbb, nb, hnb⟩ := hB
    have hi6 : i < 6 := by
     rcases Nat.lt_or_ge i 6 with q | q
     ·exact q
     ·rw [List.getElem?_eq_none (by omega)] at hg; cases hg
    obtain ⟨s1, s2⟩ := stp i kk g hg f h hB
    refine ⟨fun hk => gow_mono (fun f' h' q => ⟨sub q.2.1, q.2.1, b, by rw [q.2.2.1]; exact f15, q.1.2.g b _ gb, by rw [q.1.1]; exact hbb, nb, fun h6 => q.2.2.2 (by omega) b (by rw [gb]; simp)⟩) (s1 hk), fun hk => ?_⟩
    obtain ⟨d, o, e, w⟩ := s2 hk
    have hi4 : i + 1 < 6 := by
     rcases Nat.lt_or_ge (i + 1) 6 with q | q
     ·exact q
     ·obtain rfl : i = 5 := by omega
      rw [hRL] at hg
      simp only [List.getElem?_cons_zero, List.getElem?_cons_succ, Option.some.injEq, Prod.mk.injEq] at hg
      rw [← hg.1] at hk; cases hk
    exact ⟨d, o, e, withO_mono (fun v q => ⟨q.1, b, by rw [q.2]; exact f15, gb, hbb, nb, fun h6 => by omega⟩) w⟩
   have hAl : ∀ i f h, Base i f h → gow Tryz.prog ⟨(some 15), none, .alloc [(i64 0), nils, nils, (i64 0)]⟩ f h fun f' h' => Sub h5 h' ∧ I i f' h' := by
    intro i f h hB
    have hS5 := sub hB
    rw [hBase] at hB
    rw [hI, hBase]
    obtain ⟨r, e, n, fate, vf, zs, zd, hn0, hf64, s1, s2, s3, s4, s5, s6⟩ := hB
    simp -implicitDefEqProofs only [go_sem, k1, k2, ldc_get g7h, ll, f1, f6, f9, f11', f12, f13, f14]
    intro b hb nb
    have eb := (Ext.refl h).set nb ⟨[i64 0, nils, nils, i64 0], 4⟩
    refine ⟨(e.trans eb).2, ⟨r.put (hXn 15 (by omega)) _, e.trans eb, n, fate, vf, zs, zd, hn0, hf64, fun q => by simp -implicitDefEqProofs only [go_sem, s1 q, k1, k2, ldc_get g7h, ll, f1, f6, f9, f11', f12, f13, f14], fun q => by simp -implicitDefEqProofs only [go_sem, s2 q, k1, k2, ldc_get g7h, ll, f1, f6, f9, f11', f12, f13, f14], fun q => ⟨by simp -implicitDefEqProofs only [go_sem, (s3 q).1, k1, k2, ldc_get g7h, ll, f1, f6, f9, f11', f12, f13, f14], (s3 q).2.ext eb⟩, fun q => ⟨by simp -implicitDefEqProofs only [go_sem, (s4 q).1, k1, k2, ldc_get g7h, ll, f1, f6, f9, f11', f12, f13, f14], (s4 q).2.ext eb⟩, fun q => by simp -implicitDefEqProofs only [go_sem, s5 q, k1, k2, ldc_get g7h, ll, f1, f6, f9, f11', f12, f13, f14], fun q => ?_⟩, b, by simp -implicitDefEqProofs only [go_sem, k1, k2, ldc_get g7h, ll, f1, f6, f9, f11', f12, f13, f14], H.set_get_same _ _ _, hb, e.none nb, fun q w ys yd w' hq => ?_⟩
    ·obtain ⟨ys, yd, t6, fy⟩ := s6 q
     exact ⟨ys, yd, by simp -implicitDefEqProofs only [go_sem, t6, k1, k2, ldc_get g7h, ll, f1, f6, f9, f11', f12, f13, f14], fy.ext eb⟩
    ·obtain ⟨ys', yd', t6, fy⟩ := s6 q
     have hq' : Value.agg #[i64 M.blocks, ys', yd', i64 0] = .agg #[w, ys, yd, w'] := by rw [← t6]; simpa only [putf_s, upd_app, Nat.reduceEqDiff, if_false] using hq
     obtain ⟨-, rfl, rfl, -⟩ : i64 M.blocks = w ∧ ys' = ys ∧ yd' = yd ∧ i64 0 = w' := by simpa using hq'
     exact ⟨fun z => fy.1.known b z nb, fun z => fy.2.1.known b z nb⟩
   have hrow := fun (K : Fr → H → Prop) hf f h hB => rowk1_ok (P := Tryz.prog) (hS := h5) (K := K) (fin := .lt (js 4 15 119) .nil) (a := ⟨(some 15), none, .alloc [(i64 0), nils, nils, (i64 0)]⟩) (I := I) (J := Base) (L := RL) hIr hf hJ hAl RL 0 rfl (Nat.zero_le _) f h hB
   have hstart : ∀ f, RgK X f → Base 0 f h5 := fun f r => by
    rw [hBase]
    exact ⟨r, Ext.refl _, 0, 0, nils, nils, nils, by omega, in64_small (by omega), by omega, by omega, by omega, by omega, by omega, by omega⟩
   have hend : ∀ f h, I RL.length f h → dopw Tryz.prog h5 (.lt (js 4 15 119) .nil) f h (fun f6' h6 => ∃ (b15 : Nat) (n fate : Int) (ys yd : Value), 0 ≤ n ∧ f6' 1 = .slice a2 l2.length c2 ∧ f6' 6 = vQ ∧ f6' 9 = .slice al N cl ∧ f6' 11 = ptr b11 0 ∧ f6' 12 = i64 ((c + 1 : Nat) : Int) ∧ f6' 13 = i64 k ∧ f6' 15 = ptr b15 0 ∧ h6.get b15 = some ⟨[i64 M.blocks, ys, yd, i64 0], 4⟩ ∧ FlF h5 h6 (bootM (mcut n fate) S2).flash ys yd ∧ Ext h5 h6) := by
    intro f h hB
    rw [hlen, hI] at hB
    obtain ⟨hB, b, f15, gb, hbb, nb, hnb⟩ := hB
    rw [hBase] at hB
    obtain ⟨r, e, n, fate, vf, zs, zd, hn0, -, -, -, -, -, -, s6⟩ := hB
    obtain ⟨ys, yd, t6, fy⟩ := s6 (by omega)
    obtain ⟨nb1, nb2⟩ := hnb (by omega) _ _ _ _ t6
    have z1 := fy.1.sl.one
    have z2 := fy.2.1.sl.one
    have r1 := r (1, .slice a2 l2.length c2) (by rw [hX]; simp)
    have r6 := r (6, vQ) (by rw [hX]; simp)
    have r9 := r (9, .slice al N cl) (by rw [hX]; simp)
    have r11 := r (11, ptr b11 0) (by rw [hX]; simp)
    have r12 := r (12, i64 ((c + 1 : Nat) : Int)) (by rw [hX]; simp)
    have r13 := r (13, i64 k) (by rw [hX]; simp)
    simp only at r1 r6 r9 r11 r12 r13
    simp -implicitDefEqProofs only [go_sem, f15, t6, stc_get gb, hbb, z1, z2, k1, k2, ldc_get g7h, ll, f1, f6, f9, f11', f12, f13, f14]
    exact ⟨b, n, fate, ys, yd, hn0, r1, r6, r9, r11, r12, r13, rfl, H.set_get_same _ _ _, ⟨fy.1.setNe nb1 _, fy.2.1.setNe nb2 _, fy.2.2⟩, e.set' nb _⟩
   have hgo := hrow _ hend
   rw [hRL] at hgo
   refine hgo _ _ (hstart _ ?_)
   intro p hp
   rw [hX] at hp
   simp only [List.mem_cons, List.not_mem_nil, or_false] at hp
   rcases hp with rfl | rfl | rfl | rfl | rfl | rfl | rfl | rfl | rfl | rfl | rfl | rfl <;> simp only [upd_app, Nat.reduceEqDiff, if_false, if_true, f1, f6, f9, f11', f12, f13]
  clear f1 f6 f9 f11' f12 f13 f14 f
  rintro f h6 ⟨b15, n, fate, ys, yd, hn0, f1, f6, f9, f11', f12, f13, f15, g15, fY, e6⟩
  skip
  skip
  obtain ⟨κ, aY, hκ1, hκ2, hbo, hkk⟩ := (hcutL n fate hn0).boot aM
  obtain ⟨Y, hY⟩ : ∃ Y, Y = bootM (mcut n fate) S2 := ⟨_, rfl⟩
  have hYb : Y.blocks = M.blocks := by rw [hY]; exact hmb n fate
  rw [← hY] at aY fY
  rw [← hYb] at g15
  have hlo : logOfOut Y = ⟨(fullL W).take κ, (κ : Int)⟩ := by unfold logOfOut; rw [aY.dev.stM]; simp only; rw [aY.log, hkk]
  have hκN := aY.le
  rw [← hN] at hκN
  have y1 := fY.1.sl.one
  have y2 := fY.2.1.sl.one
  have ltk : (((fullL W).take κ).map UStep.cells).length = κ := by rw [List.length_map, List.length_take]; omega
  have ws : IntKind.i64.wrap ((k : Int) - 1) = (k : Int) - 1 := wrap_i64 (by omega) (by omega)
  have wa : IntKind.i64.wrap ((k : Int) + 1) = (k : Int) + 1 := wrap_i64 (by omega) (by omega)
  have gh6 := e6.2.g b11 _ gh3
  have hbh6 : h6.base ≤ b11 := by rw [e6.1, e3'.1]; exact hbh
  simp -implicitDefEqProofs only [go_sem, ldc_get g15, k1, k2, ldc_get g7h, ll, f1, f6, f9, f11', f12, f13, f15]
  refine AC_of (implLogOf_ac (mach_r.2 ⟨ys, yd, rfl, fY.r⟩) aY.dev.fin1) ?_
  rintro _ h7 - ⟨e7, cS, rfl, FS⟩
  rw [hlo] at FS
  obtain ⟨vS, rfl, fS⟩ := scan_f.1 FS
  have g157 := e7.2.g b15 _ g15
  simp -implicitDefEqProofs only [go_sem, ldc_get g157, ws, wa, show ¬ (κ : Int) < (k : Int) - 1 by omega, show ¬ (k : Int) + 1 < (κ : Int) by omega, k1, k2, ldc_get g7h, ll, f1, f6, f9, f11', f12, f13, f15]
  refine AC_of (implLogOf_ac (mach_r.2 ⟨ys, yd, rfl, fY.r.ext e7⟩) aY.dev.fin1) ?_
  rintro _ h8 - ⟨e8, cS2, rfl, FS2⟩
  rw [hlo] at FS2
  obtain ⟨vS2, rfl, fS2⟩ := scan_f.1 FS2
  obtain ⟨aS, cSl, rfl⟩ := fS2.shape
  have g158 := e8.2.g b15 _ g157
  have gh8 := e8.2.g b11 _ (e7.2.g b11 _ gh6)
  have hbh8 : h8.base ≤ b11 := by rw [e8.1, e7.1]; exact hbh6
  have EE := (eh3.trans e6).trans (e7.trans e8)
  simp -implicitDefEqProofs only [go_sem, ltk, ldc_get g158, stc_get gh8, hbh8, y1, y2, k1, k2, ldc_get g7h, ll, f1, f6, f9, f11', f12, f13, f15]
  exact ⟨(6 - (c + 1)) * 100 + (N - κ), by omega, _, Ext.refl _, κ, c + 1, Y, ys, yd, rfl, by omega, rfl, rfl, EE.set' n11 _, H.set_get_same _ _ _, (FlF.set (fY.ext (e7.trans e8)) gh3 _).r, aY⟩
  skip
  skip
 clear f1 f6 f9 f11' f12 f13 f14 f
 rintro f h4 ⟨rfl, f1, f6, f9, f11', f12, f13, f14⟩
 have a4 := aM.step hkF
 obtain ⟨M4, hM4⟩ : ∃ M4, M4 = after M (stepActs M S2 k (fullL W)[k]) := ⟨_, rfl⟩
 have hM4b : M4.blocks = M.blocks := by rw [hM4]; rfl
 have hM4f : actsDo M.flash (stepActs M S2 k (fullL W)[k]) = M4.flash := by rw [hM4]; rfl
 rw [← hM4] at a4
 have mo1 := mh.1.one
 have mo2 := mh.2.one
 simp -implicitDefEqProofs only [go_sem, ldc_get gh3, ldc_get g14, k1, k2, ldc_get g7h, ll, f1, f6, f9, f11', f12, f13, f14]
 refine AC_of (implDo_ac (c := C) (tb.ext (E11.trans eh3)) (mach_r.2 ⟨us3, ud3, rfl, mh3⟩) aM.dev.fin1 aM.dev.stM hrM hCk hgM hdC) ?_
 rintro _ h5 - ⟨e5', us4, ud4, rfl, f4'⟩
 simp only at f4' ⊢
 rw [hM4f] at f4'
 rw [← hM4b]
 have q1 := f4'.1.sl.one
 have q2 := f4'.2.1.sl.one
 have gh5 := e5'.2.g b11 _ gh3
 have hbh5 : h5.base ≤ b11 := by rw [e5'.1, e3'.1]; exact hbh
 have e6' := (eh3.trans e5').set' n11 ⟨[i64 M4.blocks, us4, ud4, str [], nils, i64 0], 6⟩
 have g6' : (h5.set b11 ⟨[i64 M4.blocks, us4, ud4, str [], nils, i64 0], 6⟩).get b11 = some ⟨[i64 M4.blocks, us4, ud4, str [], nils, i64 0], 6⟩ := H.set_get_same _ _ _
 have m6' := (FlF.set f4' gh3 ⟨[i64 M4.blocks, us4, ud4, str [], nils, i64 0], 6⟩).r
 simp -implicitDefEqProofs only [go_sem, stc_get gh5, hbh5, q1, q2, wrap_i64 (show -(9223372036854775808 : Int) ≤ ((k : Int) + 1) by omega) (show ((k : Int) + 1) < 9223372036854775808 by omega), k1, k2, ldc_get g7h, ll, f1, f6, f9, f11', f12, f13, f14]
 exact ⟨(6 - c) * 100 + (N - (k + 1)), by omega, _, Ext.refl _, k + 1, c, M4, us4, ud4, rfl, by omega, rfl, rfl, e6', g6', m6', a4⟩
theorem fnResume_law (h : H) (tb : Tabs h) (args : List Value) (ha : okAs h [.one (.sl [.int .u8]), .one (.sl [.int .u8])] args) : AC Tryz.prog 5 args h fun r _ => r = .bool true := by
 obtain ⟨v, w, l1, l2, rfl, A, B⟩ := okAs_codes ha
 exact fnResume_walk tb A B
section
open Go.ChangeShapes Go.WideShapes Go.ChangeAt Go.RowKit
theorem fnResume_lifted (os : Os) (started : os.Started) (H' : Type) (enc : TypeId × Value → H') : ReturnsInHanded {} Tryz.checked os 5 .any (fun w args => (Rows.fnResumeSpec.pre enc Tryz.prog Tryz.f5 [] false w args ∧ laidMetH Tryz.prog laidL w) ∧ sizedMet enc Tryz.prog Tryz.f5 (OpenSpec.ofChange Rows.fnResumeSpec) false w args) (Rows.fnResumeSpec.post enc Tryz.prog Tryz.f5 false true false false) :=
 law_row_laid (Ck := Tryz.checked) Tabs [.one (.sl [.int .u8]), .one (.sl [.int .u8])] (by kernel_rfl) started (by kernel_rfl) Tryz.func5
  (ChangeSpec.witness_shaped (enc := enc) (C := Tryz.checked) (os := os) (X := fun w _ => laidMetH Tryz.prog laidL w) false (World.doorLaid Tryz.prog 400 os) #[.slice none 0 0, .slice none 0 0] 8 rfl (World.shaped_of_RefB (by kernel_rfl) (by kernel_rfl)) (by kernel_rfl) (by kernel_rfl) (by kernel_rfl) (door_met os _))
  (by kernel_rfl) (by kernel_rfl) rfl (by kernel_rfl : Tryz.prog.underlying (Tryz.f5.resultTypes.getD 0 0) = some .bool) (by kernel_rfl)
  (fun ds gs hd hg => by
   rw [show Tryz.f5.params.toList.length = 2 by kernel_rfl] at hd
   match ds, hd, gs, hg with
   | [_, _], _, [_, _], _ => rfl)
  (by kernel_rfl) (fun W h => tabs_of h) fnResume_law
theorem fnResume_said : Rows.FnResumeSaid :=
 OpenClaim.holds_of_wide 5 Tryz.f5 rfl rfl rfl rfl rfl rfl rfl ⟨rfl, rfl, rfl, rfl, rfl⟩ rfl rfl rfl rfl rfl (by kernel_rfl) Tryz.func5 (by kernel_rfl)
  (of_decide_eq_true (by kernel_rfl)) (by unfold Func.isWrapper; first | (rw [if_pos (by decide +kernel)]; kernel_rfl) | (rw [if_neg (by decide +kernel)]; exact ⟨rfl, rfl⟩))
  (fun os started H' enc _ => fnResume_lifted os started H' enc)
theorem fnResume_holds : Rows.FnResumeCardSaid :=
 Claim7.holds_tied_plain_at .later [] [.data, .data] true (true, "68bc4b5e9496981d9c766f49fbb7ad9e96819613147a8f0d4dbbcb4254e8c4ec") false
  fnResume_said (fun _ h => by cases h) (by kernel_rfl) (fun _ h => by cases h) fnResume_row_tie rfl ⟨rfl, rfl⟩ (by kernel_rfl) rfl
  (fun f fn hf hfn => by
   obtain rfl : f = 5 := Option.some.inj ((show Tryz.prog.funcNamed "loop.example/g00668/laws.FnResume" = some 5 by kernel_rfl).symm.trans hf) |>.symm
   obtain rfl : fn = Tryz.f5 := (Option.some.inj (Tryz.func5.symm.trans hfn)).symm
   exact ⟨by kernel_rfl, fun j t ht => by
    have hm : t ∈ Tryz.f5.params.toList := by simpa using Array.mem_of_getElem? ht
    have hall : (Tryz.f5.params.toList.all fun u => !Tryz.prog.wantsStandIn u) = true := by kernel_rfl
    exact (show Tryz.prog.wantsStandIn t = false by simpa using List.all_eq_true.1 hall t hm)⟩)
  (by kernel_rfl)
end
end Go.Proofs.YthjbhdmjfakfaaaGreatDoor