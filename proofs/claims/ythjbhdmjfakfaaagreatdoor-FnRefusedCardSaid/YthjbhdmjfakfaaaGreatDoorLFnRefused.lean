/- A package that comes to another digest than was said, or of fewer steps, is let go and the device is what it was; one for which there is no room is not begun: the given statement, with no condition. -/
import Derived.Test.YthjbhdmjfakfaaaGreatDoorMCZj
import Derived.Test.YthjbhdmjfakfaaaGreatDoorMC08p
import Derived.Test.YthjbhdmjfakfaaaGreatDoorRows
import Derived.Test.YthjbhdmjfakfaaaGreatDoorCards
import Derived.Test.YthjbhdmjfakfaaaGreatDoorTie
import Derived.SevenTiedAt
import Derived.ProofKit
import Derived.ShutString
import Derived.ChangeOld
import Derived.Below
set_option linter.unusedVariables false
set_option linter.unusedSimpArgs false
set_option maxRecDepth 100000
namespace Go.Proofs.YthjbhdmjfakfaaaGreatDoor
open Go.KH

def b_laws_FnRefused : C := (jo [q 4 (.mv (.c (.bool false)))]
 (.seq (jo [jm 18 0, q 19 (.len (.t 18)), jk 20 .gtr 19 1048576, jm 21 20, qg 22 21 false (.mv (.t 1)), qg 23 21 false (.len (.t 22)), qg 24 21 false (.bin .gtr (.t 23) (.c (i64 1048576))), q 25 (.pick (.t 21) (.c (.bool true)) (.t 24))]
 (.cond (.t 25) (jo [q 4 (.mv (.c (.bool true)))]
 .ret) .skip))
 (jo [jm 27 0, jc 28 6 [(.t 27)], jm 26 28, q 29 (.ext 0 (.t 26)), q 30 (.ext 1 (.t 26)), jm 5 29, jm 6 30]
 (jo [jm 31 5, jm 32 6, jc 33 14 [(.t 31), (.t 32)], ⟨(some 7), none, .alloc [(i64 0), (str []), nils, (i64 0)]⟩, js 4 7 33]
 (jo [jm 34 5, jc 35 24 [(.t 34)], ⟨(some 8), none, .alloc [(i64 0), nils, nils, (i64 0)]⟩, js 4 8 35]
 (.seq (jo [jf 36 3 7, jl 37 36, jk 38 .neq 37 0, jm 39 38, qg 40 39 false (.fld 3 (.t 8)), qg 41 39 false (.ld false 1 (.t 40)), qg 42 39 false (.bin .neq (.t 41) (.c (i64 0))), q 43 (.pick (.t 39) (.c (.bool true)) (.t 42))]
 (.cond (.t 43) (.seq (.dops true (.tk (jf 44 3 8) (.tk (jl 45 44) (.tk (jm 46 5) (.sq (jc 47 25 [(.t 46)]) (.tk (q 48 (.part false 3 1 (.t 47))) (.tk (jb 49 .eql 45 48) (.tk (jm 4 49) .nil))))))))
 .ret) .skip))
 (jo [jm 50 1, jc 51 21 [(.t 50), (.c (i64 0)), (.c (i64 24))], q 52 (.bin .add (.c (i64 1)) (.t 51)), jm 9 52]
 (jo [jf 53 0 8, jd 54 3 53, jm 55 9, q 56 (.build [(i64 0), (i64 0), (i64 0), (str []), (i64 0), (i64 0), (i64 0), (str [])] [(0, 1, (.c (i64 9))), (1, 1, (.t 55))]), jc 57 26 [(.t 54), (.t 56)], ⟨(some 10), none, .alloc [(i64 0), nils, nils, (str []), nils, (i64 0)]⟩, js 6 10 57]
 (jo [jf 58 0 7, jf 59 2 58, jl 60 59, q 61 (.len (.t 60)), jm 11 61]
 (jo [jf 62 0 7, jf 63 1 62, jl 64 63, ⟨(some 65), none, .s2b (.t 64)⟩, jm 12 65]
 (.seq (.dops false (.tk (jm 66 12) (.tk (jm 67 1) (.tk (jm 71 1) (.sq (jc 68 21 [(.t 67), (.c (i64 2)), (.c (i64 32))]) (.tk (q 69 (.idx 1 (.t 66) (.t 68))) (.alt (jl 70 69) (.sq (jc 72 21 [(.t 71), (.c (i64 3)), (.c (i64 255))]) (.tk (q 73 (.bin .add (.c (i64 1)) (.t 72))) (.tk (q 74 (.cv .u8 (.t 73))) (.tk (jb 75 .xor 70 74) (.tk (q 76 (.idx 1 (.t 66) (.t 68))) (.lt (js 1 76 75) .nil)))))) (jc 72 21 [(.t 71), (.c (i64 3)), (.c (i64 255))]) (.tk (q 73 (.bin .add (.c (i64 1)) (.t 72))) (.tk (q 74 (.cv .u8 (.t 73))) (.sq (jl 70 69) (.tk (jb 75 .xor 70 74) (.tk (q 76 (.idx 1 (.t 66) (.t 68))) (.lt (js 1 76 75) .nil)))))))))))))
 (jo [jf 77 0 10, jd 78 3 77, jm 79 11, jm 80 12, q 81 (.b2s (.t 80)), q 82 (.build [(i64 0), (i64 0), (i64 0), (str []), (i64 0), (i64 0), (i64 0), (str [])] [(0, 1, (.c (i64 1))), (1, 1, (.t 79)), (2, 1, (.c (i64 4))), (3, 1, (.t 81))]), jc 83 26 [(.t 78), (.t 82)], ⟨(some 13), none, .alloc [(i64 0), nils, nils, (str []), nils, (i64 0)]⟩, js 6 13 83]
 (.seq (jo [jf 84 5 10, jl 85 84, jk 86 .neq 85 0, jm 87 86, qg 88 87 false (.fld 5 (.t 13)), qg 89 87 false (.ld false 1 (.t 88)), qg 90 87 false (.bin .eql (.t 89) (.c (i64 11))), qg 91 87 false (.mv (.t 9)), qg 92 87 false (.mv (.t 11)), qg 93 87 false (.bin .add (.t 91) (.t 92)), qg 94 87 false (.bin .add (.t 93) (.c (i64 4))), qg 95 87 false (.bin .gtr (.t 94) (.c (i64 24))), qg 96 87 false (.eqb true (.t 90) (.t 95)), q 97 (.pick (.t 87) (.c (.bool true)) (.t 96)), jm 98 97, qg 99 98 false (.fld 5 (.t 13)), qg 100 98 false (.ld false 1 (.t 99)), qg 101 98 false (.bin .neq (.t 100) (.c (i64 0))), qg 102 98 false (.mv (.t 101)), qg 103 102 true (.fld 5 (.t 13)), qg 104 102 true (.ld false 1 (.t 103)), qg 105 102 true (.bin .neq (.t 104) (.c (i64 11))), qg 106 98 false (.pick (.t 102) (.t 105) (.c (.bool false))), q 107 (.pick (.t 98) (.c (.bool true)) (.t 106))]
 (.cond (.t 107) (jo [q 4 (.mv (.c (.bool false)))]
 .ret) .skip))
 (.seq (jo [jf 108 5 13, jl 109 108, jk 110 .neq 109 0]
 (.cond (.t 110) (jo [jf 111 0 13, jd 112 3 111, jc 113 27 [(.t 112)], q 114 (.part false 0 1 (.t 113)), jm 115 5, jc 116 22 [(.t 114), (.t 115)], jm 117 116, qg 118 117 true (.fld 0 (.t 13)), qg 119 117 true (.ld true 3 (.t 118)), jcg 120 117 true 28 [(.t 119)], qg 121 117 true (.part true 0 8 (.t 120)), qg 122 117 true (.part false 0 1 (.t 121)), qg 123 117 true (.bin .eql (.t 122) (.c (i64 1))), q 124 (.pick (.t 117) (.t 123) (.c (.bool false))), jm 4 124]
 .ret) .skip))
 (jo [jm 125 1, jc 126 21 [(.t 125), (.c (i64 1)), (.c (i64 2))], jk 127 .eql 126 0, jm 14 127]
 (.seq (jo [q 15 (.mv (.c (i64 0)))]
 (.block 0 (.loop (.seq (jo [jm 128 15, jf 129 0 7, jf 130 2 129, jl 131 130, q 132 (.len (.t 131)), jb 133 .lss 128 132, jm 134 133, qg 135 134 true (.mv (.t 14)), qg 136 134 true (.mv (.t 135)), qg 137 136 true (.mv (.t 15)), qg 138 136 true (.fld 0 (.t 7)), qg 139 136 true (.fld 2 (.t 138)), qg 140 136 true (.ld false 1 (.t 139)), qg 141 136 true (.len (.t 140)), qg 142 136 true (.bin .sub (.t 141) (.c (i64 1))), qg 143 136 true (.bin .eql (.t 137) (.t 142)), qg 144 134 true (.pick (.t 136) (.t 143) (.c (.bool false))), qg 145 134 true (.un .not (.t 144)), q 146 (.pick (.t 134) (.t 145) (.c (.bool false)))]
 (.cond (.t 146) .skip (.exit 0)))
 (.seq (.block 1 (.seq (.dops true (.tk (jf 149 0 13) (.tk (jd 150 3 149) (.tk (jf 151 0 7) (.tk (jf 152 2 151) (.tk (jl 153 152) (.tk (jm 154 15) (.tk (q 155 (.idx 4 (.t 153) (.t 154))) (.tk (jd 156 4 155) (.tk (q 157 (.build [(i64 0), (i64 0), (i64 0), (str []), (i64 0), (i64 0), (i64 0), (str [])] [(0, 1, (.c (i64 2))), (4, 4, (.t 156))])) (.sq (jc 158 26 [(.t 150), (.t 157)]) (.lt (js 6 13 158) .nil))))))))))))
 (jo [jf 159 5 13, jl 160 159, jk 161 .neq 160 0, jm 162 161, qg 163 162 false (.fld 0 (.t 13)), qg 164 162 false (.ld true 3 (.t 163)), jcg 165 162 false 27 [(.t 164)], qg 166 162 false (.part false 0 1 (.t 165)), qg 167 162 false (.mv (.t 5)), jcg 168 162 false 22 [(.t 166), (.t 167)], qg 169 162 false (.un .not (.t 168)), q 170 (.pick (.t 162) (.c (.bool true)) (.t 169))]
 (.cond (.t 170) (jo [q 4 (.mv (.c (.bool false)))]
 .ret) .skip))))
 (.ops [jm 147 15, jk 148 .add 147 1, jm 15 148]))))))
 (jo [jf 171 0 13, jd 172 3 171, q 173 (.build [(i64 0), (i64 0), (i64 0), (str []), (i64 0), (i64 0), (i64 0), (str [])] [(0, 1, (.c (i64 3)))]), jc 174 26 [(.t 172), (.t 173)], ⟨(some 16), none, .alloc [(i64 0), nils, nils, (str []), nils, (i64 0)]⟩, js 6 16 174]
 (jo [jf 175 0 16, jd 176 3 175, jc 177 28 [(.t 176)], q 178 (.part true 0 8 (.t 177)), ⟨(some 17), none, .alloc [(i64 0), (i64 0), (i64 0), (i64 0), (i64 0), (str []), nils, nils]⟩, js 8 17 178]
 (.seq (jo [jm 179 14, jm 180 179, qg 181 180 true (.fld 5 (.t 16)), qg 182 180 true (.ld false 1 (.t 181)), qg 183 180 true (.bin .neq (.t 182) (.c (i64 4))), q 184 (.pick (.t 180) (.t 183) (.c (.bool false))), jm 185 184, qg 186 185 false (.mv (.t 14)), qg 187 185 false (.un .not (.t 186)), qg 188 185 false (.mv (.t 187)), qg 189 188 true (.fld 5 (.t 16)), qg 190 188 true (.ld false 1 (.t 189)), qg 191 188 true (.bin .neq (.t 190) (.c (i64 5))), qg 192 185 false (.pick (.t 188) (.t 191) (.c (.bool false))), q 193 (.pick (.t 185) (.c (.bool true)) (.t 192))]
 (.cond (.t 193) (jo [q 4 (.mv (.c (.bool false)))]
 .ret) .skip))
 (jo [jf 194 0 17, jl 195 194, jk 196 .eql 195 1, jm 197 196, qg 198 197 true (.fld 0 (.t 16)), qg 199 197 true (.ld true 3 (.t 198)), jcg 200 197 true 27 [(.t 199)], qg 201 197 true (.part false 0 1 (.t 200)), qg 202 197 true (.mv (.t 5)), jcg 203 197 true 22 [(.t 201), (.t 202)], q 204 (.pick (.t 197) (.t 203) (.c (.bool false))), jm 205 204, qg 206 205 true (.fld 6 (.t 17)), qg 207 205 true (.ld false 1 (.t 206)), qg 208 205 true (.fld 7 (.t 17)), qg 209 205 true (.ld false 1 (.t 208)), jcg 210 205 true 29 [(.t 207), (.t 209)], qg 211 205 true (.len (.t 210)), qg 212 205 true (.mv (.t 9)), qg 213 205 true (.bin .sub (.c (i64 24)) (.t 212)), qg 214 205 true (.bin .eql (.t 211) (.t 213)), q 215 (.pick (.t 205) (.t 214) (.c (.bool false))), jm 4 215]
 .ret))))))))))))))))))))
theorem w_laws_FnRefused : Wk Tryz.prog 4 216 [.tmp 4] b_laws_FnRefused := Wk.of mixedOrders Tryz.func4 (by kernel_rfl) (by kernel_rfl)

set_option maxHeartbeats 6400000 in
theorem fnRefused_walk {h : H} (tb : Tabs h) {va vb : Value} {l1 l2 : List UInt8} (A : Sl h va 1 (bys l1)) (B : Sl h vb 1 (bys l2)) : AC Tryz.prog 4 [va, vb] h fun r _ => r = .bool true := by
  have k1 : (bys l1).length = l1.length := by simp [bys]
  have k2 : (bys l2).length = l2.length := by simp [bys]
  obtain ⟨a1, c1, rfl⟩ := A.shape
  obtain ⟨a2, c2, rfl⟩ := B.shape
  rw [k1] at A
  rw [k2] at B
  skip
  refine w_laws_FnRefused (by simp) ?_
  unfold b_laws_FnRefused
  simp -implicitDefEqProofs only [go_sem, k1, k2]
  by_cases h1 : 1048576 < l1.length
  · simp -implicitDefEqProofs only [go_sem, show (1048576 : Int) < (l1.length : Int) by omega, k1, k2]
  by_cases h2 : 1048576 < l2.length
  · simp -implicitDefEqProofs only [go_sem, show ¬ (1048576 : Int) < (l1.length : Int) by omega, show (1048576 : Int) < (l2.length : Int) by omega, k1, k2]
  simp -implicitDefEqProofs only [go_sem, show ¬ (1048576 : Int) < (l1.length : Int) by omega, show ¬ (1048576 : Int) < (l2.length : Int) by omega, k1, k2]
  refine AC_of (drawPackageOf_ac A (by omega)) ?_
  rintro _ h3 - ⟨e3, P, Q, vP, vQ, rfl, hP9, hP10, sP, hQ9, hQ10, sQ⟩
  simp -implicitDefEqProofs only [go_sem, k1, k2]
  refine AC_of (specPackageOf_ac sP sQ (by omega) (by omega)) ?_
  rintro _ h4 - ⟨e4, cX, rfl, FX⟩
  obtain ⟨vX, rfl, fX⟩ := po_f.1 FX
  have x1 := fX.sl.one
  have x2 := fX.sl.vcl
  simp -implicitDefEqProofs only [go_sem, x1, x2, k1, k2]
  intro b7 hb7 n7
  simp -implicitDefEqProofs only [go_sem, hb7, x1, x2, k1, k2]
  have E3 := e3.trans e4
  have e7 := (Ext.refl h4).set n7 ⟨[i64 (packageOut P Q).1.blocks, str (packageOut P Q).1.digest, vX, i64 (packageOut P Q).2], 4⟩
  have g7 : (h4.set b7 ⟨[i64 (packageOut P Q).1.blocks, str (packageOut P Q).1.digest, vX, i64 (packageOut P Q).2], 4⟩).get b7 = some ⟨[i64 (packageOut P Q).1.blocks, str (packageOut P Q).1.digest, vX, i64 (packageOut P Q).2], 4⟩ := H.set_get_same _ _ _
  have sX := fX.sl.ext e7
  have E7 := E3.trans e7
  have sP7 := (sP.ext e4).ext e7
  have hX9 := packageOut_small P Q
  generalize h4.set b7 ⟨[i64 (packageOut P Q).1.blocks, str (packageOut P Q).1.digest, vX, i64 (packageOut P Q).2], 4⟩ = h7 at e7 g7 sX E7 sP7 ⊢
  refine AC_of (implMachineNew_ac sP7 (by omega)) ?_
  rintro _ h8 - ⟨e8, cM, rfl, FM⟩
  obtain ⟨us, ud, rfl, fM⟩ := machO_f.1 FM
  have m1 := fM.1.sl.one
  have m2 := fM.2.1.sl.one
  simp -implicitDefEqProofs only [go_sem, m1, m2, k1, k2]
  intro b8 hb8 n8
  have z78 : b7 ≠ b8 := fun e => by rw [← e, e8.2.g b7 _ g7] at n8; cases n8
  have e9 := (Ext.refl h8).set n8 ⟨[i64 (newOut P).1.blocks, us, ud, i64 (newOut P).2], 4⟩
  have g8 : (h8.set b8 ⟨[i64 (newOut P).1.blocks, us, ud, i64 (newOut P).2], 4⟩).get b8 = some ⟨[i64 (newOut P).1.blocks, us, ud, i64 (newOut P).2], 4⟩ := H.set_get_same _ _ _
  have g79 := e9.2.g b7 _ (e8.2.g b7 _ g7)
  simp -implicitDefEqProofs only [go_sem, hb8, m1, m2, eq_false z78, ldc_get (e8.2.g b7 _ g7), k1, k2]
  have E9 := (E7.trans e8).trans e9
  have fM9 := fM.r.ext e9
  have sX9 := (sX.ext e8).ext e9
  have sP9 := (sP7.ext e8).ext e9
  generalize h8.set b8 ⟨[i64 (newOut P).1.blocks, us, ud, i64 (newOut P).2], 4⟩ = h9 at e9 g8 g79 E9 fM9 sX9 sP9 ⊢
  by_cases c0 : (packageOut P Q).2 = 0
  rotate_left
  · simp -implicitDefEqProofs only [go_sem, c0, ldc_get g8, k1, k2]
    refine AC_of (specMachineNew_ac sP9 (by omega)) ?_
    rintro _ h10 - ⟨e10, cN, rfl, FN⟩
    obtain ⟨ws, wd, rfl, -⟩ := machO_f.1 FN
    refine ⟨e10.2, ?_⟩
    simp -implicitDefEqProofs only [go_sem, k1, k2]
  obtain ⟨iA, iB, hAB, hpk⟩ := made_of c0
  have hnew : newOut P = (machNew P, 0) := by unfold newOut; rw [if_neg (by omega), if_pos iA]
  rw [hnew] at g8 fM9
  rw [hpk] at g79 sX9
  obtain ⟨L, hL⟩ : ∃ L, L = pkgSteps P Q := ⟨_, rfl⟩
  have hLc : codeOf L P.length = 0 := by rw [hL]; exact pkgSteps_code iA iB hAB
  have hLa : applyB P L = Q := by rw [hL]; exact pkgSteps_apply iA iB hAB
  have hL9 : L.length ≤ 9 := by rw [hL]; exact pkgSteps_len iA
  have hL1 : 1 ≤ L.length := by rw [hL]; unfold pkgSteps; simp
  obtain ⟨D, hD⟩ : ∃ D, D = shaL Q.flatten := ⟨_, rfl⟩
  have hD32 : D.length = 32 := by rw [hD]; exact shaL_length _
  simp only at g79 sX9 g8
  rw [← hD, c0] at g79
  rw [← hL] at sX9
  simp -implicitDefEqProofs only [go_sem, c0, hnew, ldc_get g8, k1, k2]
  obtain ⟨kh, ⟨kh0, kh1, -⟩, pk⟩ := lwAt_pc (h := h9) (at' := 0) (most := 24) (B.ext E9) (by omega) (by omega) (in64_small (by omega))
  have kh2 := kh1 (by omega)
  obtain ⟨hold, hh⟩ : ∃ hold : Nat, 1 + kh = hold := ⟨(1 + kh).toNat, by omega⟩
  have hh1 : 1 ≤ hold ∧ hold ≤ 24 := by omega
  refine pk.use ?_
  refine opsw_abs (fun f => f 1 = .slice a2 l2.length c2 ∧ f 5 = vP ∧ f 7 = ptr b7 0 ∧ f 8 = ptr b8 0 ∧ f 51 = i64 kh) ⟨by simp -implicitDefEqProofs only [go_sem, k1, k2], by simp -implicitDefEqProofs only [go_sem, k1, k2], by simp -implicitDefEqProofs only [go_sem, k1, k2], by simp -implicitDefEqProofs only [go_sem, k1, k2], by simp -implicitDefEqProofs only [go_sem, k1, k2]⟩ ?_
  rintro F ⟨f1, f5, f7, f8, f51⟩
  have wh : IntKind.i64.wrap (1 + kh) = (hold : Int) := by rw [wrap_i64 (by omega) (by omega)]; exact hh
  simp -implicitDefEqProofs only [go_sem, f1, f5, f7, f8, f51, wh, ldc_get g8, k1, k2]
  obtain ⟨d0, ar0, -⟩ := new_dev iA
  obtain ⟨M0, hM0⟩ : ∃ M0, M0 = machNew P := ⟨_, rfl⟩
  rw [← hM0] at d0 ar0 fM9 ⊢
  have hMb : M0.blocks = (P.length : Int) := by rw [hM0]; rfl
  obtain ⟨S1, hS1⟩ : ∃ S1 : UState, S1 = { idle0 with held := runI 0 hold } := ⟨_, rfl⟩
  have S1ok : stateOk S1 := by rw [hS1]; exact hold_ok idle0_ok rfl hh1.2
  have hd0 : Does M0 idle0 ⟨9, (hold : Int), 0, [], ⟨0, 0, 0, []⟩⟩ (saveActs M0 S1, 0) := .inr (.inr (.inr (.inl ⟨rfl, rfl, rfl, by simp only; omega, rfl, by rw [hS1]; simp⟩)))
  have hc0 : cmdOk ⟨9, (hold : Int), 0, [], ⟨0, 0, 0, []⟩⟩ := by
    unfold cmdOk
    simp only [if_neg (show ¬ ((9 : Int) = 1) by decide), if_neg (show ¬ ((9 : Int) = 2) by decide), if_true]
    simp; omega
  refine AC_of (implDo_ac (c := ⟨9, (hold : Int), 0, [], ⟨0, 0, 0, []⟩⟩) (tb.ext E9) (mach_r.2 ⟨us, ud, rfl, fM9⟩) d0.fin1 d0.stM (d0.right (.inl (by decide))) hc0 (d0.genOk (by omega)) hd0) ?_
  obtain ⟨d1, ar1, -⟩ := d0.save (m0 := M0) rfl S1ok (by omega)
  obtain ⟨M1, hM1⟩ : ∃ M1 : UMach, M1 = ⟨M0.blocks, actsDo M0.flash (saveActs M0 S1)⟩ := ⟨_, rfl⟩
  have hM1b : M1.blocks = M0.blocks := by rw [hM1]
  have hM1f : actsDo M0.flash (saveActs M0 S1) = M1.flash := by rw [hM1]
  rw [← hM1] at d1 ar1
  rintro _ h10 - ⟨e10, us1, ud1, rfl, f10⟩
  simp only at f10 ⊢
  rw [hM1f] at f10
  rw [← hM1b]
  have q1 := f10.1.sl.one
  have q2 := f10.2.1.sl.one
  simp -implicitDefEqProofs only [go_sem, q1, q2, k1, k2]
  intro b10 hb10 n10
  have e11 := (Ext.refl h10).set n10 ⟨[i64 M1.blocks, us1, ud1, str [], nils, i64 0], 6⟩
  have z710 : b7 ≠ b10 := fun e => by rw [← e, e10.2.g b7 _ g79] at n10; cases n10
  have g10 : (h10.set b10 ⟨[i64 M1.blocks, us1, ud1, str [], nils, i64 0], 6⟩).get b10 = some ⟨[i64 M1.blocks, us1, ud1, str [], nils, i64 0], 6⟩ := H.set_get_same _ _ _
  have J7 := e10.2.g b7 _ g79
  have G7 := e11.2.g b7 _ J7
  have E11 := (E9.trans e10).trans e11
  have s11 := (sX9.ext e10).ext e11
  have p11 := (sP9.ext e10).ext e11
  have m11 := f10.r.ext e11
  have ll : (L.map UStep.cells).length = L.length := by simp
  obtain ⟨aX, cX, rfl⟩ := sX9.shape
  rw [ll] at s11 G7 J7
  simp -implicitDefEqProofs only [go_sem, hb10, q1, q2, eq_false z710, f1, f5, f7, f8, ldc_get J7, ll, k1, k2]
  intro b12 hb12 n12 c12 hc12
  have n12' := e11.none n12
  have e12 := (Ext.refl (h10.set b10 ⟨[i64 M1.blocks, us1, ud1, str [], nils, i64 0], 6⟩)).set n12 ⟨u8s D, c12⟩
  have g12 : ((h10.set b10 ⟨[i64 M1.blocks, us1, ud1, str [], nils, i64 0], 6⟩).set b12 ⟨u8s D, c12⟩).get b12 = some ⟨u8s D, c12⟩ := H.set_get_same _ _ _
  have hb12' : ((h10.set b10 ⟨[i64 M1.blocks, us1, ud1, str [], nils, i64 0], 6⟩).set b12 ⟨u8s D, c12⟩).base ≤ b12 := hb12
  generalize (h10.set b10 ⟨[i64 M1.blocks, us1, ud1, str [], nils, i64 0], 6⟩).set b12 ⟨u8s D, c12⟩ = h12 at e12 g12 hb12' ⊢
  generalize h10.set b10 ⟨[i64 M1.blocks, us1, ud1, str [], nils, i64 0], 6⟩ = h11 at e11 g10 G7 E11 s11 p11 m11 n12 e12 ⊢
  have E12 := E11.trans e12
  have B12 := B.ext E12
  refine opsw_abs (fun f => f 1 = .slice a2 l2.length c2 ∧ f 5 = vP ∧ f 7 = ptr b7 0 ∧ f 9 = i64 hold ∧ f 10 = ptr b10 0 ∧ f 11 = i64 L.length ∧ f 65 = sl b12 0 D.length c12) ⟨by simp -implicitDefEqProofs only [go_sem, f1, k1, k2], by simp -implicitDefEqProofs only [go_sem, f5, k1, k2], by simp -implicitDefEqProofs only [go_sem, f7, k1, k2], by simp -implicitDefEqProofs only [go_sem, k1, k2], by simp -implicitDefEqProofs only [go_sem, k1, k2], by simp -implicitDefEqProofs only [go_sem, k1, k2], by simp -implicitDefEqProofs only [go_sem, k1, k2]⟩ ?_
  clear f1 f5 f7 f8 f51 F
  rintro F ⟨f1, f5, f7, f9, f10', f11, f65⟩
  obtain ⟨ki, ⟨ki0, ki1, -⟩, pki⟩ := lwAt_pc (h := h12) (at' := 2) (most := 32) B12 (by omega) (by omega) (in64_small (by omega))
  obtain ⟨kj, ⟨kj0, kj1, -⟩, pkj⟩ := lwAt_pc (h := h12) (at' := 3) (most := 255) B12 (by omega) (by omega) (in64_small (by omega))
  have ki2 := ki1 (by omega)
  have kj2 := kj1 (by omega)
  obtain ⟨i, rfl⟩ : ∃ i : Nat, ki = i := ⟨ki.toNat, by omega⟩
  have hiD : i < D.length := by omega
  have w8 : IntKind.u8.wrap (1 + kj) = ((UInt8.ofNat (1 + kj).toNat).toNat : Int) := by
    rw [wrap_u8 (by omega) (by omega)]
    simp
    omega
  have x1' : ldc h12 b12 (i * 1) 1 = some [.int .u8 (D[i].toNat : Int)] := by
    rw [ldc_get g12, if_pos (by simp [u8s]; omega)]
    congr 1
    rw [Nat.mul_one, List.drop_eq_getElem_cons (by simpa [u8s] using hiD)]
    simp [u8s]
  have x2' : ∀ z : UInt8, stc h12 b12 (i * 1) [.int .u8 (z.toNat : Int)] 1 = some (h12.set b12 ⟨u8s (D.set i z), c12⟩) := by
    intro z
    rw [stc_get g12, if_pos ⟨rfl, by simp [u8s]; omega, rfl⟩, u8s, Nat.mul_one, splice_set (fun b : UInt8 => (.int .u8 b.toNat : Value)) _ _ _ (by omega)]
    rfl
  have x3' := xor_u8 D[i] (UInt8.ofNat (1 + kj).toNat)
  obtain ⟨O, hO⟩ : ∃ O, O = D.set i (D[i] ^^^ UInt8.ofNat (1 + kj).toNat) := ⟨_, rfl⟩
  have hOl : O.length = D.length := by rw [hO, List.length_set]
  have hOD : O ≠ D := fun q => by
    have h1 : O[i]? = D[i]? := by rw [q]
    rw [hO, List.getElem?_set_self hiD, List.getElem?_eq_getElem hiD] at h1
    exact xor_other D[i] (n := (1 + kj).toNat) (by omega) (by omega) (Option.some.inj h1).symm
  simp -implicitDefEqProofs only [opsw_cons, opsw_nil, gow_n, wo_p, wv_mv, ev_t, withO_some, f65, thenQ_nor]
  refine wpc_cut (fun f h' => f 1 = .slice a2 l2.length c2 ∧ f 5 = vP ∧ f 7 = ptr b7 0 ∧ f 9 = i64 hold ∧ f 10 = ptr b10 0 ∧ f 11 = i64 L.length ∧ f 12 = sl b12 0 D.length c12 ∧ h' = h12.set b12 ⟨u8s O, c12⟩) ?_ ?_
  · simp -implicitDefEqProofs only [go_sem, f1, f5, f7, f9, f10', f11, f65, k1, k2]
    refine pki.use ?_
    simp -implicitDefEqProofs only [go_sem, x1', Int.ofNat_lt, Int.natCast_nonneg, hiD, Int.toNat_natCast, k1, k2]
    refine ⟨?_, ?_⟩
    · refine pkj.use ?_
      simp -implicitDefEqProofs only [go_sem, wrap_i64 (show -(9223372036854775808 : Int) ≤ (1 + kj) by omega) (show (1 + kj) < 9223372036854775808 by omega), w8, x3', x2', x1', Int.ofNat_lt, Int.natCast_nonneg, hiD, Int.toNat_natCast, hb12', f1, f5, f7, f9, f10', f11, hO, k1, k2]
    · refine pkj.use ?_
      simp -implicitDefEqProofs only [go_sem, wrap_i64 (show -(9223372036854775808 : Int) ≤ (1 + kj) by omega) (show (1 + kj) < 9223372036854775808 by omega), w8, x3', x2', x1', Int.ofNat_lt, Int.natCast_nonneg, hiD, Int.toNat_natCast, hb12', f1, f5, f7, f9, f10', f11, hO, k1, k2]
  clear f1 f5 f7 f9 f10' f11 f65 F x1' x2' pki pkj
  rintro F h13 ⟨f1, f5, f7, f9, f10', f11, f12, hh13⟩
  have e13 : Ext h11 h13 := by rw [hh13]; exact e12.set' n12 _
  have g13 : h13.get b12 = some ⟨u8s O, c12⟩ := by rw [hh13]; exact H.set_get_same _ _ _
  clear hh13
  replace G7 := e13.2.g b7 _ G7
  have G10 := e13.2.g b10 _ g10
  have E13 := E11.trans e13
  have s13 := s11.ext e13
  have p13 := p11.ext e13
  have m13 := m11.ext e13
  have B13 := B.ext E13
  clear s11 p11 m11 g10 e13 e12 g12 n12 hb12' E12 B12 e11 E11 n12'
  have hS1p : S1.phase = 1 := by rw [hS1]; rfl
  have hS1h : S1.held = runI 0 hold := by rw [hS1]
  obtain ⟨c1, hc1⟩ : ∃ c1 : UCmd, c1 = ⟨1, L.length, 4, O, ⟨0, 0, 0, []⟩⟩ := ⟨_, rfl⟩
  have hc1a : 1 ≤ c1.a ∧ c1.a ≤ 20 := by rw [hc1]; simp only; omega
  have hc1b : 0 ≤ c1.b ∧ c1.b ≤ 4 := by rw [hc1]; simp only; omega
  have hc1d : c1.digest.length = 32 := by rw [hc1]; simp only; omega
  have hc1n : (c1.a + c1.b).toNat = L.length + 4 := by rw [hc1]; simp only; omega
  have hc1k : cmdOk c1 := by
    rw [hc1]
    unfold cmdOk
    simp only [if_true, if_neg (show ¬ ((1 : Int) = 2) by decide)]
    refine ⟨by decide, ⟨by omega, by omega⟩, by decide, by omega, trivial, trivial, trivial, trivial⟩
  have hd1 : Does M1 S1 c1 (beginOut M1 S1 c1 hold) := .inl ⟨by rw [hc1], hS1p, hc1a, hc1b, hc1d, hold, hh1.2, hS1h, rfl⟩
  have lO : (u8s O).length = D.length := by simp [u8s, hOl]
  have g10c := ldc_get G10
  simp -implicitDefEqProofs only [go_sem, f10', f11, f12, g10c, ldc_get g13, show ¬ (D.length = 0) by omega, lO, take_len lO, bytesOf_u8s, k1, k2]
  have hcc : c1.cells.toArray = #[i64 1, i64 L.length, i64 4, str O, i64 0, i64 0, i64 0, str []] := by rw [hc1]
  have hAC := implDo_ac (c := c1) (tb.ext E13) (mach_r.2 ⟨us1, ud1, rfl, m13⟩) d1.fin1 d1.stM (d1.right (.inl (by omega))) hc1k (d1.genOk (by omega)) hd1
  rw [hcc] at hAC
  refine AC_of hAC ?_
  rintro _ h14 - ⟨e14, us2, ud2, rfl, f14⟩
  have q1 := f14.1.sl.one
  have q2 := f14.2.1.sl.one
  simp -implicitDefEqProofs only [go_sem, q1, q2, k1, k2]
  intro b13 hb13 n13
  have G10' := e14.2.g b10 _ G10
  have z1013 : b10 ≠ b13 := fun e => by rw [← e, G10'] at n13; cases n13
  have e15 := (Ext.refl h14).set n13 ⟨[i64 M1.blocks, us2, ud2, str [], nils, i64 (beginOut M1 S1 c1 hold).2], 6⟩
  have n13' := e14.none n13
  by_cases h24 : hold + (L.length + 4) ≤ 24
  rotate_left
  · have hbo : beginOut M1 S1 c1 hold = ([], 11) := by unfold beginOut; rw [hc1n, if_neg h24]
    rw [hbo] at f14 e15 ⊢
    have f14' : FlF h13 h14 M1.flash us2 ud2 := f14
    simp -implicitDefEqProofs only [go_sem, hb13, q1, q2, eq_false z1013, ldc_get G10', f5, f7, f9, f10', f11, wrap_i64 (show -(9223372036854775808 : Int) ≤ ((hold : Int) + (L.length : Int)) by omega) (show ((hold : Int) + (L.length : Int)) < 9223372036854775808 by omega), wrap_i64 (show -(9223372036854775808 : Int) ≤ ((hold : Int) + (L.length : Int) + 4) by omega) (show ((hold : Int) + (L.length : Int) + 4) < 9223372036854775808 by omega), show (24 : Int) < (hold : Int) + (L.length : Int) + 4 by omega, k1, k2]
    have g15 : (h14.set b13 ⟨[i64 M1.blocks, us2, ud2, str [], nils, i64 11], 6⟩).get b13 = some ⟨[i64 M1.blocks, us2, ud2, str [], nils, i64 11], 6⟩ := H.set_get_same _ _ _
    have m15 := f14'.r.ext e15
    have p15 := (p13.ext e14).ext e15
    generalize h14.set b13 ⟨[i64 M1.blocks, us2, ud2, str [], nils, i64 11], 6⟩ = h15 at e15 g15 m15 p15 ⊢
    refine AC_of (implViewOf_ac (mach_r.2 ⟨us2, ud2, rfl, m15⟩) d1.fin1) ?_
    rintro _ h16 - ⟨e16, cV, rfl, FV⟩
    rw [d1.view (by omega)] at FV
    obtain ⟨vV, rfl, fV⟩ := img_f.1 FV
    have i1 := fV.sl.one
    have i2 := fV.sl.vcl
    have g16 := e16.2.g b13 _ g15
    simp -implicitDefEqProofs only [go_sem, i1, i2, f5, k1, k2]
    refine (lwTexts_pc fV.sl (p15.ext e16) (show P.length ≤ 1048576 by omega)).use ?_
    simp -implicitDefEqProofs only [go_sem, ldc_get g16, q1, q2, k1, k2]
    refine AC_of (implStateOf_ac (mach_r.2 ⟨us2, ud2, rfl, m15.ext e16⟩) d1.fin1) ?_
    rintro _ h17 - ⟨e17, cS, rfl, FS⟩
    have hso : stateOfOut M1 = (S1, 0) := by unfold stateOfOut; rw [d1.stM]
    rw [hso] at FS
    obtain ⟨wh', wm', rfl, -⟩ := sto_r.1 FS.r
    simp -implicitDefEqProofs only [go_sem, hS1p, k1, k2]
  have hN24 : hold + (c1.a + c1.b).toNat ≤ 24 := by rw [hc1n]; exact h24
  obtain ⟨hbo, d2, rc2, -⟩ := d1.begin (c := c1) (x := hold) (by omega) hS1h hc1a hc1b hc1d hN24
  obtain ⟨S2, hS2⟩ : ∃ S2, S2 = beginS S1 c1 (runI hold (c1.a + c1.b).toNat) := ⟨_, rfl⟩
  obtain ⟨M2, hM2⟩ : ∃ M2, M2 = after M1 (beginOut M1 S1 c1 hold).1 := ⟨_, rfl⟩
  have hM2b : M2.blocks = M1.blocks := by rw [hM2]; rfl
  have hM2f : actsDo M1.flash (beginOut M1 S1 c1 hold).1 = M2.flash := by rw [hM2]; rfl
  have hb2 : (beginOut M1 S1 c1 hold).2 = 0 := by rw [hbo]
  rw [← hS2, ← hM2] at d2 rc2
  rw [hM2f] at f14
  rw [hb2] at e15
  rw [hb2]
  have hS2p : S2.phase = 2 := by rw [hS2]; rfl
  have hS2n : S2.need = (L.length : Int) := by rw [hS2, hc1]; rfl
  have hS2s : S2.stash = 4 := by rw [hS2, hc1]; rfl
  have hS2m : S2.mine.length = L.length + 4 := by rw [hS2]; show (runI hold (c1.a + c1.b).toNat).length = _; rw [runI_len, hc1n]
  have hS2h : S2.held = runI 0 hold := by rw [hS2]; exact hS1h
  have hS2d : S2.digest = O := by rw [hS2, hc1]; rfl
  have hS2t : S2.stash.toNat = 4 := by rw [hS2s]; rfl
  have g15 : (h14.set b13 ⟨[i64 M1.blocks, us2, ud2, str [], nils, i64 0], 6⟩).get b13 = some ⟨[i64 M1.blocks, us2, ud2, str [], nils, i64 0], 6⟩ := H.set_get_same _ _ _
  have hb15 : (h14.set b13 ⟨[i64 M1.blocks, us2, ud2, str [], nils, i64 0], 6⟩).base ≤ b13 := hb13
  have m15 := f14.r.ext e15
  have B14 := B13.ext e14
  have p14 := p13.ext e14
  have s14 := s13.ext e14
  have G714 := e14.2.g b7 _ G7
  have E14 := E13.trans e14
  simp -implicitDefEqProofs only [go_sem, hb13, q1, q2, eq_false z1013, ldc_get G10', f1, f5, f7, f9, f10', f11, wrap_i64 (show -(9223372036854775808 : Int) ≤ ((hold : Int) + (L.length : Int)) by omega) (show ((hold : Int) + (L.length : Int)) < 9223372036854775808 by omega), wrap_i64 (show -(9223372036854775808 : Int) ≤ ((hold : Int) + (L.length : Int) + 4) by omega) (show ((hold : Int) + (L.length : Int) + 4) < 9223372036854775808 by omega), show ¬ (24 : Int) < (hold : Int) + (L.length : Int) + 4 by omega, k1, k2]
  generalize h14.set b13 ⟨[i64 M1.blocks, us2, ud2, str [], nils, i64 0], 6⟩ = h15 at e15 g15 m15 hb15 ⊢
  rw [← hM2b] at g15
  obtain ⟨kf, ⟨kf0, kf1, -⟩, pkf⟩ := lwAt_pc (h := h15) (at' := 1) (most := 2) (B14.ext e15) (by omega) (by omega) (in64_small (by omega))
  refine pkf.use ?_
  refine opsw_abs (fun f => f 5 = vP ∧ f 7 = ptr b7 0 ∧ f 9 = i64 hold ∧ f 13 = ptr b13 0 ∧ f 126 = i64 kf) ⟨by simp -implicitDefEqProofs only [go_sem, f5, k1, k2], by simp -implicitDefEqProofs only [go_sem, f7, k1, k2], by simp -implicitDefEqProofs only [go_sem, f9, k1, k2], by simp -implicitDefEqProofs only [go_sem, k1, k2], by simp -implicitDefEqProofs only [go_sem, k1, k2]⟩ ?_
  clear f1 f5 f7 f9 f10' f11 f12 F
  rintro F ⟨f5, f7, f9, f13, f126⟩
  have hLs : ∀ x ∈ L, x.ok ∧ stepOk x P.length ∧ x.data.length ≤ 8 := by rw [hL]; exact made_steps iA iB hAB
  have hPb := iA.1
  obtain ⟨T, hT⟩ : ∃ T : Nat, T = if kf = 0 then L.length - 1 else L.length := ⟨_, rfl⟩
  have hTL : T ≤ L.length := by rw [hT]; split <;> omega
  simp -implicitDefEqProofs only [go_sem, f5, f7, f9, f13, f126, k1, k2]
  refine loopW_of (fun m f h' => ∃ (k : Nat) (M : UMach) (us ud : Value), m + k = T ∧ f 5 = vP ∧ f 7 = ptr b7 0 ∧ f 9 = i64 hold ∧ f 13 = ptr b13 0 ∧ f 14 = .bool (decide (kf = 0)) ∧ f 15 = i64 k ∧ Ext h14 h' ∧ h'.get b13 = some ⟨[i64 M.blocks, us, ud, str [], nils, i64 0], 6⟩ ∧ FlR h' M.flash us ud ∧ Dev M P S2 3 ∧ Recs M S2 (L.take k)) T
    ⟨0, M2, us2, ud2, by omega, by simp -implicitDefEqProofs only [go_sem, f5, k1, k2], by simp -implicitDefEqProofs only [go_sem, f7, k1, k2], by simp -implicitDefEqProofs only [go_sem, f9, k1, k2], by simp -implicitDefEqProofs only [go_sem, f13, k1, k2], by simp -implicitDefEqProofs only [go_sem, k1, k2], by simp -implicitDefEqProofs only [go_sem, k1, k2]; rfl, e15, g15, m15, d2, by rw [List.take_zero]; exact rc2⟩ ?_
  rintro m f h' ⟨k, M, us3, ud3, hm, f5, f7, f9, f13, f14', f15, eh, gh, mh, dM, rM⟩
  have G7h := eh.2.g b7 _ G714
  have hbh : h'.base ≤ b13 := by rw [eh.1]; exact hb13
  have sh := s14.ext eh
  have ph := p14.ext eh
  obtain ⟨_, _, bX, oX, eX, hcX, rX2, rX3⟩ := sh
  rw [ll] at eX rX2
  simp only [Value.slice.injEq, true_and] at eX
  obtain ⟨rfl, rfl⟩ := eX
  skip
  have hsub : IntKind.i64.wrap ((L.length : Int) - 1) = (L.length : Int) - 1 := wrap_i64 (by omega) (by omega)
  refine wpc_cut (fun f2 h2 => h2 = h' ∧ k < T ∧ f2 5 = vP ∧ f2 7 = ptr b7 0 ∧ f2 9 = i64 hold ∧ f2 13 = ptr b13 0 ∧ f2 14 = .bool (decide (kf = 0)) ∧ f2 15 = i64 k) ?_ ?_
  · by_cases hk : k < T
    · by_cases hf : kf = 0
      · rw [if_pos hf] at hT
        simp -implicitDefEqProofs only [go_sem, show (k : Int) < (L.length : Int) by omega, hsub, hf, show ((k : Int) = (L.length : Int) - 1) = False from eq_false (by omega), k1, k2, f5, f7, f9, f13, f14', f15, ldc_get G7h, ll]
        exact hk
      · rw [if_neg hf] at hT
        simp -implicitDefEqProofs only [go_sem, show (k : Int) < (L.length : Int) by omega, hsub, hf, k1, k2, f5, f7, f9, f13, f14', f15, ldc_get G7h, ll]
        exact hk
    · have hkT : k = T := by omega
      have hMP : M.blocks = (P.length : Int) := dM.blocks
      have hlog : logOf M S2 = L.take k := rM.log (fun x hx => ⟨(hLs x (List.mem_of_mem_take hx)).1, stepOk_wide (hLs x (List.mem_of_mem_take hx)).2.1 (by omega)⟩) (by rw [List.length_take]; omega) (by rw [List.length_take]; omega)
      obtain ⟨e, he, hec⟩ : ∃ e : Int, finOut M S2 (logOf M S2) = (saveActs M (idleOf S2), e) ∧ ((kf = 0 ∧ e = 4) ∨ (¬ kf = 0 ∧ e = 5)) := by
        by_cases hf : kf = 0
        · rw [if_pos hf] at hT
          refine ⟨4, ?_, .inl ⟨hf, rfl⟩⟩
          unfold finOut
          rw [if_pos (by rw [hlog, hS2n, List.length_take]; omega)]
        · rw [if_neg hf] at hT
          refine ⟨5, ?_, .inr ⟨hf, rfl⟩⟩
          have hkk : L.take k = L := List.take_of_length_le (by omega)
          unfold finOut
          rw [hlog, hkk, if_neg (by rw [hS2n]; simp), hMP, if_neg (by rw [hLc]; simp), dM.base, hLa, ← hD, hS2d, if_pos (fun q => hOD q.symm)]
      have hdo : Does M S2 ⟨3, 0, 0, [], ⟨0, 0, 0, []⟩⟩ (saveActs M (idleOf S2), e) := .inr (.inr (.inl ⟨rfl, hS2p, he.symm⟩))
      have hck : cmdOk ⟨3, 0, 0, [], ⟨0, 0, 0, []⟩⟩ := by decide
      obtain ⟨d5, -, -⟩ := dM.save (m0 := M) rfl (show stateOk (idleOf S2) from ok_idle dM.st) (by omega)
      obtain ⟨M5, hM5⟩ : ∃ M5 : UMach, M5 = ⟨M.blocks, actsDo M.flash (saveActs M (idleOf S2))⟩ := ⟨_, rfl⟩
      have hM5b : M5.blocks = M.blocks := by rw [hM5]
      have hM5f : actsDo M.flash (saveActs M (idleOf S2)) = M5.flash := by rw [hM5]
      rw [← hM5] at d5
      have mo1 := mh.1.one
      have mo2 := mh.2.one
      have hso : stateOfOut M5 = (idleOf S2, 0) := by unfold stateOfOut; rw [d5.stM]
      have hih : (idleOf S2).held = runI 0 hold := hS2h
      have him : (idleOf S2).mine = [] := rfl
      rcases hec with ⟨hf, hfe⟩ | ⟨hf, hfe⟩
      rw [if_pos hf] at hT
      simp -implicitDefEqProofs only [go_sem, show (k : Int) < (L.length : Int) by omega, hsub, hf, show ((k : Int) = (L.length : Int) - 1) = True from eq_true (by omega), ldc_get gh, k1, k2, f5, f7, f9, f13, f14', f15, ldc_get G7h, ll]
      rotate_left
      rw [if_neg hf] at hT
      simp -implicitDefEqProofs only [go_sem, show ¬ (k : Int) < (L.length : Int) by omega, hsub, hf, ldc_get gh, k1, k2, f5, f7, f9, f13, f14', f15, ldc_get G7h, ll]
      all_goals
        refine AC_of (implDo_ac (c := ⟨3, 0, 0, [], ⟨0, 0, 0, []⟩⟩) (tb.ext (E14.trans eh)) (mach_r.2 ⟨us3, ud3, rfl, mh⟩) dM.fin1 dM.stM (dM.right (.inl (by omega))) hck (dM.genOk (by omega)) hdo) ?_
        rintro _ hA - ⟨eA, us5, ud5, rfl, f5'⟩
        simp only at f5' ⊢
        rw [hM5f] at f5'
        rw [← hM5b]
        have q1 := f5'.1.sl.one
        have q2 := f5'.2.1.sl.one
        have pA := (p14.ext eh).ext eA
        refine opsw_abs (fun f => f 5 = vP ∧ f 9 = i64 hold ∧ f 14 = .bool (decide (kf = 0)) ∧ f 174 = .agg #[i64 M5.blocks, us5, ud5, str [], nils, i64 e]) ⟨by simp -implicitDefEqProofs only [go_sem, k1, k2, f5, f7, f9, f13, f14', f15, ldc_get G7h, ll], by simp -implicitDefEqProofs only [go_sem, k1, k2, f5, f7, f9, f13, f14', f15, ldc_get G7h, ll], by simp -implicitDefEqProofs only [go_sem, k1, k2, f5, f7, f9, f13, f14', f15, ldc_get G7h, ll], by simp -implicitDefEqProofs only [go_sem, k1, k2, f5, f7, f9, f13, f14', f15, ldc_get G7h, ll]⟩ ?_
        clear f5 f7 f9 f13 f14' f15
        rintro F ⟨f5, f9, f14', f174⟩
        skip
        skip
        simp -implicitDefEqProofs only [go_sem, q1, q2, k1, k2, f5, f9, f14', ldc_get G7h, ll, f174]
        intro b16 hb16 n16
        have eB := (Ext.refl hA).set n16 ⟨[i64 M5.blocks, us5, ud5, str [], nils, i64 e], 6⟩
        have gB : (hA.set b16 ⟨[i64 M5.blocks, us5, ud5, str [], nils, i64 e], 6⟩).get b16 = some ⟨[i64 M5.blocks, us5, ud5, str [], nils, i64 e], 6⟩ := H.set_get_same _ _ _
        have mB := f5'.r.ext eB
        have pB := pA.ext eB
        simp -implicitDefEqProofs only [go_sem, hb16, q1, q2, k1, k2, f5, f9, f14', ldc_get G7h, ll, f174]
        generalize hA.set b16 ⟨[i64 M5.blocks, us5, ud5, str [], nils, i64 e], 6⟩ = hB at eB gB mB pB ⊢
        refine AC_of (implStateOf_ac (mach_r.2 ⟨us5, ud5, rfl, mB⟩) d5.fin1) ?_
        rintro _ hC - ⟨eC, cS, rfl, FS⟩
        rw [hso] at FS
        obtain ⟨wh', wm', rfl, sh5, sm5⟩ := sto_r.1 FS.r
        rw [hih] at sh5
        have g16 := eC.2.g b16 _ gB
        have mC := mB.ext eC
        have pC := pB.ext eC
        have t1 := sh5.one
        have t2 := sm5.one
        have t3 := sh5.vcl
        have t4 := sm5.vcl
        simp -implicitDefEqProofs only [go_sem, t1, t2, k1, k2, f5, f9, f14', ldc_get G7h, ll, f174]
        intro b17 hb17 n17
        have z1617 : b16 ≠ b17 := fun e => by rw [← e, g16] at n17; cases n17
        have eD := (Ext.refl hC).set n17 ⟨[i64 1, i64 (idleOf S2).tries, i64 (idleOf S2).need, i64 (idleOf S2).stash, i64 (idleOf S2).done, str (idleOf S2).digest, wh', wm'], 8⟩
        have g17 : (hC.set b17 ⟨[i64 1, i64 (idleOf S2).tries, i64 (idleOf S2).need, i64 (idleOf S2).stash, i64 (idleOf S2).done, str (idleOf S2).digest, wh', wm'], 8⟩).get b17 = some ⟨[i64 1, i64 (idleOf S2).tries, i64 (idleOf S2).need, i64 (idleOf S2).stash, i64 (idleOf S2).done, str (idleOf S2).digest, wh', wm'], 8⟩ := H.set_get_same _ _ _
        have g16D := eD.2.g b16 _ g16
        have mD := mC.ext eD
        have pD := pC.ext eD
        have shD := sh5.ext eD
        have smD := sm5.ext eD
        simp -implicitDefEqProofs only [go_sem, hb17, t1, t2, eq_false z1617, ldc_get g16, hf, hfe, show (idleOf S2).phase = 1 from rfl, k1, k2, f5, f9, f14', ldc_get G7h, ll, f174]
        generalize hC.set b17 ⟨[i64 1, i64 (idleOf S2).tries, i64 (idleOf S2).need, i64 (idleOf S2).stash, i64 (idleOf S2).done, str (idleOf S2).digest, wh', wm'], 8⟩ = hD' at eD g17 g16D mD pD shD smD ⊢
        refine AC_of (implViewOf_ac (mach_r.2 ⟨us5, ud5, rfl, mD⟩) d5.fin1) ?_
        rintro _ hE - ⟨eE, cV, rfl, FV⟩
        rw [d5.view (show (1 : Int) ≤ 2 by decide)] at FV
        obtain ⟨vV, rfl, fV⟩ := img_f.1 FV
        have i1 := fV.sl.one
        have i2 := fV.sl.vcl
        have g17E := eE.2.g b17 _ g17
        simp -implicitDefEqProofs only [go_sem, i1, i2, k1, k2, f5, f9, f14', ldc_get G7h, ll, f174]
        refine (lwTexts_pc fV.sl (pD.ext eE) (show P.length ≤ 1048576 by omega)).use ?_
        simp -implicitDefEqProofs only [go_sem, ldc_get g17E, t1, t2, t3, t4, k1, k2, f5, f9, f14', ldc_get G7h, ll, f174]
        refine AC_of (implFreeOf_ac (x := hold) hh1.2 (shD.ext eE) (by have := smD.ext eE; rwa [him] at this)) ?_
        rintro r hF - ⟨eF, oF⟩
        obtain ⟨aF, cF, rfl⟩ := oF.shape
        have lF : (ints (runI hold (24 - hold))).length = 24 - hold := by rw [List.length_map, runI_len]
        simp -implicitDefEqProofs only [go_sem, lF, wrap_i64 (show -(9223372036854775808 : Int) ≤ (24 - (hold : Int)) by omega) (show (24 - (hold : Int)) < 9223372036854775808 by omega), show (((24 - hold : Nat) : Int) = 24 - (hold : Int)) = True from eq_true (by omega), k1, k2, f5, f9, f14', ldc_get G7h, ll, f174]
        skip
  rintro f2 h2 ⟨rfl, hk, r5, r7, r9, r13, r14, r15⟩
  have hkL : k < L.length := by omega
  obtain ⟨xo, xs, xd⟩ := hLs L[k] (List.getElem_mem hkL)
  have hMP : M.blocks = (P.length : Int) := dM.blocks
  have hlog : logOf M S2 = L.take k := rM.log (fun x hx => ⟨(hLs x (List.mem_of_mem_take hx)).1, stepOk_wide (hLs x (List.mem_of_mem_take hx)).2.1 (by omega)⟩) (by rw [List.length_take]; omega) (by rw [List.length_take]; omega)
  have hlen : (logOf M S2).length = k := by rw [hlog, List.length_take]; omega
  have hdo : Does M S2 ⟨2, 0, 0, [], L[k]⟩ (stepActs M S2 (logOf M S2).length L[k], 0) := .inr (.inl ⟨rfl, hS2p, by rw [hlen, hS2n]; omega, xo, xd, by rw [hlog, take_snoc hkL, hMP]; exact code_take hLc (by omega), rfl⟩)
  rw [hlen] at hdo
  have hck : cmdOk ⟨2, 0, 0, [], L[k]⟩ := by
    unfold cmdOk
    simp only [if_neg (show ¬ ((2 : Int) = 1) by decide), if_neg (show ¬ ((2 : Int) = 9) by decide), if_neg (show ¬ ((2 : Int) = 7) by decide), if_true]
    exact ⟨by decide, trivial, trivial, trivial, stepOk_wide xs (by omega)⟩
  have row := rX3 k L[k].cells (by rw [List.getElem?_map, List.getElem?_eq_getElem hkL]; rfl)
  have mo1 := mh.1.one
  have mo2 := mh.2.one
  skip
  skip
  simp -implicitDefEqProofs only [go_sem, ldc_get gh, rX2, row, Int.ofNat_lt, Int.natCast_nonneg, hkL, k1, k2, ldc_get G7h, ll, r5, r7, r9, r13, r14, r15]
  refine AC_of (implDo_ac (c := ⟨2, 0, 0, [], L[k]⟩) (tb.ext (E14.trans eh)) (mach_r.2 ⟨us3, ud3, rfl, mh⟩) dM.fin1 dM.stM (dM.right (.inl (by omega))) hck (dM.genOk (by omega)) hdo) ?_
  obtain ⟨d4, r4⟩ := dM.step (x := L[k]) rM (by rw [List.length_take]; omega) (by rw [List.length_take]; omega) xo (by rw [hMP]; exact xs)
  rw [List.length_take, Nat.min_eq_left (by omega : k ≤ L.length), take_snoc hkL] at r4
  rw [List.length_take, Nat.min_eq_left (by omega : k ≤ L.length)] at d4
  obtain ⟨M4, hM4⟩ : ∃ M4, M4 = after M (stepActs M S2 k L[k]) := ⟨_, rfl⟩
  have hM4b : M4.blocks = M.blocks := by rw [hM4]; rfl
  have hM4f : actsDo M.flash (stepActs M S2 k L[k]) = M4.flash := by rw [hM4]; rfl
  rw [← hM4] at d4 r4
  rintro _ h3' - ⟨e3', us4, ud4, rfl, f4⟩
  simp only at f4 ⊢
  rw [hM4f] at f4
  rw [← hM4b]
  have q1 := f4.1.sl.one
  have q2 := f4.2.1.sl.one
  have gh3 := e3'.2.g b13 _ gh
  have hbh3 : h3'.base ≤ b13 := by rw [e3'.1]; exact hbh
  refine ⟨e3'.2, ?_⟩
  have e4' := (eh.trans e3').set' n13 ⟨[i64 M4.blocks, us4, ud4, str [], nils, i64 0], 6⟩
  have g4' : (h3'.set b13 ⟨[i64 M4.blocks, us4, ud4, str [], nils, i64 0], 6⟩).get b13 = some ⟨[i64 M4.blocks, us4, ud4, str [], nils, i64 0], 6⟩ := H.set_get_same _ _ _
  have m4' := (FlF.set f4 gh ⟨[i64 M4.blocks, us4, ud4, str [], nils, i64 0], 6⟩).r
  simp -implicitDefEqProofs only [go_sem, stc_get gh3, hbh3, q1, q2, k1, k2, ldc_get G7h, ll, r5, r7, r9, r13, r14, r15]
  generalize h3'.set b13 ⟨[i64 M4.blocks, us4, ud4, str [], nils, i64 0], 6⟩ = h4' at e4' g4' m4' ⊢
  refine AC_of (implViewOf_ac (mach_r.2 ⟨us4, ud4, rfl, m4'⟩) d4.fin1) ?_
  rintro _ h5' - ⟨e5', cV, rfl, FV⟩
  rw [d4.view (by omega)] at FV
  obtain ⟨vV, rfl, fV⟩ := img_f.1 FV
  have i1 := fV.sl.one
  have i2 := fV.sl.vcl
  simp -implicitDefEqProofs only [go_sem, i1, i2, k1, k2, ldc_get G7h, ll, r5, r7, r9, r13, r14, r15]
  refine (lwTexts_pc fV.sl (p14.ext (e4'.trans e5')) (show P.length ≤ 1048576 by omega)).use ?_
  simp -implicitDefEqProofs only [go_sem, wrap_i64 (show -(9223372036854775808 : Int) ≤ ((k : Int) + 1) by omega) (show ((k : Int) + 1) < 9223372036854775808 by omega), k1, k2, ldc_get G7h, ll, r5, r7, r9, r13, r14, r15]
  exact ⟨m - 1, by omega, _, Ext.refl _, k + 1, M4, us4, ud4, by omega, rfl, e4'.trans e5', e5'.2.g b13 _ g4', m4'.ext e5', d4, r4⟩
theorem fnRefused_law (h : H) (tb : Tabs h) (args : List Value) (ha : okAs h [.one (.sl [.int .u8]), .one (.sl [.int .u8])] args) : AC Tryz.prog 4 args h fun r _ => r = .bool true := by
  obtain ⟨v, w, l1, l2, rfl, A, B⟩ := okAs_codes ha
  exact fnRefused_walk tb A B
section
open Go.ChangeShapes Go.WideShapes Go.ChangeAt Go.RowKit
theorem fnRefused_lifted (os : Os) (started : os.Started) (H' : Type) (enc : TypeId × Value → H') : ReturnsInHanded {} Tryz.checked os 4 .any (fun w args => (Rows.fnRefusedSpec.pre enc Tryz.prog Tryz.f4 [] false w args ∧ laidMetH Tryz.prog laidL w) ∧ sizedMet enc Tryz.prog Tryz.f4 (OpenSpec.ofChange Rows.fnRefusedSpec) false w args) (Rows.fnRefusedSpec.post enc Tryz.prog Tryz.f4 false true false false) :=
  law_row_laid (Ck := Tryz.checked) Tabs [.one (.sl [.int .u8]), .one (.sl [.int .u8])] (by kernel_rfl) started (by kernel_rfl) Tryz.func4
    (ChangeSpec.witness_shaped (enc := enc) (C := Tryz.checked) (os := os) (X := fun w _ => laidMetH Tryz.prog laidL w) false (World.doorLaid Tryz.prog 400 os) #[.slice none 0 0, .slice none 0 0] 8 rfl (World.shaped_of_RefB (by kernel_rfl) (by kernel_rfl)) (by kernel_rfl) (by kernel_rfl) (by kernel_rfl) (door_met os _))
    (by kernel_rfl) (by kernel_rfl) rfl (by kernel_rfl : Tryz.prog.underlying (Tryz.f4.resultTypes.getD 0 0) = some .bool) (by kernel_rfl)
    (fun ds gs hd hg => by
      rw [show Tryz.f4.params.toList.length = 2 by kernel_rfl] at hd
      match ds, hd, gs, hg with
      | [_, _], _, [_, _], _ => rfl)
    (by kernel_rfl) (fun W h => tabs_of h) fnRefused_law
theorem fnRefused_said : Rows.FnRefusedSaid :=
  OpenClaim.holds_of_wide 4 Tryz.f4 rfl rfl rfl rfl rfl rfl rfl ⟨rfl, rfl, rfl, rfl, rfl⟩ rfl rfl rfl rfl rfl (by kernel_rfl) Tryz.func4 (by kernel_rfl)
    (of_decide_eq_true (by kernel_rfl)) (by unfold Func.isWrapper; first | (rw [if_pos (by decide +kernel)]; kernel_rfl) | (rw [if_neg (by decide +kernel)]; exact ⟨rfl, rfl⟩))
    (fun os started H' enc _ => fnRefused_lifted os started H' enc)
theorem fnRefused_holds : Rows.FnRefusedCardSaid :=
  Claim7.holds_tied_plain_at .later [] [.data, .data] true (true, "68bc4b5e9496981d9c766f49fbb7ad9e96819613147a8f0d4dbbcb4254e8c4ec") false
    fnRefused_said (fun _ h => by cases h) (by kernel_rfl) (fun _ h => by cases h) fnRefused_row_tie rfl ⟨rfl, rfl⟩ (by kernel_rfl) rfl
    (fun f fn hf hfn => by
      obtain rfl : f = 4 := Option.some.inj ((show Tryz.prog.funcNamed "loop.example/g00668/laws.FnRefused" = some 4 by kernel_rfl).symm.trans hf) |>.symm
      obtain rfl : fn = Tryz.f4 := (Option.some.inj (Tryz.func4.symm.trans hfn)).symm
      exact ⟨by kernel_rfl, fun j t ht => by
        have hm : t ∈ Tryz.f4.params.toList := by simpa using Array.mem_of_getElem? ht
        have hall : (Tryz.f4.params.toList.all fun u => !Tryz.prog.wantsStandIn u) = true := by kernel_rfl
        exact (show Tryz.prog.wantsStandIn t = false by simpa using List.all_eq_true.1 hall t hm)⟩)
    (by kernel_rfl)
end
end Go.Proofs.YthjbhdmjfakfaaaGreatDoor
