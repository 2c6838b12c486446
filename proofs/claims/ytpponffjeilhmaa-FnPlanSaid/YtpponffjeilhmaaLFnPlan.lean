/- A plan does each write once, in the place, and stashes only if it must: the given statement, with no condition. -/
import Derived.Test.YtpponffjeilhmaaCFq
import Derived.Test.YtpponffjeilhmaaRows
import Derived.ProofKit
import Derived.ShutString
import Derived.ChangeOld
import Derived.Below
set_option linter.unusedVariables false
set_option linter.unusedSimpArgs false
set_option maxRecDepth 100000
namespace Go.Proofs.Ytpponffjeilhmaa
open Go.KH

/-- laws.FnPlan -/
def b_laws_FnPlan : C := (.seq (.ops [q 4 (.mv (.c (.bool false)))])
 (.seq (.seq (.ops [q 23 (.mv (.t 0)), q 24 (.len (.t 23)), q 25 (.bin .gtr (.t 24) (.c (i64 1048576))), q 26 (.mv (.t 25)), qg 27 26 false (.mv (.t 1)), qg 28 26 false (.len (.t 27)), qg 29 26 false (.bin .gtr (.t 28) (.c (i64 1048576))), q 30 (.pick (.t 26) (.c (.bool true)) (.t 29))])
 (.cond (.t 30) (.seq (.ops [q 4 (.mv (.c (.bool true)))])
 .ret) .skip))
 (.seq (.ops [q 32 (.mv (.t 0)), ⟨(some 33), none, .call (.c (.func (.func 75) #[] #[])) [(.t 32)]⟩, q 31 (.mv (.t 33)), q 34 (.ext 0 (.t 31)), q 35 (.ext 1 (.t 31)), q 36 (.ext 2 (.t 31)), q 5 (.mv (.t 34)), q 6 (.mv (.t 35)), q 7 (.mv (.t 36))])
 (.seq (.ops [q 37 (.mv (.t 5)), q 38 (.mv (.t 6)), q 39 (.mv (.t 7)), ⟨(some 40), none, .call (.c (.func (.func 46) #[] #[])) [(.t 37), (.t 38), (.t 39)]⟩, ⟨(some 8), none, .alloc [nils, (i64 0)]⟩, ⟨none, none, .st 2 (.t 8) (.t 40)⟩])
 (.seq (.ops [q 42 (.mv (.t 1)), ⟨(some 43), none, .call (.c (.func (.func 76) #[] #[])) [(.t 42)]⟩, q 41 (.mv (.t 43)), q 44 (.ext 0 (.t 41)), q 45 (.ext 1 (.t 41)), q 9 (.mv (.t 44)), q 10 (.mv (.t 45))])
 (.seq (.ops [q 46 (.mv (.t 9)), q 47 (.mv (.t 10)), ⟨(some 48), none, .call (.c (.func (.func 17) #[] #[])) [(.t 46), (.t 47)]⟩, q 49 (.mv (.t 9)), q 50 (.mv (.t 10)), ⟨(some 51), none, .call (.c (.func (.func 15) #[] #[])) [(.t 49), (.t 50)]⟩, ⟨(some 11), none, .alloc [nils, (i64 0)]⟩, ⟨(some 12), none, .alloc [nils, (i64 0)]⟩, ⟨none, none, .st 2 (.t 11) (.t 48)⟩, ⟨none, none, .st 2 (.t 12) (.t 51)⟩])
 (.seq (.ops [q 53 (.mv (.t 1)), ⟨(some 54), none, .call (.c (.func (.func 77) #[] #[])) [(.t 53)]⟩, q 52 (.mv (.t 54)), q 55 (.ext 0 (.t 52)), q 56 (.ext 1 (.t 52)), q 57 (.ext 2 (.t 52)), q 13 (.mv (.t 55)), q 14 (.mv (.t 56)), q 15 (.mv (.t 57))])
 (.seq (.ops [q 58 (.mv (.t 0)), ⟨(some 59), none, .call (.c (.func (.func 78) #[] #[])) [(.t 58)]⟩, q 16 (.mv (.t 59))])
 (.seq (.seq (.dops true (.tk (q 60 (.ld true 2 (.t 8))) (.tk (q 61 (.mv (.t 5))) (.tk (q 62 (.mv (.t 6))) (.tk (q 63 (.mv (.t 7))) (.sq (⟨(some 64), none, .call (.c (.func (.func 43) #[] #[])) [(.t 61), (.t 62), (.t 63)]⟩) (.sq (⟨(some 65), none, .call (.c (.func (.func 72) #[] #[])) [(.t 60), (.t 64)]⟩) (.tk (q 66 (.un .not (.t 65))) (.tk (q 67 (.mv (.t 66))) (.tk (qg 68 67 false (.fld 1 (.t 11))) (.tk (qg 69 67 false (.ld false 1 (.t 68))) (.tk (qg 70 67 false (.fld 1 (.t 12))) (.tk (qg 71 67 false (.ld false 1 (.t 70))) (.tk (qg 72 67 false (.bin .neq (.t 69) (.t 71))) (.tk (q 73 (.pick (.t 67) (.c (.bool true)) (.t 72))) (.tk (q 74 (.mv (.t 73))) (.tk (qg 75 74 false (.fld 0 (.t 11))) (.tk (qg 76 74 false (.ld false 1 (.t 75))) (.tk (qg 77 74 false (.fld 0 (.t 12))) (.tk (qg 78 74 false (.ld false 1 (.t 77))) (.sq (⟨(some 79), (some (74, false)), .call (.c (.func (.func 79) #[] #[])) [(.t 76), (.t 78)]⟩) (.tk (qg 80 74 false (.un .not (.t 79))) (.tk (q 81 (.pick (.t 74) (.c (.bool true)) (.t 80))) (.tk (q 82 (.mv (.t 81))) (.tk (qg 83 82 false (.mv (.t 13))) (.tk (qg 84 82 false (.mv (.t 14))) (.tk (qg 85 82 false (.mv (.t 15))) (.tk (qg 87 82 false (.mv (.t 13))) (.tk (qg 88 82 false (.mv (.t 14))) (.tk (qg 89 82 false (.mv (.t 15))) (.sq (⟨(some 86), (some (82, false)), .call (.c (.func (.func 80) #[] #[])) [(.t 83), (.t 84), (.t 85)]⟩) (.sq (⟨(some 90), (some (82, false)), .call (.c (.func (.func 81) #[] #[])) [(.t 87), (.t 88), (.t 89)]⟩) (.tk (qg 91 82 false (.bin .neq (.t 86) (.t 90))) (.tk (q 92 (.pick (.t 82) (.c (.bool true)) (.t 91))) (.tk (q 93 (.mv (.t 92))) (.tk (qg 94 93 false (.mv (.t 16))) (.tk (qg 96 93 false (.mv (.t 16))) (.sq (⟨(some 95), (some (93, false)), .call (.c (.func (.func 82) #[] #[])) [(.t 94)]⟩) (.sq (⟨(some 97), (some (93, false)), .call (.c (.func (.func 83) #[] #[])) [(.t 96)]⟩) (.tk (qg 98 93 false (.bin .neq (.t 95) (.t 97))) (.tk (q 99 (.pick (.t 93) (.c (.bool true)) (.t 98))) .nil)))))))))))))))))))))))))))))))))))))))))
 (.cond (.t 99) (.seq (.ops [q 4 (.mv (.c (.bool false)))])
 .ret) .skip))
 (.seq (.seq (.dops true (.tk (q 100 (.fld 1 (.t 8))) (.tk (q 101 (.ld false 1 (.t 100))) (.tk (q 102 (.bin .eql (.t 101) (.c (i64 0)))) (.tk (q 103 (.mv (.t 102))) (.tk (qg 104 103 true (.fld 0 (.t 8))) (.tk (qg 105 103 true (.ld false 1 (.t 104))) (.tk (qg 106 103 true (.mv (.t 5))) (.tk (qg 107 103 true (.mv (.t 6))) (.sq (⟨(some 108), (some (103, true)), .call (.c (.func (.func 85) #[] #[])) [(.t 106), (.t 107)]⟩) (.tk (qg 109 103 true (.part false 0 1 (.t 108))) (.sq (⟨(some 110), (some (103, true)), .call (.c (.func (.func 84) #[] #[])) [(.t 105), (.t 109)]⟩) (.tk (qg 111 103 true (.un .not (.t 110))) (.tk (q 112 (.pick (.t 103) (.t 111) (.c (.bool false)))) .nil))))))))))))))
 (.cond (.t 112) (.seq (.ops [q 4 (.mv (.c (.bool false)))])
 .ret) .skip))
 (.seq (.seq (.ops [q 113 (.fld 1 (.t 11)), q 114 (.ld false 1 (.t 113)), q 115 (.bin .neq (.t 114) (.c (i64 0)))])
 (.cond (.t 115) (.seq (.ops [q 4 (.mv (.c (.bool true)))])
 .ret) .skip))
 (.seq (.ops [q 116 (.mv (.t 9)), ⟨(some 117), none, .call (.c (.func (.func 64) #[] #[])) [(.t 116)]⟩, q 17 (.mv (.t 117))])
 (.seq (.ops [q 118 (.mv (.t 17)), q 119 (.len (.t 118)), ⟨(some 120), none, .mks 1 8 [(i64 0)] (.t 119) (.t 119)⟩, q 18 (.mv (.t 120))])
 (.seq (.ops [q 19 (.mv (.c (i64 0)))])
 (.seq (.ops [q 20 (.mv (.c (.bool false)))])
 (.seq (.seq (.ops [q 21 (.mv (.c (i64 0)))])
 (.block 0 (.loop (.seq (.seq (.ops [q 121 (.mv (.t 21)), q 122 (.fld 0 (.t 11)), q 123 (.ld false 1 (.t 122)), q 124 (.len (.t 123)), q 125 (.bin .lss (.t 121) (.t 124))])
 (.cond (.t 125) .skip (.exit 0)))
 (.seq (.block 1 (.seq (.seq (.ops [q 128 (.fld 0 (.t 11)), q 129 (.ld false 1 (.t 128)), q 130 (.mv (.t 21)), q 131 (.idx 4 (.t 129) (.t 130)), q 132 (.fld 0 (.t 131)), q 133 (.ld false 1 (.t 132)), q 134 (.bin .eql (.t 133) (.c (i64 1)))])
 (.cond (.t 134) (.seq (.seq (.ops [q 135 (.fld 0 (.t 11)), q 136 (.ld false 1 (.t 135)), q 137 (.mv (.t 21)), q 138 (.idx 4 (.t 136) (.t 137)), q 139 (.fld 3 (.t 138)), q 140 (.ld false 1 (.t 139)), q 141 (.mv (.t 19)), q 142 (.bin .neq (.t 140) (.t 141))])
 (.cond (.t 142) (.seq (.ops [q 4 (.mv (.c (.bool false)))])
 .ret) .skip))
 (.seq (.ops [q 143 (.mv (.t 19)), q 144 (.bin .add (.t 143) (.c (i64 1))), q 19 (.mv (.t 144))])
 (.exit 1))) .skip))
 (.dops true (.tk (q 145 (.mv (.t 18))) (.tk (q 146 (.fld 0 (.t 11))) (.tk (q 147 (.ld false 1 (.t 146))) (.tk (q 148 (.mv (.t 21))) (.tk (q 149 (.idx 4 (.t 147) (.t 148))) (.tk (q 150 (.fld 1 (.t 149))) (.tk (q 151 (.ld false 1 (.t 150))) (.tk (q 152 (.mv (.t 18))) (.tk (q 153 (.fld 0 (.t 11))) (.tk (q 154 (.ld false 1 (.t 153))) (.tk (q 155 (.mv (.t 21))) (.tk (q 156 (.idx 4 (.t 154) (.t 155))) (.tk (q 157 (.fld 1 (.t 156))) (.tk (q 158 (.ld false 1 (.t 157))) (.tk (q 159 (.idx 1 (.t 152) (.t 158))) (.tk (q 160 (.ld false 1 (.t 159))) (.tk (q 161 (.bin .add (.t 160) (.c (i64 1)))) (.tk (q 162 (.idx 1 (.t 145) (.t 151))) (.lt (⟨none, none, .st 1 (.t 162) (.t 161)⟩) .nil))))))))))))))))))))))
 (.ops [q 126 (.mv (.t 21)), q 127 (.bin .add (.t 126) (.c (i64 1))), q 21 (.mv (.t 127))]))))))
 (.seq (.seq (.ops [q 22 (.mv (.c (i64 0)))])
 (.block 2 (.loop (.seq (.seq (.ops [q 163 (.mv (.t 22)), q 164 (.mv (.t 17)), q 165 (.len (.t 164)), q 166 (.bin .lss (.t 163) (.t 165))])
 (.cond (.t 166) .skip (.exit 2)))
 (.seq (.block 3 (.seq (.ops [q 169 (.mv (.t 20)), q 170 (.mv (.t 169)), qg 171 170 false (.mv (.t 17)), qg 172 170 false (.mv (.t 22)), qg 173 170 false (.idx 4 (.t 171) (.t 172)), qg 174 170 false (.fld 0 (.t 173)), qg 175 170 false (.ld false 1 (.t 174)), qg 176 170 false (.bin .eql (.t 175) (.c (i64 3))), q 177 (.pick (.t 170) (.c (.bool true)) (.t 176)), q 178 (.mv (.t 177)), qg 179 178 false (.mv (.t 17)), qg 180 178 false (.mv (.t 22)), qg 181 178 false (.idx 4 (.t 179) (.t 180)), qg 182 178 false (.fld 0 (.t 181)), qg 183 178 false (.ld false 1 (.t 182)), qg 184 178 false (.bin .eql (.t 183) (.c (i64 4))), q 185 (.pick (.t 178) (.c (.bool true)) (.t 184)), q 20 (.mv (.t 185))])
 (.seq (.ops [q 186 (.mv (.t 18)), q 187 (.mv (.t 22)), q 188 (.idx 1 (.t 186) (.t 187)), q 189 (.ld false 1 (.t 188)), q 190 (.bin .neq (.t 189) (.c (i64 1)))])
 (.cond (.t 190) (.seq (.ops [q 4 (.mv (.c (.bool false)))])
 .ret) .skip))))
 (.ops [q 167 (.mv (.t 22)), q 168 (.bin .add (.t 167) (.c (i64 1))), q 22 (.mv (.t 168))]))))))
 (.seq (.ops [q 191 (.mv (.t 19)), q 192 (.fld 0 (.t 11)), q 193 (.ld false 1 (.t 192)), ⟨(some 194), none, .call (.c (.func (.func 82) #[] #[])) [(.t 193)]⟩, q 195 (.bin .eql (.t 191) (.t 194)), q 196 (.mv (.t 195)), qg 197 196 true (.mv (.t 20)), qg 198 196 true (.mv (.t 197)), qg 199 198 false (.mv (.t 19)), qg 200 198 false (.bin .eql (.t 199) (.c (i64 0))), qg 201 196 true (.pick (.t 198) (.c (.bool true)) (.t 200)), q 202 (.pick (.t 196) (.t 201) (.c (.bool false))), q 203 (.mv (.t 202)), qg 204 203 true (.mv (.t 19)), qg 205 203 true (.bin .mul (.c (i64 2)) (.t 204)), qg 206 203 true (.mv (.t 17)), qg 207 203 true (.len (.t 206)), qg 208 203 true (.bin .leq (.t 205) (.t 207)), q 209 (.pick (.t 203) (.t 208) (.c (.bool false))), q 210 (.mv (.t 209)), qg 211 210 true (.fld 0 (.t 11)), qg 212 210 true (.ld false 1 (.t 211)), qg 213 210 true (.len (.t 212)), qg 214 210 true (.mv (.t 17)), qg 215 210 true (.len (.t 214)), qg 216 210 true (.mv (.t 19)), qg 217 210 true (.bin .add (.t 215) (.t 216)), qg 218 210 true (.bin .eql (.t 213) (.t 217)), q 219 (.pick (.t 210) (.t 218) (.c (.bool false))), q 4 (.mv (.t 219))])
 .ret))))))))))))))))))
theorem w_laws_FnPlan {args : List Value} {h : H} {Q : Value → H → Prop} (hl : args.length ≤ 220) (hk : wpc Try.prog b_laws_FnPlan (retw [.tmp 4] Q) (argsFr args) h) : AC Try.prog 11 args h Q :=
  AC.of_wpc mixedOrders Try.func11 (by kernel_rfl) (by kernel_rfl : prepF Try.prog Try.f11 = some ⟨220, [.tmp 4], b_laws_FnPlan⟩) hl hk

set_option maxHeartbeats 3200000 in
theorem fnPlan_walk {h : H} {va vb : Value} {l1 l2 : List UInt8} (A : Sl h va 1 (bys l1)) (B : Sl h vb 1 (bys l2)) : AC Try.prog 11 [va, vb] h fun r _ => r = .bool true := by
  have k1 : (bys l1).length = l1.length := by simp [bys]
  have k2 : (bys l2).length = l2.length := by simp [bys]
  obtain ⟨a1, c1, rfl⟩ := A.shape
  obtain ⟨a2, c2, rfl⟩ := B.shape
  rw [k1] at A
  rw [k2] at B
  skip
  refine w_laws_FnPlan (by simp) ?_
  unfold b_laws_FnPlan
  simp -implicitDefEqProofs only [go_sem, ↓reduceIte, reduceCtorEq, Int.reduceEq, Int.reduceLT, Int.reduceLE, Nat.reduceEqDiff, Nat.reduceAdd, Nat.reduceMul, Nat.reduceLeDiff, Nat.reduceSub, Int.reduceNeg, k1, k2]
  by_cases h1 : 1048576 < l1.length
  · simp -implicitDefEqProofs only [go_sem, ↓reduceIte, reduceCtorEq, Int.reduceEq, Int.reduceLT, Int.reduceLE, Nat.reduceEqDiff, Nat.reduceAdd, Nat.reduceMul, Nat.reduceLeDiff, Nat.reduceSub, Int.reduceNeg, show (1048576 : Int) < (l1.length : Int) by omega, k1, k2]
  by_cases h2 : 1048576 < l2.length
  · simp -implicitDefEqProofs only [go_sem, ↓reduceIte, reduceCtorEq, Int.reduceEq, Int.reduceLT, Int.reduceLE, Nat.reduceEqDiff, Nat.reduceAdd, Nat.reduceMul, Nat.reduceLeDiff, Nat.reduceSub, Int.reduceNeg, show ¬ (1048576 : Int) < (l1.length : Int) by omega, show (1048576 : Int) < (l2.length : Int) by omega, k1, k2]
  simp -implicitDefEqProofs only [go_sem, ↓reduceIte, reduceCtorEq, Int.reduceEq, Int.reduceLT, Int.reduceLE, Nat.reduceEqDiff, Nat.reduceAdd, Nat.reduceMul, Nat.reduceLeDiff, Nat.reduceSub, Int.reduceNeg, show ¬ (1048576 : Int) < (l1.length : Int) by omega, show ¬ (1048576 : Int) < (l2.length : Int) by omega, k1, k2]
  refine AC_of (drawPlanRun_ac A (by omega)) ?_
  rintro _ h3 - ⟨e3, T, L, M, u, w, y, rfl, I, hM, sy⟩
  obtain ⟨au, cu, rfl⟩ := I.su.shape
  obtain ⟨aw, cw, rfl⟩ := I.sw.shape
  obtain ⟨ay, cy, rfl⟩ := sy.shape
  obtain ⟨t9, tn, hok, ln, su, sw⟩ := I
  have kt : (strs T).length = T.length := by simp
  have kl : (L.map UStep.cells).length = L.length := by simp
  have km : (M.map UMove.cells).length = M.length := by simp
  rw [kt] at su
  rw [kl] at sw
  rw [km] at sy
  skip
  simp -implicitDefEqProofs only [go_sem, ↓reduceIte, reduceCtorEq, Int.reduceEq, Int.reduceLT, Int.reduceLE, Nat.reduceEqDiff, Nat.reduceAdd, Nat.reduceMul, Nat.reduceLeDiff, Nat.reduceSub, Int.reduceNeg, k1, k2, kt, kl, km]
  refine AC_of (implPlanRun_ac su sw sy (by omega) (by omega) (by omega)) ?_
  rintro r h4 - ⟨e4, cs, rfl, f8⟩
  obtain ⟨x1, rfl, f81⟩ := img_f.1 f8
  clear f8
  have s8 := f81.sl
  clear f81
  obtain ⟨X, hX⟩ : ∃ X, runOut T L M = X := ⟨_, rfl⟩
  rw [hX] at s8 ⊢
  simp -implicitDefEqProofs only [go_sem, ↓reduceIte, reduceCtorEq, Int.reduceEq, Int.reduceLT, Int.reduceLE, Nat.reduceEqDiff, Nat.reduceAdd, Nat.reduceMul, Nat.reduceLeDiff, Nat.reduceSub, Int.reduceNeg, k1, k2, kt, kl, km]
  intro b8 hb8 n8
  have e8 := (Ext.refl h4).set n8 ⟨[x1, i64 X.2], 2⟩
  have g8 : (h4.set b8 ⟨[x1, i64 X.2], 2⟩).get b8 = some ⟨[x1, i64 X.2], 2⟩ := H.set_get_same _ _ _
  have E4 := (e3.trans e4).trans e8
  have su4 := (su.ext e4).ext e8
  have sw4 := (sw.ext e4).ext e8
  have sy4 := (sy.ext e4).ext e8
  have s84 := s8.ext e8
  simp -implicitDefEqProofs only [go_sem, ↓reduceIte, reduceCtorEq, Int.reduceEq, Int.reduceLT, Int.reduceLE, Nat.reduceEqDiff, Nat.reduceAdd, Nat.reduceMul, Nat.reduceLeDiff, Nat.reduceSub, Int.reduceNeg, hb8, s8.vcl, s8.one, k1, k2, kt, kl, km]
  generalize hH4 : h4.set b8 ⟨[x1, i64 X.2], 2⟩ = H4 at e8 g8 E4 su4 sw4 sy4 s84
  refine AC_of (drawPlanOf_ac (B.ext E4) (by omega)) ?_
  rintro _ h5 - ⟨e5, L2, n2, w2, hok2, ln2, hn2, rfl, sw2⟩
  obtain ⟨aw2, cw2, rfl⟩ := sw2.shape
  have kl2 : (L2.map UStep.cells).length = L2.length := by simp
  rw [kl2] at sw2
  skip
  simp -implicitDefEqProofs only [go_sem, ↓reduceIte, reduceCtorEq, Int.reduceEq, Int.reduceLT, Int.reduceLE, Nat.reduceEqDiff, Nat.reduceAdd, Nat.reduceMul, Nat.reduceLeDiff, Nat.reduceSub, Int.reduceNeg, k1, k2, kt, kl, km, kl2]
  refine AC_of (implPlanOf_ac sw2 (by omega)) ?_
  rintro r h6 - ⟨e6, cs, rfl, fp⟩
  obtain ⟨p1, rfl, fp1⟩ := plan_f.1 fp
  have sp := fp1.sl
  clear fp fp1
  simp -implicitDefEqProofs only [go_sem, ↓reduceIte, reduceCtorEq, Int.reduceEq, Int.reduceLT, Int.reduceLE, Nat.reduceEqDiff, Nat.reduceAdd, Nat.reduceMul, Nat.reduceLeDiff, Nat.reduceSub, Int.reduceNeg, k1, k2, kt, kl, km, kl2]
  refine AC_of (specPlanOf_own (sw2.ext e6) (by omega)) ?_
  rintro r h7 - ⟨e7, q1, rfl, oq⟩
  have sq := oq.sl
  clear oq
  obtain ⟨⟨P, pc⟩, hP⟩ : ∃ o, planOut L2 n2 = o := ⟨_, rfl⟩
  rw [hP] at sp sq ⊢
  have E7 := ((E4.trans e5).trans e6).trans e7
  have x7 := (e5.trans e6).trans e7
  have g87 := x7.2.g b8 _ g8
  have su7 := su4.ext x7
  have sw7 := sw4.ext x7
  have sy7 := sy4.ext x7
  have s87 := s84.ext x7
  have sw27 := (sw2.ext e6).ext e7
  have sp7 := sp.ext e7
  simp -implicitDefEqProofs only [go_sem, ↓reduceIte, reduceCtorEq, Int.reduceEq, Int.reduceLT, Int.reduceLE, Nat.reduceEqDiff, Nat.reduceAdd, Nat.reduceMul, Nat.reduceLeDiff, Nat.reduceSub, Int.reduceNeg, k1, k2, kt, kl, km, kl2]
  intro b11 hb11 n11
  have e11 := (Ext.refl h7).set n11 ⟨[nils, i64 0], 2⟩
  simp -implicitDefEqProofs only [go_sem, ↓reduceIte, reduceCtorEq, Int.reduceEq, Int.reduceLT, Int.reduceLE, Nat.reduceEqDiff, Nat.reduceAdd, Nat.reduceMul, Nat.reduceLeDiff, Nat.reduceSub, Int.reduceNeg, k1, k2, kt, kl, km, kl2]
  intro b12 hb12 n12
  have z : (b11 = b12) = False := eq_false fun e => by rw [← e, H.set_get_same] at n12; cases n12
  have z' : (b12 = b11) = False := eq_false fun e => of_eq_false z e.symm
  have n12' : h7.get b12 = none := by rw [H.set_get_ne _ _ _ _ (of_eq_false z')] at n12; exact n12
  simp only [H.set_base] at hb12
  have x8 := ((Ext.refl h7).set n11 ⟨[p1, i64 pc], 2⟩).set' n12' ⟨[q1, i64 pc], 2⟩
  have g11 : ((h7.set b11 ⟨[p1, i64 pc], 2⟩).set b12 ⟨[q1, i64 pc], 2⟩).get b11 = some ⟨[p1, i64 pc], 2⟩ := by rw [H.set_get_ne _ _ _ _ (of_eq_false z)]; exact H.set_get_same _ _ _
  have g12 : ((h7.set b11 ⟨[p1, i64 pc], 2⟩).set b12 ⟨[q1, i64 pc], 2⟩).get b12 = some ⟨[q1, i64 pc], 2⟩ := H.set_get_same _ _ _
  simp -implicitDefEqProofs only [go_sem, ↓reduceIte, reduceCtorEq, Int.reduceEq, Int.reduceLT, Int.reduceLE, Nat.reduceEqDiff, Nat.reduceAdd, Nat.reduceMul, Nat.reduceLeDiff, Nat.reduceSub, Int.reduceNeg, hb11, hb12, z, z', sp.vcl, sp.one, sq.vcl, sq.one, k1, k2, kt, kl, km, kl2]
  generalize hH8 : (h7.set b11 ⟨[p1, i64 pc], 2⟩).set b12 ⟨[q1, i64 pc], 2⟩ = h8 at x8 g11 g12
  refine AC_of (drawSourceOf_ac ((B.ext E7).ext x8) (by omega)) ?_
  rintro _ h9 - ⟨e9, O, don, blk', w3, hO, hdon, hblk, rfl, so⟩
  simp -implicitDefEqProofs only [go_sem, ↓reduceIte, reduceCtorEq, Int.reduceEq, Int.reduceLT, Int.reduceLE, Nat.reduceEqDiff, Nat.reduceAdd, Nat.reduceMul, Nat.reduceLeDiff, Nat.reduceSub, Int.reduceNeg, k1, k2, kt, kl, km, kl2]
  refine AC_of (drawSlotsOf_ac (((A.ext E7).ext x8).ext e9) (by omega)) ?_
  rintro w4 h10 - ⟨e10, N, hN, sn⟩
  have y8 := (x8.trans e9).trans e10
  have G8 := y8.2.g b8 _ g87
  have G11 := e10.2.g b11 _ (e9.2.g b11 _ g11)
  have G12 := e10.2.g b12 _ (e9.2.g b12 _ g12)
  have su8 := su7.ext y8
  have sw8 := sw7.ext y8
  have sy8 := sy7.ext y8
  have s88 := s87.ext y8
  have sw28 := sw27.ext y8
  have sp8 := sp7.ext y8
  have sq8 := sq.ext y8
  have so8 := so.ext e10
  clear A B e3 e4 e5 e6 e7 e8 E4 E7 x7 x8 y8 e9 e10 e11 su sw sy su4 sw4 sy4 s84 su7 sw7 sy7 s87 sw27 sp7 sp sq so g8 g87 g11 g12 s8 sw2 n8 n11 n12 n12' hb8 hb11 hb12
  simp -implicitDefEqProofs only [go_sem, ↓reduceIte, reduceCtorEq, Int.reduceEq, Int.reduceLT, Int.reduceLE, Nat.reduceEqDiff, Nat.reduceAdd, Nat.reduceMul, Nat.reduceLeDiff, Nat.reduceSub, Int.reduceNeg, ldc_get G8, k1, k2, kt, kl, km, kl2]
  refine AC_of (specPlanRun_ac su8 sw8 sy8 (by omega) (by omega) (by omega)) ?_
  rintro r h11 - ⟨e11, cs, rfl, f9⟩
  obtain ⟨x2, rfl, f91⟩ := img_f.1 f9
  clear f9
  have s9 := f91.sl
  clear f91
  rw [hX] at s9 ⊢
  have hXl : X.1.length ≤ T.length := by rw [← hX]; exact runOut_len T L M
  have hPl : P.length ≤ 28 := by have := planOut_small L2 n2; rw [hP] at this; exact this
  refine ⟨e11.2, ?_⟩
  have G11' := e11.2.g b11 _ G11
  have G12' := e11.2.g b12 _ G12
  have G8' := e11.2.g b8 _ G8
  simp -implicitDefEqProofs only [go_sem, ↓reduceIte, reduceCtorEq, Int.reduceEq, Int.reduceLT, Int.reduceLE, Nat.reduceEqDiff, Nat.reduceAdd, Nat.reduceMul, Nat.reduceLeDiff, Nat.reduceSub, Int.reduceNeg, ldc_get G8', k1, k2, kt, kl, km, kl2]
  refine PC.use (lwImage_pc (s88.ext e11) s9 (by omega)) ?_
  refine ⟨e11.2, ?_⟩
  simp -implicitDefEqProofs only [go_sem, ↓reduceIte, reduceCtorEq, Int.reduceEq, Int.reduceLT, Int.reduceLE, Nat.reduceEqDiff, Nat.reduceAdd, Nat.reduceMul, Nat.reduceLeDiff, Nat.reduceSub, Int.reduceNeg, ldc_get G11, ldc_get G12, ldc_get G11', ldc_get G12', k1, k2, kt, kl, km, kl2]
  refine PC.use (lwMoves_pc (l1 := P) (l2 := P) (sp8.ext e11) (sq8.ext e11) (by omega)) ?_
  refine ⟨e11.2, ?_⟩
  simp -implicitDefEqProofs only [go_sem, ↓reduceIte, reduceCtorEq, Int.reduceEq, Int.reduceLT, Int.reduceLE, Nat.reduceEqDiff, Nat.reduceAdd, Nat.reduceMul, Nat.reduceLeDiff, Nat.reduceSub, Int.reduceNeg, k1, k2, kt, kl, km, kl2]
  refine PC.use (implSourceOf_pc (so8.ext e11) (by omega)) ?_
  refine ⟨e11.2, ?_⟩
  simp -implicitDefEqProofs only [go_sem, ↓reduceIte, reduceCtorEq, Int.reduceEq, Int.reduceLT, Int.reduceLE, Nat.reduceEqDiff, Nat.reduceAdd, Nat.reduceMul, Nat.reduceLeDiff, Nat.reduceSub, Int.reduceNeg, k1, k2, kt, kl, km, kl2]
  refine PC.use (specSourceOf_pc (so8.ext e11) (by omega)) ?_
  refine ⟨e11.2, ?_⟩
  simp -implicitDefEqProofs only [go_sem, ↓reduceIte, reduceCtorEq, Int.reduceEq, Int.reduceLT, Int.reduceLE, Nat.reduceEqDiff, Nat.reduceAdd, Nat.reduceMul, Nat.reduceLeDiff, Nat.reduceSub, Int.reduceNeg, k1, k2, kt, kl, km, kl2]
  refine PC.use (implSlotsOf_pc (sn.ext e11) (by omega)) ?_
  refine ⟨e11.2, ?_⟩
  simp -implicitDefEqProofs only [go_sem, ↓reduceIte, reduceCtorEq, Int.reduceEq, Int.reduceLT, Int.reduceLE, Nat.reduceEqDiff, Nat.reduceAdd, Nat.reduceMul, Nat.reduceLeDiff, Nat.reduceSub, Int.reduceNeg, k1, k2, kt, kl, km, kl2]
  refine PC.use (specSlotsOf_pc (sn.ext e11) (by omega)) ?_
  refine ⟨e11.2, ?_⟩
  refine dopw_mono (K := fun f h' => f 99 = .bool false ∧ f 5 = .slice au T.length cu ∧ f 6 = .slice aw L.length cw ∧ f 8 = ptr b8 0 ∧ f 9 = .slice aw2 L2.length cw2 ∧ f 11 = ptr b11 0 ∧ h' = h11) ?_ _ ?_
  rotate_left
  · simp -implicitDefEqProofs only [go_sem, ↓reduceIte, reduceCtorEq, Int.reduceEq, Int.reduceLT, Int.reduceLE, Nat.reduceEqDiff, Nat.reduceAdd, Nat.reduceMul, Nat.reduceLeDiff, Nat.reduceSub, Int.reduceNeg, k1, k2, kt, kl, km, kl2]
  clear so8 sn
  have su9 := su8.ext e11
  have sw9 := sw8.ext e11
  have sx9 := s88.ext e11
  have sl9 := sw28.ext e11
  have sp9 := sp8.ext e11
  clear su8 sw8 s88 sw28 sp8 sq8 sy8 G8 G11 G12 s9 e11 G12'
  skip
  rintro f h' ⟨f99, f5, f6, f8, f9, f11, rfl⟩
  simp only [thenQ_nor, wpc_cond, ev_t, f99, asB_mk, withO_some, Bool.false_eq_true, Br_false, wpc_skip]
  refine wpc_cut (fun f h'' => f 9 = .slice aw2 L2.length cw2 ∧ f 11 = ptr b11 0 ∧ Ext h' h'') ?_ ?_
  · by_cases hc : X.2 = 0
    rotate_left
    · simp -implicitDefEqProofs only [go_sem, ↓reduceIte, reduceCtorEq, Int.reduceEq, Int.reduceLT, Int.reduceLE, Nat.reduceEqDiff, Nat.reduceAdd, Nat.reduceMul, Nat.reduceLeDiff, Nat.reduceSub, Int.reduceNeg, f8, ldc_get G8', hc, k1, k2, kt, kl, km, kl2]
      exact ⟨f9, f11, Ext.refl _⟩
    · simp -implicitDefEqProofs only [go_sem, ↓reduceIte, reduceCtorEq, Int.reduceEq, Int.reduceLT, Int.reduceLE, Nat.reduceEqDiff, Nat.reduceAdd, Nat.reduceMul, Nat.reduceLeDiff, Nat.reduceSub, Int.reduceNeg, f8, ldc_get G8', hc, f5, f6, k1, k2, kt, kl, km, kl2]
      refine AC_of (specImageApply_ac su9 sw9 (by omega) (by omega)) ?_
      rintro r h12 - ⟨e12, cs, rfl, fi0⟩
      obtain ⟨x3, rfl, fi⟩ := img_f.1 fi0
      have s3 := fi.sl
      clear fi0 fi
      have hra : (imgOut T L).1 = X.1 := by rw [← hX]; exact run_apply (by rw [hX]; exact hc)
      rw [hra] at s3
      refine ⟨e12.2, ?_⟩
      simp -implicitDefEqProofs only [go_sem, ↓reduceIte, reduceCtorEq, Int.reduceEq, Int.reduceLT, Int.reduceLE, Nat.reduceEqDiff, Nat.reduceAdd, Nat.reduceMul, Nat.reduceLeDiff, Nat.reduceSub, Int.reduceNeg, k1, k2, kt, kl, km, kl2]
      refine PC.use (lwTexts_pc (sx9.ext e12) s3 (by omega)) ?_
      refine ⟨e12.2, ?_⟩
      simp -implicitDefEqProofs only [go_sem, ↓reduceIte, reduceCtorEq, Int.reduceEq, Int.reduceLT, Int.reduceLE, Nat.reduceEqDiff, Nat.reduceAdd, Nat.reduceMul, Nat.reduceLeDiff, Nat.reduceSub, Int.reduceNeg, k1, k2, kt, kl, km, kl2]
      exact ⟨f9, f11, e12⟩
  clear f99 f5 f6 f8 f9 f11 su9 sw9 sx9
  rintro f h12 ⟨f9, f11, e12⟩
  have g11 := e12.2.g b11 _ G11'
  have sl := sl9.ext e12
  have sp := sp9.ext e12
  clear sl9 sp9 G11' G8'
  obtain ⟨ap, cp, rfl⟩ := sp.shape
  have kp : (P.map UMove.cells).length = P.length := by simp
  skip
  by_cases hpc : pc = 0
  rotate_left
  · simp -implicitDefEqProofs only [go_sem, ↓reduceIte, reduceCtorEq, Int.reduceEq, Int.reduceLT, Int.reduceLE, Nat.reduceEqDiff, Nat.reduceAdd, Nat.reduceMul, Nat.reduceLeDiff, Nat.reduceSub, Int.reduceNeg, f11, ldc_get g11, hpc, k1, k2, kt, kl, km, kl2, kp]
  simp -implicitDefEqProofs only [go_sem, ↓reduceIte, reduceCtorEq, Int.reduceEq, Int.reduceLT, Int.reduceLE, Nat.reduceEqDiff, Nat.reduceAdd, Nat.reduceMul, Nat.reduceLeDiff, Nat.reduceSub, Int.reduceNeg, f9, f11, ldc_get g11, hpc, k1, k2, kt, kl, km, kl2, kp]
  obtain ⟨hcode, hPB⟩ : codeOf L2 n2 = 0 ∧ P = planB (L2.filter isW) := by
    unfold planOut at hP
    rw [if_neg (by omega)] at hP
    by_cases h : codeOf L2 n2 = 0
    · rw [if_pos h] at hP
      exact ⟨h, (Prod.mk.inj hP).1.symm⟩
    · rw [if_neg h] at hP
      exact absurd ((Prod.mk.inj hP).2.trans hpc) h
  obtain ⟨⟨h20, hs1, hs⟩, ht, -⟩ := code_zero hcode
  obtain ⟨n, pd, pn, ps, pf, p2, pl⟩ := plan_has (writes_apart ht)
  rw [← hPB] at pd pn ps pl
  refine AC_of (specWrites_ac sl h20) ?_
  rintro vw h13 - ⟨e13, fw⟩
  obtain ⟨W, hW⟩ : ∃ W, L2.filter isW = W := ⟨_, rfl⟩
  rw [hW] at pd ps pf p2 pl fw
  have sW := fw.sl
  clear fw
  obtain ⟨aW, cW, rfl⟩ := sW.shape
  have kW : (W.map UStep.cells).length = W.length := by simp
  rw [kW] at sW
  have hWl : W.length ≤ 20 := by rw [← hW]; have := List.length_filter_le isW L2; omega
  have g13 := e13.2.g b11 _ g11
  have sp13 := sp.ext e13
  rw [kp] at sp13 g13
  skip
  simp -implicitDefEqProofs only [go_sem, ↓reduceIte, reduceCtorEq, Int.reduceEq, Int.reduceLT, Int.reduceLE, Nat.reduceEqDiff, Nat.reduceAdd, Nat.reduceMul, Nat.reduceLeDiff, Nat.reduceSub, Int.reduceNeg, Int.natCast_nonneg, Int.le_refl, show (W.length : Int) < 1099511627776 by omega, show ((8 : Nat) : Int) * (W.length : Int) ≤ 140737488355328 by omega, k1, k2, kt, kl, km, kl2, kp, kW]
  intro b18 hb18 n18
  have hd0 : (List.replicate W.length [i64 0]).flatten = didC W.length [] := by
    simp only [didC, List.flatten_replicate_singleton, didN]
    exact (List.eq_replicate_iff.2 ⟨by simp, by simp⟩).symm
  have z1 : b11 ≠ b18 := fun e => by rw [e, n18] at g13; cases g13
  simp -implicitDefEqProofs only [go_sem, ↓reduceIte, reduceCtorEq, Int.reduceEq, Int.reduceLT, Int.reduceLE, Nat.reduceEqDiff, Nat.reduceAdd, Nat.reduceMul, Nat.reduceLeDiff, Nat.reduceSub, Int.reduceNeg, f11, k1, k2, kt, kl, km, kl2, kp, kW]
  refine loopW_of (fun m f h' => ∃ k, m + k = P.length ∧ h' = h13.set b18 ⟨didC W.length (P.take k), W.length⟩ ∧ f 11 = ptr b11 0 ∧ f 17 = .slice aW W.length cW ∧ f 18 = KH.sl b18 0 W.length W.length ∧ f 19 = i64 (stashes (P.take k)).length ∧ f 20 = .bool false ∧ f 21 = i64 k) P.length
    ⟨0, by simp, by simp [hd0], by simp -implicitDefEqProofs only [go_sem, ↓reduceIte, reduceCtorEq, Int.reduceEq, Int.reduceLT, Int.reduceLE, Nat.reduceEqDiff, Nat.reduceAdd, Nat.reduceMul, Nat.reduceLeDiff, Nat.reduceSub, Int.reduceNeg, f11, k1, k2, kt, kl, km, kl2, kp, kW], by simp -implicitDefEqProofs only [go_sem, ↓reduceIte, reduceCtorEq, Int.reduceEq, Int.reduceLT, Int.reduceLE, Nat.reduceEqDiff, Nat.reduceAdd, Nat.reduceMul, Nat.reduceLeDiff, Nat.reduceSub, Int.reduceNeg, k1, k2, kt, kl, km, kl2, kp, kW], by simp -implicitDefEqProofs only [go_sem, ↓reduceIte, reduceCtorEq, Int.reduceEq, Int.reduceLT, Int.reduceLE, Nat.reduceEqDiff, Nat.reduceAdd, Nat.reduceMul, Nat.reduceLeDiff, Nat.reduceSub, Int.reduceNeg, k1, k2, kt, kl, km, kl2, kp, kW], by simp -implicitDefEqProofs only [go_sem, ↓reduceIte, reduceCtorEq, Int.reduceEq, Int.reduceLT, Int.reduceLE, Nat.reduceEqDiff, Nat.reduceAdd, Nat.reduceMul, Nat.reduceLeDiff, Nat.reduceSub, Int.reduceNeg, k1, k2, kt, kl, km, kl2, kp, kW]; rfl, by simp -implicitDefEqProofs only [go_sem, ↓reduceIte, reduceCtorEq, Int.reduceEq, Int.reduceLT, Int.reduceLE, Nat.reduceEqDiff, Nat.reduceAdd, Nat.reduceMul, Nat.reduceLeDiff, Nat.reduceSub, Int.reduceNeg, k1, k2, kt, kl, km, kl2, kp, kW], by simp -implicitDefEqProofs only [go_sem, ↓reduceIte, reduceCtorEq, Int.reduceEq, Int.reduceLT, Int.reduceLE, Nat.reduceEqDiff, Nat.reduceAdd, Nat.reduceMul, Nat.reduceLeDiff, Nat.reduceSub, Int.reduceNeg, k1, k2, kt, kl, km, kl2, kp, kW]; rfl⟩ ?_
  clear f9 f11
  rintro m f h' ⟨k, hm, rfl, f11, f17, f18, f19, f20, f21⟩
  have G11 : (h13.set b18 ⟨didC W.length (P.take k), W.length⟩).get b11 = some ⟨[.slice ap P.length cp, i64 0], 2⟩ := by rw [H.set_get_ne _ _ _ _ z1, g13, hpc]
  have e18 := (Ext.refl h13).set n18 ⟨didC W.length (P.take k), W.length⟩
  have spk := sp13.ext e18
  have spk' := spk
  obtain ⟨_, _, bp, op, ep, _, rp, lp⟩ := spk'
  simp only [kp, Value.slice.injEq, true_and] at ep rp
  obtain ⟨rfl, rfl⟩ := ep
  by_cases hk : k < P.length
  · have dm := lp k (P[k]).cells (by simp [hk])
    have dm0 := ldc_part dm 0 1 (by omega)
    have dm1 := ldc_part dm 1 1 (by omega)
    have dm3 := ldc_part dm 3 1 (by omega)
    simp only [Nat.add_zero] at dm0
    have hsl : (stashes (P.take k)).length ≤ 28 := by
      have h1 := List.length_filter_le (fun m : UMove => decide (m.kind = 1)) (P.take k)
      have h2 : (P.take k).length ≤ P.length := by simp; omega
      unfold stashes; omega
    by_cases h1 : (P[k]).kind = 1
    · have hs := slot_at pn hk h1
      have hst := stashes_take hk
      rw [if_pos h1] at hst
      have hdc := didC_skip (n := W.length) (mv := P.take k) h1
      rw [← List.take_succ_eq_append_getElem hk] at hdc
      simp -implicitDefEqProofs only [go_sem, ↓reduceIte, reduceCtorEq, Int.reduceEq, Int.reduceLT, Int.reduceLE, Nat.reduceEqDiff, Nat.reduceAdd, Nat.reduceMul, Nat.reduceLeDiff, Nat.reduceSub, Int.reduceNeg, f11, f21, f19, ldc_get G11, Int.ofNat_lt, Int.natCast_nonneg, hk, rp, dm0, dm1, dm3, h1, hs, wrap_i64 (show -(9223372036854775808 : Int) ≤ (((stashes (P.take k)).length : Int) + 1) by omega) (show (((stashes (P.take k)).length : Int) + 1) < 9223372036854775808 by omega), wrap_i64 (show -(9223372036854775808 : Int) ≤ ((k : Int) + 1) by omega) (show ((k : Int) + 1) < 9223372036854775808 by omega), k1, k2, kt, kl, km, kl2, kp, kW]
      exact ⟨m - 1, by omega, _, Ext.refl _, k + 1, by omega, by rw [hdc], f17, f18, by rw [hst, List.length_append, List.length_singleton, Int.natCast_add]; rfl, f20, rfl⟩
    · obtain ⟨i, hst, hi⟩ := ps P[k] (List.getElem_mem hk) h1
      have hput := didC_put (n := W.length) (mv := P.take k) h1 hst hi
      rw [← List.take_succ_eq_append_getElem hk] at hput
      have hstk := stashes_take hk
      rw [if_neg h1, List.append_nil] at hstk
      have hdn : didN (P.take k) i ≤ 28 := by
        have h1 := didN_le (P.take k) i
        have h2 : (P.take k).length ≤ P.length := by simp; omega
        omega
      have e1 : ldc (h13.set b18 ⟨didC W.length (P.take k), W.length⟩) b18 i 1 = some [i64 (didN (P.take k) i)] := by
        have hl := didC_get (P.take k) hi
        rw [ldc_get (H.set_get_same _ _ _), if_pos (by simp only [didC_len]; omega)]
        rw [List.getElem?_eq_some_iff] at hl
        obtain ⟨hl1, hl2⟩ := hl
        simp only
        rw [List.drop_eq_getElem_cons hl1, hl2]; rfl
      have ec : ((P[k]).cells.drop 1).take 1 = [i64 (i : Int)] := by rw [← hst]; rfl
      rw [ec] at dm1
      simp -implicitDefEqProofs only [go_sem, ↓reduceIte, reduceCtorEq, Int.reduceEq, Int.reduceLT, Int.reduceLE, Nat.reduceEqDiff, Nat.reduceAdd, Nat.reduceMul, Nat.reduceLeDiff, Nat.reduceSub, Int.reduceNeg, f11, f17, f18, f21, ldc_get G11, Int.ofNat_lt, Int.natCast_nonneg, Int.toNat_natCast, Nat.mul_one, hk, hi, rp, dm0, dm1, h1, e1, didC_len, show i + 1 ≤ W.length by omega, hb18, wrap_i64 (show -(9223372036854775808 : Int) ≤ ((didN (P.take k) i : Int) + 1) by omega) (show ((didN (P.take k) i : Int) + 1) < 9223372036854775808 by omega), hput, wrap_i64 (show -(9223372036854775808 : Int) ≤ ((k : Int) + 1) by omega) (show ((k : Int) + 1) < 9223372036854775808 by omega), k1, k2, kt, kl, km, kl2, kp, kW]
      exact ⟨m - 1, by omega, _, Ext.refl _, k + 1, by omega, rfl, by rw [hstk]; exact f19, f20, rfl⟩
  · have : k = P.length := by omega
    subst this
    rw [List.take_length] at *
    simp -implicitDefEqProofs only [go_sem, ↓reduceIte, reduceCtorEq, Int.reduceEq, Int.reduceLT, Int.reduceLE, Nat.reduceEqDiff, Nat.reduceAdd, Nat.reduceMul, Nat.reduceLeDiff, Nat.reduceSub, Int.reduceNeg, f11, f17, f21, ldc_get G11, Nat.lt_irrefl, Int.ofNat_lt, k1, k2, kt, kl, km, kl2, kp, kW]
    refine loopW_of (fun m f h' => ∃ j, m + j = W.length ∧ h' = h13.set b18 ⟨didC W.length P, W.length⟩ ∧ f 11 = ptr b11 0 ∧ f 17 = .slice aW W.length cW ∧ f 18 = KH.sl b18 0 W.length W.length ∧ f 19 = i64 (stashes P).length ∧ f 20 = .bool ((W.take j).any fun s => decide (s.kind = 3) || decide (s.kind = 4)) ∧ f 22 = i64 j) W.length
      ⟨0, by simp, rfl, by simp -implicitDefEqProofs only [go_sem, ↓reduceIte, reduceCtorEq, Int.reduceEq, Int.reduceLT, Int.reduceLE, Nat.reduceEqDiff, Nat.reduceAdd, Nat.reduceMul, Nat.reduceLeDiff, Nat.reduceSub, Int.reduceNeg, f11, k1, k2, kt, kl, km, kl2, kp, kW], by simp -implicitDefEqProofs only [go_sem, ↓reduceIte, reduceCtorEq, Int.reduceEq, Int.reduceLT, Int.reduceLE, Nat.reduceEqDiff, Nat.reduceAdd, Nat.reduceMul, Nat.reduceLeDiff, Nat.reduceSub, Int.reduceNeg, f17, k1, k2, kt, kl, km, kl2, kp, kW], by simp -implicitDefEqProofs only [go_sem, ↓reduceIte, reduceCtorEq, Int.reduceEq, Int.reduceLT, Int.reduceLE, Nat.reduceEqDiff, Nat.reduceAdd, Nat.reduceMul, Nat.reduceLeDiff, Nat.reduceSub, Int.reduceNeg, f18, k1, k2, kt, kl, km, kl2, kp, kW], by simp -implicitDefEqProofs only [go_sem, ↓reduceIte, reduceCtorEq, Int.reduceEq, Int.reduceLT, Int.reduceLE, Nat.reduceEqDiff, Nat.reduceAdd, Nat.reduceMul, Nat.reduceLeDiff, Nat.reduceSub, Int.reduceNeg, f19, k1, k2, kt, kl, km, kl2, kp, kW], by simp -implicitDefEqProofs only [go_sem, ↓reduceIte, reduceCtorEq, Int.reduceEq, Int.reduceLT, Int.reduceLE, Nat.reduceEqDiff, Nat.reduceAdd, Nat.reduceMul, Nat.reduceLeDiff, Nat.reduceSub, Int.reduceNeg, f20, k1, k2, kt, kl, km, kl2, kp, kW]; rfl, by simp -implicitDefEqProofs only [go_sem, ↓reduceIte, reduceCtorEq, Int.reduceEq, Int.reduceLT, Int.reduceLE, Nat.reduceEqDiff, Nat.reduceAdd, Nat.reduceMul, Nat.reduceLeDiff, Nat.reduceSub, Int.reduceNeg, k1, k2, kt, kl, km, kl2, kp, kW]; rfl⟩ ?_
    clear f11 f17 f18 f19 f20 f21 hm hk
    rintro m f h' ⟨j, hm, rfl, f11, f17, f18, f19, f20, f22⟩
    have sWj := sW.ext e18
    obtain ⟨_, _, bw, ow, ew, _, rw', lw⟩ := sWj
    simp only [kW, Value.slice.injEq, true_and] at ew rw'
    obtain ⟨rfl, rfl⟩ := ew
    by_cases hj : j < W.length
    · have dw := lw j (W[j]).cells (by simp [hj])
      have dw0 := ldc_part dw 0 1 (by omega)
      simp only [Nat.add_zero] at dw0
      have e1 : ldc (h13.set b18 ⟨didC W.length P, W.length⟩) b18 j 1 = some [i64 1] := by
        have hl := didC_get P hj
        rw [pd j hj] at hl
        rw [ldc_get (H.set_get_same _ _ _), if_pos (by simp only [didC_len]; omega)]
        rw [List.getElem?_eq_some_iff] at hl
        obtain ⟨hl1, hl2⟩ := hl
        simp only
        rw [List.drop_eq_getElem_cons hl1, hl2]; rfl
      have hany : ((W.take (j + 1)).any fun s => decide (s.kind = 3) || decide (s.kind = 4)) = (((W.take j).any fun s => decide (s.kind = 3) || decide (s.kind = 4)) || (decide ((W[j]).kind = 3) || decide ((W[j]).kind = 4))) := by
        rw [List.take_succ_eq_append_getElem hj, List.any_append]; simp
      cases ha : ((W.take j).any fun s => decide (s.kind = 3) || decide (s.kind = 4)) with
      | true =>
        rw [ha] at f20 hany
        simp -implicitDefEqProofs only [go_sem, ↓reduceIte, reduceCtorEq, Int.reduceEq, Int.reduceLT, Int.reduceLE, Nat.reduceEqDiff, Nat.reduceAdd, Nat.reduceMul, Nat.reduceLeDiff, Nat.reduceSub, Int.reduceNeg, f17, f18, f20, f22, Int.ofNat_lt, Int.natCast_nonneg, Int.toNat_natCast, Nat.mul_one, hj, rw', dw0, e1, wrap_i64 (show -(9223372036854775808 : Int) ≤ ((j : Int) + 1) by omega) (show ((j : Int) + 1) < 9223372036854775808 by omega), k1, k2, kt, kl, km, kl2, kp, kW]
        exact ⟨m - 1, by omega, _, Ext.refl _, j + 1, by omega, rfl, f11, by rw [hany]; simp [f19]⟩
      | false =>
        rw [ha] at f20 hany
        by_cases k3 : (W[j]).kind = 3
        · simp -implicitDefEqProofs only [go_sem, ↓reduceIte, reduceCtorEq, Int.reduceEq, Int.reduceLT, Int.reduceLE, Nat.reduceEqDiff, Nat.reduceAdd, Nat.reduceMul, Nat.reduceLeDiff, Nat.reduceSub, Int.reduceNeg, f17, f18, f20, f22, Int.ofNat_lt, Int.natCast_nonneg, Int.toNat_natCast, Nat.mul_one, hj, rw', dw0, e1, k3, wrap_i64 (show -(9223372036854775808 : Int) ≤ ((j : Int) + 1) by omega) (show ((j : Int) + 1) < 9223372036854775808 by omega), k1, k2, kt, kl, km, kl2, kp, kW]
          exact ⟨m - 1, by omega, _, Ext.refl _, j + 1, by omega, rfl, f11, by rw [hany]; simp [f19, k3]⟩
        · by_cases k4 : (W[j]).kind = 4
          · simp -implicitDefEqProofs only [go_sem, ↓reduceIte, reduceCtorEq, Int.reduceEq, Int.reduceLT, Int.reduceLE, Nat.reduceEqDiff, Nat.reduceAdd, Nat.reduceMul, Nat.reduceLeDiff, Nat.reduceSub, Int.reduceNeg, f17, f18, f20, f22, Int.ofNat_lt, Int.natCast_nonneg, Int.toNat_natCast, Nat.mul_one, hj, rw', dw0, e1, k3, k4, wrap_i64 (show -(9223372036854775808 : Int) ≤ ((j : Int) + 1) by omega) (show ((j : Int) + 1) < 9223372036854775808 by omega), k1, k2, kt, kl, km, kl2, kp, kW]
            exact ⟨m - 1, by omega, _, Ext.refl _, j + 1, by omega, rfl, f11, by rw [hany]; simp [f19, k4]⟩
          · simp -implicitDefEqProofs only [go_sem, ↓reduceIte, reduceCtorEq, Int.reduceEq, Int.reduceLT, Int.reduceLE, Nat.reduceEqDiff, Nat.reduceAdd, Nat.reduceMul, Nat.reduceLeDiff, Nat.reduceSub, Int.reduceNeg, f17, f18, f20, f22, Int.ofNat_lt, Int.natCast_nonneg, Int.toNat_natCast, Nat.mul_one, hj, rw', dw0, e1, k3, k4, wrap_i64 (show -(9223372036854775808 : Int) ≤ ((j : Int) + 1) by omega) (show ((j : Int) + 1) < 9223372036854775808 by omega), k1, k2, kt, kl, km, kl2, kp, kW]
            exact ⟨m - 1, by omega, _, Ext.refl _, j + 1, by omega, rfl, f11, by rw [hany]; simp [f19, k3, k4]⟩
    · have : j = W.length := by omega
      subst this
      rw [List.take_length] at f20
      have hsn : (stashes P).length = n := by
        have := congrArg List.length pn
        simpa using this
      have hso : slotsOf P = (n : Int) := by unfold slotsOf; rw [if_pos (by omega), slots_stashes, hsn]
      rw [hsn] at f19
      simp -implicitDefEqProofs only [go_sem, ↓reduceIte, reduceCtorEq, Int.reduceEq, Int.reduceLT, Int.reduceLE, Nat.reduceEqDiff, Nat.reduceAdd, Nat.reduceMul, Nat.reduceLeDiff, Nat.reduceSub, Int.reduceNeg, f11, f17, f19, f20, f22, ldc_get G11, Nat.lt_irrefl, Int.ofNat_lt, k1, k2, kt, kl, km, kl2, kp, kW]
      refine PC.use (implSlotsOf_pc (l := P) spk (by omega)) ?_
      rw [hso]
      have hP2 : decide ((P.length : Int) = (W.length : Int) + (n : Int)) = true := decide_eq_true (by omega)
      have hA : n = 0 ∨ (W.any fun s => decide (s.kind = 3) || decide (s.kind = 4)) = true := by
        by_cases hn : n = 0
        · exact .inl hn
        · obtain ⟨i, hi, hk⟩ := pf hn
          rw [stAt_get hi] at hk
          exact .inr (List.any_eq_true.2 ⟨W[i], List.getElem_mem hi, by simpa using hk⟩)
      cases ha : (W.any fun s => decide (s.kind = 3) || decide (s.kind = 4)) with
      | true =>
        rw [ha] at f20
        simp -implicitDefEqProofs only [go_sem, ↓reduceIte, reduceCtorEq, Int.reduceEq, Int.reduceLT, Int.reduceLE, Nat.reduceEqDiff, Nat.reduceAdd, Nat.reduceMul, Nat.reduceLeDiff, Nat.reduceSub, Int.reduceNeg, f11, f17, f19, f20, ldc_get G11, wrap_i64 (show -(9223372036854775808 : Int) ≤ (2 * (n : Int)) by omega) (show (2 * (n : Int)) < 9223372036854775808 by omega), show 2 * (n : Int) ≤ (W.length : Int) by omega, wrap_i64 (show -(9223372036854775808 : Int) ≤ ((W.length : Int) + (n : Int)) by omega) (show ((W.length : Int) + (n : Int)) < 9223372036854775808 by omega), hP2, k1, k2, kt, kl, km, kl2, kp, kW]
      | false =>
        rw [ha] at f20 hA
        have hn : n = 0 := by simpa using hA
        subst hn
        have hP3 : decide ((P.length : Int) = (W.length : Int) + ((0 : Nat) : Int)) = true := hP2
        simp -implicitDefEqProofs only [go_sem, ↓reduceIte, reduceCtorEq, Int.reduceEq, Int.reduceLT, Int.reduceLE, Nat.reduceEqDiff, Nat.reduceAdd, Nat.reduceMul, Nat.reduceLeDiff, Nat.reduceSub, Int.reduceNeg, f11, f17, f19, f20, ldc_get G11, show ((0 : Nat) : Int) = 0 from rfl, Int.mul_zero, Int.add_zero, show (0 : Int) ≤ (W.length : Int) by omega, wrap_i64 (show -(9223372036854775808 : Int) ≤ (0 : Int) by omega) (show (0 : Int) < 9223372036854775808 by omega), wrap_i64 (show -(9223372036854775808 : Int) ≤ (W.length : Int) by omega) (show (W.length : Int) < 9223372036854775808 by omega), show decide ((P.length : Int) = (W.length : Int)) = true from decide_eq_true (by omega), k1, k2, kt, kl, km, kl2, kp, kW]
theorem fnPlan_law (h : H) (args : List Value) (ha : okAs h [.one (.sl [.int .u8]), .one (.sl [.int .u8])] args) : AC Try.prog 11 args h fun r _ => r = .bool true := by
  obtain ⟨v, w, l1, l2, rfl, A, B⟩ := okAs_codes ha
  exact fnPlan_walk A B
section
open Go.ChangeShapes Go.WideShapes Go.ChangeAt Go.RowKit
theorem fnPlan_lifted (os : Os) (started : os.Started) (H' : Type) (enc : TypeId × Value → H') : ReturnsInHanded {} Try.checked os 11 .any (Rows.fnPlanSpec.pre6 enc Try.prog Try.f11 Rows.fnPlanRow.domain false) (Rows.fnPlanSpec.post enc Try.prog Try.f11 false true false false) :=
  law_row (Ck := Try.checked) [.one (.sl [.int .u8]), .one (.sl [.int .u8])] (by kernel_rfl) started (by kernel_rfl) Try.func11 (ChangeSpec.witness6 (enc := enc) (C := Try.checked) false ⟨#[], #[.slice none 0 0, .slice none 0 0], []⟩ 8 (by kernel_rfl) (by kernel_rfl) (by kernel_rfl) (by kernel_rfl))
    (by kernel_rfl) (by kernel_rfl) rfl (by kernel_rfl : Try.prog.underlying (Try.f11.resultTypes.getD 0 0) = some .bool) rfl
    (fun ds hd => by
      rw [show Try.f11.params.toList.length = 2 by kernel_rfl] at hd
      match ds, hd with
      | [_, _], _ => rfl)
    (by kernel_rfl) fnPlan_law
theorem fnPlan_holds : Rows.FnPlanSaid :=
  OpenClaim.holds_of_wide 11 Try.f11 rfl rfl rfl rfl rfl rfl rfl ⟨rfl, rfl, rfl, rfl, rfl⟩ rfl rfl rfl rfl rfl (by kernel_rfl) Try.func11 (by kernel_rfl)
    (of_decide_eq_true (by kernel_rfl)) (by unfold Func.isWrapper; first | (rw [if_pos (by decide +kernel)]; kernel_rfl) | (rw [if_neg (by decide +kernel)]; exact ⟨rfl, rfl⟩))
    (fun os started H' enc _ => fnPlan_lifted os started H' enc)
end
end Go.Proofs.Ytpponffjeilhmaa
