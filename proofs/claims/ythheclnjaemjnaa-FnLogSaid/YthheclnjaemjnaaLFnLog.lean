/- A record is read under its number and no other, no beginning of it is one, and of torn records those before the place are scanned: the given statement, with no condition. -/
import Derived.Test.YthheclnjaemjnaaCLe
import Derived.Test.YthheclnjaemjnaaC09p
import Derived.Test.YthheclnjaemjnaaCF
import Derived.Test.YthheclnjaemjnaaRows
import Derived.ProofKit
import Derived.ShutString
import Derived.ChangeOld
import Derived.Below
set_option linter.unusedVariables false
set_option linter.unusedSimpArgs false
set_option maxRecDepth 100000
namespace Go.Proofs.Ythheclnjaemjnaa
open Go.KH

theorem cellsEq_iiisi (a b c a' b' c' e e' : Int) (d d' : List UInt8) : cellsEq [.i, .i, .i, .s, .i] [i64 a, i64 b, i64 c, str d, i64 e] [i64 a', i64 b', i64 c', str d', i64 e'] = some (decide (a = a' ∧ b = b' ∧ c = c' ∧ d = d' ∧ e = e')) := by
  simp only [cellsEq, le_i, le_s, Option.bind_some]
  by_cases h1 : a = a' <;> by_cases h2 : b = b' <;> by_cases h3 : c = c' <;> by_cases h4 : d = d' <;> by_cases h5 : e = e' <;> simp [h1, h2, h3, h4, h5]
theorem br_cut {P : Program} {p : Prop} {a b r : C} {Q : Ex → Fr → H → Prop} {f : Fr} {h : H} (R : Fr → H → Prop) (ha : p → wpc P a (cutQ R Q) f h) (hb : ¬ p → wpc P b (cutQ R Q) f h) (hr : ∀ f' h', R f' h' → wpc P r Q f' h') : Br p (wpc P a (thenQ P r Q) f h) (wpc P b (thenQ P r Q) f h) :=
  Br.of (fun hp => wpc_cutT R (ha hp) hr) (fun hp => wpc_cutT R (hb hp) hr)
theorem recOut_small {t : List UInt8} (n : Int) (h : t.length ≤ 8000) : recOut t n = recR t n := by unfold recOut; rw [if_neg (by omega)]
/-- laws.FnLog -/
def b_laws_FnLog : C := (.seq (.ops [q 4 (.mv (.c (.bool false)))])
 (.seq (.seq (.ops [q 18 (.mv (.t 0)), q 19 (.len (.t 18)), q 20 (.bin .gtr (.t 19) (.c (i64 1048576))), q 21 (.mv (.t 20)), qg 22 21 false (.mv (.t 1)), qg 23 21 false (.len (.t 22)), qg 24 21 false (.bin .gtr (.t 23) (.c (i64 1048576))), q 25 (.pick (.t 21) (.c (.bool true)) (.t 24))])
 (.cond (.t 25) (.seq (.ops [q 4 (.mv (.c (.bool true)))])
 .ret) .skip))
 (.seq (.ops [q 27 (.mv (.t 0)), ⟨(some 28), none, .call (.c (.func (.func 10) #[] #[])) [(.t 27)]⟩, q 26 (.mv (.t 28)), q 29 (.ext 0 (.t 26)), q 30 (.ext 1 (.t 26)), ⟨(some 6), none, .alloc [(i64 0), (i64 0), (i64 0), (str [])]⟩, q 5 (.mv (.t 29)), ⟨none, none, .st 4 (.t 6) (.t 30)⟩])
 (.seq (.ops [q 31 (.mv (.t 5)), q 32 (.ld true 4 (.t 6)), ⟨(some 33), none, .call (.c (.func (.func 11) #[] #[])) [(.t 31), (.t 32)]⟩, q 7 (.mv (.t 33))])
 (.seq (.ops [q 35 (.mv (.t 1)), ⟨(some 36), none, .call (.c (.func (.func 12) #[] #[])) [(.t 35)]⟩, q 34 (.mv (.t 36)), q 37 (.ext 0 (.t 34)), q 38 (.ext 1 (.t 34)), q 8 (.mv (.t 37)), q 9 (.mv (.t 38))])
 (.seq (.ops [q 39 (.mv (.t 8)), q 40 (.mv (.t 9)), ⟨(some 41), none, .call (.c (.func (.func 13) #[] #[])) [(.t 39), (.t 40)]⟩, ⟨(some 10), none, .alloc [(i64 0), (i64 0), (i64 0), (str []), (i64 0)]⟩, ⟨none, none, .st 5 (.t 10) (.t 41)⟩])
 (.seq (.ops [q 42 (.mv (.t 1)), ⟨(some 43), none, .call (.c (.func (.func 14) #[] #[])) [(.t 42)]⟩, q 11 (.mv (.t 43))])
 (.seq (.ops [q 44 (.mv (.t 11)), ⟨(some 45), none, .call (.c (.func (.func 15) #[] #[])) [(.t 44)]⟩, q 46 (.mv (.t 11)), ⟨(some 47), none, .call (.c (.func (.func 16) #[] #[])) [(.t 46)]⟩, ⟨(some 12), none, .alloc [nils, (i64 0)]⟩, ⟨(some 13), none, .alloc [nils, (i64 0)]⟩, ⟨none, none, .st 2 (.t 12) (.t 45)⟩, ⟨none, none, .st 2 (.t 13) (.t 47)⟩])
 (.seq (.seq (.dops true (.tk (q 48 (.mv (.t 7))) (.tk (q 49 (.mv (.t 5))) (.tk (q 50 (.ld true 4 (.t 6))) (.sq (⟨(some 51), none, .call (.c (.func (.func 17) #[] #[])) [(.t 49), (.t 50)]⟩) (.tk (q 52 (.bin .neq (.t 48) (.t 51))) (.tk (q 53 (.mv (.t 52))) (.tk (qg 54 53 false (.ld true 5 (.t 10))) (.tk (qg 55 53 false (.mv (.t 8))) (.tk (qg 56 53 false (.mv (.t 9))) (.sq (⟨(some 57), (some (53, false)), .call (.c (.func (.func 18) #[] #[])) [(.t 55), (.t 56)]⟩) (.tk (qg 58 53 false (.eqa true [.i, .i, .i, .s, .i] (.t 54) (.t 57))) (.tk (q 59 (.pick (.t 53) (.c (.bool true)) (.t 58))) (.tk (q 60 (.mv (.t 59))) (.tk (qg 61 60 false (.fld 1 (.t 12))) (.tk (qg 62 60 false (.ld false 1 (.t 61))) (.tk (qg 63 60 false (.fld 1 (.t 13))) (.tk (qg 64 60 false (.ld false 1 (.t 63))) (.tk (qg 65 60 false (.bin .neq (.t 62) (.t 64))) (.tk (q 66 (.pick (.t 60) (.c (.bool true)) (.t 65))) (.tk (q 67 (.mv (.t 66))) (.tk (qg 68 67 false (.fld 0 (.t 12))) (.tk (qg 69 67 false (.ld false 1 (.t 68))) (.tk (qg 70 67 false (.fld 0 (.t 13))) (.tk (qg 71 67 false (.ld false 1 (.t 70))) (.sq (⟨(some 72), (some (67, false)), .call (.c (.func (.func 19) #[] #[])) [(.t 69), (.t 71)]⟩) (.tk (qg 73 67 false (.un .not (.t 72))) (.tk (q 74 (.pick (.t 67) (.c (.bool true)) (.t 73))) (.tk (q 75 (.mv (.t 74))) (.tk (qg 76 75 false (.fld 0 (.t 13))) (.tk (qg 77 75 false (.ld false 1 (.t 76))) (.tk (qg 79 75 false (.fld 0 (.t 13))) (.tk (qg 80 75 false (.ld false 1 (.t 79))) (.sq (⟨(some 78), (some (75, false)), .call (.c (.func (.func 20) #[] #[])) [(.t 77)]⟩) (.sq (⟨(some 81), (some (75, false)), .call (.c (.func (.func 21) #[] #[])) [(.t 80)]⟩) (.tk (qg 82 75 false (.bin .neq (.t 78) (.t 81))) (.tk (q 83 (.pick (.t 75) (.c (.bool true)) (.t 82))) .nil)))))))))))))))))))))))))))))))))))))
 (.cond (.t 83) (.seq (.ops [q 4 (.mv (.c (.bool false)))])
 .ret) .skip))
 (.seq (.seq (.ops [q 84 (.mv (.t 7)), q 85 (.bin .neq (.t 84) (.c (str [])))])
 (.cond (.t 85) (.seq (.ops [q 86 (.mv (.t 1)), q 87 (.mv (.t 7)), q 88 (.slen (.t 87)), ⟨(some 89), none, .call (.c (.func (.func 22) #[] #[])) [(.t 86), (.c (i64 0)), (.t 88)]⟩, q 14 (.mv (.t 89))])
 (.seq (.dops true (.tk (q 90 (.mv (.t 7))) (.tk (q 91 (.mv (.t 5))) (.tk (q 93 (.ld true 4 (.t 6))) (.tk (q 94 (.build [(i64 0), (i64 0), (i64 0), (str []), (i64 0)] [(0, 4, (.t 93))])) (.sq (⟨(some 92), none, .call (.c (.func (.func 13) #[] #[])) [(.t 90), (.t 91)]⟩) (.tk (q 95 (.eqa true [.i, .i, .i, .s, .i] (.t 92) (.t 94))) (.tk (q 96 (.mv (.t 95))) (.tk (qg 97 96 false (.mv (.t 7))) (.tk (qg 98 96 false (.mv (.t 5))) (.tk (qg 99 96 false (.bin .add (.t 98) (.c (i64 1)))) (.sq (⟨(some 100), (some (96, false)), .call (.c (.func (.func 13) #[] #[])) [(.t 97), (.t 99)]⟩) (.tk (qg 101 96 false (.part false 4 1 (.t 100))) (.tk (qg 102 96 false (.bin .neq (.t 101) (.c (i64 6)))) (.tk (q 103 (.pick (.t 96) (.c (.bool true)) (.t 102))) (.tk (q 104 (.mv (.t 103))) (.tk (qg 105 104 false (.mv (.t 7))) (.tk (qg 106 104 false (.mv (.t 14))) (.tk (qg 107 104 false (.ssl (.t 105) none (some (.t 106)))) (.tk (qg 108 104 false (.mv (.t 5))) (.sq (⟨(some 109), (some (104, false)), .call (.c (.func (.func 13) #[] #[])) [(.t 107), (.t 108)]⟩) (.tk (qg 110 104 false (.part false 4 1 (.t 109))) (.tk (qg 111 104 false (.bin .eql (.t 110) (.c (i64 0)))) (.tk (q 112 (.pick (.t 104) (.c (.bool true)) (.t 111))) .nil))))))))))))))))))))))))
 (.cond (.t 112) (.seq (.ops [q 4 (.mv (.c (.bool false)))])
 .ret) .skip))) .skip))
 (.seq (.seq (.ops [q 113 (.fld 0 (.t 13)), q 114 (.ld false 1 (.t 113)), q 115 (.len (.t 114)), q 116 (.bin .eql (.t 115) (.c (i64 0))), q 117 (.mv (.t 116)), qg 118 117 false (.mv (.t 11)), qg 119 117 false (.len (.t 118)), qg 120 117 false (.bin .gtr (.t 119) (.c (i64 24))), q 121 (.pick (.t 117) (.c (.bool true)) (.t 120))])
 (.cond (.t 121) (.seq (.ops [q 4 (.mv (.c (.bool true)))])
 .ret) .skip))
 (.seq (.ops [q 122 (.mv (.t 1)), q 123 (.fld 0 (.t 13)), q 124 (.ld false 1 (.t 123)), q 125 (.len (.t 124)), ⟨(some 126), none, .call (.c (.func (.func 22) #[] #[])) [(.t 122), (.c (i64 1)), (.t 125)]⟩, q 15 (.mv (.t 126))])
 (.seq (.ops [⟨(some 127), none, .bsl 0 [] []⟩, q 128 (.mv (.t 11)), ⟨(some 129), none, .app 1 16 (.t 127) (.t 128)⟩, q 16 (.mv (.t 129))])
 (.seq (.dops true (.tk (q 130 (.mv (.t 16))) (.tk (q 131 (.mv (.t 15))) (.tk (q 132 (.mv (.t 16))) (.tk (q 133 (.mv (.t 15))) (.tk (q 134 (.idx 1 (.t 132) (.t 133))) (.tk (q 135 (.ld false 1 (.t 134))) (.tk (q 136 (.mv (.t 1))) (.tk (q 137 (.mv (.t 16))) (.tk (q 138 (.mv (.t 15))) (.tk (q 139 (.idx 1 (.t 137) (.t 138))) (.tk (q 140 (.ld false 1 (.t 139))) (.tk (q 141 (.slen (.t 140))) (.sq (⟨(some 142), none, .call (.c (.func (.func 22) #[] #[])) [(.t 136), (.c (i64 2)), (.t 141)]⟩) (.tk (q 143 (.ssl (.t 135) none (some (.t 142)))) (.tk (q 144 (.idx 1 (.t 130) (.t 131))) (.lt (⟨none, none, .st 1 (.t 144) (.t 143)⟩) .nil)))))))))))))))))
 (.seq (.ops [q 145 (.mv (.t 16)), ⟨(some 146), none, .call (.c (.func (.func 15) #[] #[])) [(.t 145)]⟩, ⟨(some 17), none, .alloc [nils, (i64 0)]⟩, ⟨none, none, .st 2 (.t 17) (.t 146)⟩])
 (.seq (.dops true (.tk (q 147 (.fld 0 (.t 17))) (.tk (q 148 (.ld false 1 (.t 147))) (.tk (q 149 (.fld 0 (.t 13))) (.tk (q 150 (.ld false 1 (.t 149))) (.tk (q 151 (.mv (.t 15))) (.tk (q 152 (.lsl 4 (.t 150) none (some (.t 151)))) (.sq (⟨(some 153), none, .call (.c (.func (.func 19) #[] #[])) [(.t 148), (.t 152)]⟩) (.tk (q 154 (.mv (.t 153))) (.tk (qg 155 154 true (.fld 1 (.t 17))) (.tk (qg 156 154 true (.ld false 1 (.t 155))) (.tk (qg 157 154 true (.mv (.t 15))) (.tk (qg 158 154 true (.bin .leq (.t 156) (.t 157))) (.tk (q 159 (.pick (.t 154) (.t 158) (.c (.bool false)))) (.tk (q 160 (.mv (.t 159))) (.tk (qg 161 160 true (.fld 1 (.t 17))) (.tk (qg 162 160 true (.ld false 1 (.t 161))) (.tk (qg 163 160 true (.bin .eql (.t 162) (.c (i64 0)))) (.tk (qg 164 160 true (.mv (.t 163))) (.tk (qg 165 164 false (.fld 0 (.t 17))) (.tk (qg 166 164 false (.ld false 1 (.t 165))) (.tk (qg 167 164 false (.fld 1 (.t 17))) (.tk (qg 168 164 false (.ld false 1 (.t 167))) (.tk (qg 169 164 false (.bin .sub (.t 168) (.c (i64 1)))) (.tk (qg 170 164 false (.idx 4 (.t 166) (.t 169))) (.tk (qg 171 164 false (.fld 0 (.t 170))) (.tk (qg 172 164 false (.ld false 1 (.t 171))) (.tk (qg 173 164 false (.bin .eql (.t 172) (.c (i64 5)))) (.tk (qg 174 160 true (.pick (.t 164) (.c (.bool true)) (.t 173))) (.tk (q 175 (.pick (.t 160) (.t 174) (.c (.bool false)))) (.tk (q 4 (.mv (.t 175))) .nil)))))))))))))))))))))))))))))))
 .ret))))))))))))))))
theorem w_laws_FnLog {args : List Value} {h : H} {Q : Value → H → Prop} (hl : args.length ≤ 176) (hk : wpc Try.prog b_laws_FnLog (retw [.tmp 4] Q) (argsFr args) h) : AC Try.prog 3 args h Q :=
  AC.of_wpc mixedOrders Try.func3 (by kernel_rfl) (by kernel_rfl : prepF Try.prog Try.f3 = some ⟨176, [.tmp 4], b_laws_FnLog⟩) hl hk

set_option maxHeartbeats 3200000 in
theorem fnLog_walk {h : H} {va vb : Value} {l1 l2 : List UInt8} (A : Sl h va 1 (bys l1)) (B : Sl h vb 1 (bys l2)) : AC Try.prog 3 [va, vb] h fun r _ => r = .bool true := by
  have k1 : (bys l1).length = l1.length := by simp [bys]
  have k2 : (bys l2).length = l2.length := by simp [bys]
  obtain ⟨a1, c1, rfl⟩ := A.shape
  obtain ⟨a2, c2, rfl⟩ := B.shape
  rw [k1] at A
  rw [k2] at B
  skip
  refine w_laws_FnLog (by simp) ?_
  unfold b_laws_FnLog
  simp -implicitDefEqProofs only [go_sem, k1, k2]
  by_cases h1 : 1048576 < l1.length
  · simp -implicitDefEqProofs only [go_sem, show (1048576 : Int) < (l1.length : Int) by omega, k1, k2]
  by_cases h2 : 1048576 < l2.length
  · simp -implicitDefEqProofs only [go_sem, show ¬ (1048576 : Int) < (l1.length : Int) by omega, show (1048576 : Int) < (l2.length : Int) by omega, k1, k2]
  simp -implicitDefEqProofs only [go_sem, show ¬ (1048576 : Int) < (l1.length : Int) by omega, show ¬ (1048576 : Int) < (l2.length : Int) by omega, k1, k2]
  refine AC_of (drawRecordBytes_ac A (by omega)) ?_
  rintro _ h3 - ⟨e3, x, n, hx, hn, rfl⟩
  simp -implicitDefEqProofs only [go_sem, k1, k2]
  intro b6 hb6 n6
  have e6 := (Ext.refl h3).set n6 ⟨x.cells, 4⟩
  have g6 : (h3.set b6 ⟨x.cells, 4⟩).get b6 = some ⟨x.cells, 4⟩ := H.set_get_same _ _ _
  simp -implicitDefEqProofs only [go_sem, hb6, k1, k2]
  generalize hH : h3.set b6 ⟨x.cells, 4⟩ = h4 at e6 g6 ⊢
  have E4 := e3.trans e6
  simp -implicitDefEqProofs only [go_sem, ldc_get g6, k1, k2]
  refine (implRecordBytes_pc _ n x hn hx.1).use ?_
  have h80 := recordBytes_80 hn hx.1
  obtain ⟨t, ht⟩ : ∃ t, recordBytes n x = t := ⟨_, rfl⟩
  rw [ht] at h80 ⊢
  simp -implicitDefEqProofs only [go_sem, k1, k2]
  refine AC_of (drawRecordRead_ac (B.ext E4) (by omega)) ?_
  rintro _ h5 - ⟨e5, u, k, hu, hk, rfl⟩
  simp -implicitDefEqProofs only [go_sem, k1, k2]
  refine (implRecordRead_pc _ u k).use ?_
  obtain ⟨ro, hro⟩ : ∃ ro, recOut u k = ro := ⟨_, rfl⟩
  rw [hro]
  simp -implicitDefEqProofs only [go_sem, k1, k2]
  intro b10 hb10 n10
  have e10 := (Ext.refl h5).set n10 ⟨outC ro, 5⟩
  have g10 : (h5.set b10 ⟨outC ro, 5⟩).get b10 = some ⟨outC ro, 5⟩ := H.set_get_same _ _ _
  simp -implicitDefEqProofs only [go_sem, hb10, k1, k2]
  generalize hH2 : h5.set b10 ⟨outC ro, 5⟩ = h6 at e10 g10 ⊢
  have E6 := E4.trans (e5.trans e10)
  refine AC_of (drawScan_ac (B.ext E6) (by omega)) ?_
  rintro vl h7 - ⟨e7, T, hT, hTl, sT⟩
  have kt : (strs T).length = T.length := by simp
  have hshT := sT.shape
  rw [kt] at hshT
  obtain ⟨aT, cT, rfl⟩ := hshT
  skip
  simp -implicitDefEqProofs only [go_sem, k1, k2, kt]
  refine AC_of (implScan_ac sT (by omega) (fun s hs => by have := hT s hs; omega)) ?_
  rintro _ h8 - ⟨e8, cs8, rfl, F8⟩
  obtain ⟨v8, rfl, f8⟩ := scan_f.1 F8
  simp -implicitDefEqProofs only [go_sem, k1, k2, kt]
  refine AC_of (specScan_ac (sT.ext e8) (by omega) (fun s hs => by have := hT s hs; omega)) ?_
  rintro _ h9 - ⟨e9, cs9, rfl, F9⟩
  obtain ⟨v9, rfl, f9⟩ := scan_f.1 F9
  have o8 := f8.sl.one
  have o9 := f9.sl.one
  have q8 := f8.sl.vcl
  have q9 := f9.sl.vcl
  have hSm := scanOut_small T
  simp -implicitDefEqProofs only [go_sem, k1, k2, kt]
  intro b12 hb12 n12
  simp -implicitDefEqProofs only [go_sem, k1, k2, kt]
  intro b13 hb13 n13
  obtain ⟨z, y, n13'⟩ := fne n13
  simp only [H.set_base] at hb13
  have g69 := ((e10.trans e7).trans (e8.trans e9)).2.g b6 _ (e5.2.g b6 _ g6)
  have g109 := (e7.trans (e8.trans e9)).2.g b10 _ g10
  have z6a : (b6 = b12) = False := eq_false fun e => by rw [← e, g69] at n12; cases n12
  have z6b : (b6 = b13) = False := eq_false fun e => by rw [← e, g69] at n13'; cases n13'
  simp -implicitDefEqProofs only [go_sem, o8, o9, q8, q9, hb12, hb13, z, y, z6a, z6b, ldc_get g69, k1, k2, kt]
  have e12 := ((Ext.refl h9).set n12 ⟨[v8, i64 (scanOut T).kept], 2⟩)
  have g12 : ((h9.set b12 ⟨[v8, i64 (scanOut T).kept], 2⟩).set b13 ⟨[v9, i64 (scanOut T).kept], 2⟩).get b12 = some ⟨[v8, i64 (scanOut T).kept], 2⟩ := by simp -implicitDefEqProofs only [go_sem, z, y, k1, k2, kt]
  have g13 : ((h9.set b12 ⟨[v8, i64 (scanOut T).kept], 2⟩).set b13 ⟨[v9, i64 (scanOut T).kept], 2⟩).get b13 = some ⟨[v9, i64 (scanOut T).kept], 2⟩ := H.set_get_same _ _ _
  have eA : Ext h9 ((h9.set b12 ⟨[v8, i64 (scanOut T).kept], 2⟩).set b13 ⟨[v9, i64 (scanOut T).kept], 2⟩) := ((Ext.refl h9).set' n12 _).set' n13' _
  generalize hH3 : (h9.set b12 ⟨[v8, i64 (scanOut T).kept], 2⟩).set b13 ⟨[v9, i64 (scanOut T).kept], 2⟩ = hA at eA g12 g13 ⊢
  have G6 := eA.2.g b6 _ g69
  have G10 := eA.2.g b10 _ g109
  have s8 := (f8.sl.ext e9).ext eA
  have s9 := f9.sl.ext eA
  have EA := E6.trans (e7.trans (e8.trans (e9.trans eA)))
  have BA := B.ext EA
  have sTA := ((sT.ext e8).ext e9).ext eA
  obtain ⟨S, hS⟩ : ∃ S, scanOut T = S := ⟨_, rfl⟩
  rw [hS] at hSm g12 g13 s8 s9
  clear A B e3 e6 e5 e10 e7 e8 e9 eA E4 E6 EA f8 f9 F8 F9 sT hH hH2 hH3 g6 g10 g69 g109 e12
  refine (specRecordBytes_pc _ n x hn hx.1).use ?_
  rw [ht]
  simp -implicitDefEqProofs only [go_sem, Sub.refl, ldc_get G10, k1, k2, kt]
  refine (specRecordRead_pc _ u k hk (by omega)).use ?_
  rw [hro]
  simp -implicitDefEqProofs only [go_sem, Sub.refl, cellsEq_iiisi, ldc_get g12, ldc_get g13, k1, k2, kt]
  refine (lwSteps_pc s8 s9 (by omega)).use ?_
  simp -implicitDefEqProofs only [go_sem, Sub.refl, ldc_get g13, k1, k2, kt]
  refine (implKeptOf_pc s9 (by omega)).use ?_
  simp -implicitDefEqProofs only [go_sem, Sub.refl, k1, k2, kt]
  refine (specKeptOf_pc s9 (by omega)).use ?_
  simp -implicitDefEqProofs only [go_sem, Sub.refl, k1, k2, kt]
  refine br_cut (fun f h' => h' = hA ∧ f 1 = .slice a2 l2.length c2 ∧ f 11 = .slice aT T.length cT ∧ f 13 = ptr b13 0) (fun h0 => ?_) (fun h0 => ?_) ?_
  · simp -implicitDefEqProofs only [go_sem, k1, k2, kt]
  · have hrec : (0 ≤ n ∧ n ≤ 1000000) ∧ stepOk x 8 ∧ recordB n x = t := by
      unfold recordBytes at ht
      split at ht
      · rename_i hc; exact ⟨hc.1, hc.2, ht⟩
      · exact absurd ht.symm h0
    obtain ⟨hn6, hx8, rfl⟩ := hrec
    have htl : 0 < (recordB n x).length := List.length_pos_iff.2 h0
    obtain ⟨at', ⟨p0, p1, p2⟩, pc0⟩ := lwAt_pc BA (by omega) (at' := 0) (most := ((recordB n x).length : Int)) (by omega) (by unfold in64; omega)
    have pc : PC Try.prog 22 [.slice a2 l2.length c2, i64 0, i64 (recordB n x).length] hA (i64 at') := pc0
    have hat : at' < (recordB n x).length := by
      by_cases h1 : (1 : Int) < (recordB n x).length
      · exact p1 h1
      · have := p2 (by omega); omega
    obtain ⟨j, rfl⟩ : ∃ j : Nat, at' = j := ⟨at'.toNat, by omega⟩
    have r1 : recOut (recordB n x) n = (x, 0) := by rw [recOut_small _ (by omega), recR_put hn6 hx.1 hx8, if_pos rfl]
    have r2 : recOut (recordB n x) (n + 1) = (step0, 6) := by rw [recOut_small _ (by omega), recR_put hn6 hx.1 hx8, if_neg (by omega)]
    have r3 : (recOut ((recordB n x).take j) n).2 ≠ 0 := by
      rw [recOut_small _ (by rw [List.length_take]; omega)]
      exact recR_cut (by omega)
    simp -implicitDefEqProofs only [go_sem, k1, k2, kt]
    refine pc.use ?_
    simp -implicitDefEqProofs only [go_sem, ldc_get G6, k1, k2, kt]
    refine (implRecordRead_pc _ (recordB n x) n).use ?_
    rw [r1]
    simp -implicitDefEqProofs only [go_sem, Sub.refl, cellsEq_iiisi, wrap_i64 (show -(9223372036854775808 : Int) ≤ (n + 1) by omega) (show (n + 1) < 9223372036854775808 by omega), k1, k2, kt]
    refine (implRecordRead_pc _ (recordB n x) (n + 1)).use ?_
    rw [r2]
    simp -implicitDefEqProofs only [go_sem, Sub.refl, Int.natCast_nonneg, show (j : Int) ≤ ((recordB n x).length : Int) by omega, Int.toNat_natCast, k1, k2, kt]
    refine (implRecordRead_pc _ ((recordB n x).take j) n).use ?_
    simp -implicitDefEqProofs only [go_sem, Sub.refl, r3, k1, k2, kt]
  rintro f h' ⟨rfl, w1, w11, w13⟩
  have kS : (S.steps.map UStep.cells).length = S.steps.length := by simp
  have hsh9 := s9.shape
  rw [kS] at hsh9
  obtain ⟨a9, c9, rfl⟩ := hsh9
  skip
  by_cases hS0 : S.steps.length = 0
  · simp -implicitDefEqProofs only [go_sem, w1, w11, w13, ldc_get g13, show ((S.steps.length : Int) = 0) = True from eq_true (by omega), k1, k2, kt, kS]
  by_cases hT24 : 24 < T.length
  · have : S.steps.length = 0 := by rw [← hS]; unfold scanOut; rw [if_pos hT24]; rfl
    exact absurd this hS0
  have hSY : S = ⟨scanN 0 T, keptOf (scanN 0 T)⟩ := by rw [← hS]; unfold scanOut; rw [if_neg hT24]
  have hYT := scanN_len T 0
  have hSl : S.steps = scanN 0 T := by rw [hSY]
  obtain ⟨cI, ⟨p0, p1, p2⟩, pc0⟩ := lwAt_pc BA (by omega) (at' := 1) (most := (S.steps.length : Int)) (by omega) (by unfold in64; omega)
  have pc : PC Try.prog 22 [.slice a2 l2.length c2, i64 1, i64 S.steps.length] h' (i64 cI) := pc0
  have hcI : cI < S.steps.length := by
    by_cases h1 : (1 : Int) < S.steps.length
    · exact p1 h1
    · have := p2 (by omega); omega
  obtain ⟨c, rfl⟩ : ∃ c : Nat, cI = c := ⟨cI.toNat, by omega⟩
  have hcY : c < (scanN 0 T).length := by rw [← hSl]; omega
  obtain ⟨hcT, hrc⟩ := scanN_get T 0 c hcY
  rw [Nat.zero_add] at hrc
  obtain ⟨hc6, hc8, hcok, hce⟩ := recR_of hrc
  have htl : 0 < (T[c]).length := by rw [← hce]; unfold recordB; rw [sealB_len]; omega
  simp -implicitDefEqProofs only [go_sem, w1, w11, w13, ldc_get g13, show ((S.steps.length : Int) = 0) = False from eq_false (by omega), show ¬ (24 : Int) < (T.length : Int) by omega, k1, k2, kt, kS]
  refine pc.use ?_
  simp -implicitDefEqProofs only [go_sem, w1, w11, w13, k1, k2, kt, kS]
  intro b20 hb20 n20
  have e20 := (Ext.refl h').set n20 ⟨[], 0⟩
  simp -implicitDefEqProofs only [go_sem, (sTA.ext e20).src (strs_wid _) (by decide), w11, k1, k2, kt, kS]
  refine app0 (rows := strs T) hb20 n20 (by rw [kt]) (strs_wid T) (strs_one T) (by rw [kt]; omega) ?_
  intro vm h2 e2 om
  have hTc := hT _ (List.getElem_mem hcT)
  obtain ⟨qI, ⟨q0, q1, q2⟩, pq0⟩ := lwAt_pc (BA.ext e2) (by omega) (at' := 2) (most := ((T[c]).length : Int)) (by omega) (by unfold in64; omega)
  have pq : PC Try.prog 22 [.slice a2 l2.length c2, i64 2, i64 (T[c]).length] h2 (i64 qI) := pq0
  have hqI : qI < (T[c]).length := by
    by_cases h1 : (1 : Int) < (T[c]).length
    · exact q1 h1
    · have := q2 (by omega); omega
  obtain ⟨q, rfl⟩ : ∃ q : Nat, qI = q := ⟨qI.toNat, by omega⟩
  have hlenT : (strs T).length = T.length := by simp
  obtain ⟨bs, cs, z, hus, hbs, nbs, gs, hst, o3⟩ := own_put om (k := c) (by rw [hlenT]; exact hcT) (r := [str ((T[c]).take q)]) rfl rfl
  have hld := ldc_pre gs (List.prefix_refl _) (strs_wid T) (k := c) (by rw [hlenT]; exact hcT)
  rw [show (strs T)[c]'(by rw [hlenT]; exact hcT) = [str T[c]] by simp] at hld
  have hsy : strs (T.set c ((T[c]).take q)) = (strs T).set c [str ((T[c]).take q)] := by rw [strs, strs, List.map_set]
  rw [hlenT] at hus
  rw [← hsy] at hst o3
  have vcm := om.sl.vcl
  subst hus
  simp -implicitDefEqProofs only [go_sem, w1, hcT, hld, Int.ofNat_lt, Int.natCast_nonneg, Int.toNat_natCast, k1, k2, kt, kS]
  refine pq.use ?_
  simp -implicitDefEqProofs only [go_sem, Sub.refl, hcT, hbs, hst, show (q : Int) ≤ ((T[c]).length : Int) by omega, Int.ofNat_lt, Int.natCast_nonneg, Int.toNat_natCast, k1, k2, kt, kS]
  have hT' : (T.set c ((T[c]).take q)).length = T.length := by simp
  have hTs : ∀ s ∈ T.set c ((T[c]).take q), s.length ≤ 101 := all_set c hT (by rw [List.length_take]; omega)
  have htorn : (recR ((T[c]).take q) (c : Int)).2 ≠ 0 := by
    have := recR_cut (n := (c : Int)) (s := (recR T[c] (c : Int)).1) (k := q) (by rw [hce]; omega)
    rwa [hce] at this
  have hZ : scanOut (T.set c ((T[c]).take q)) = ⟨S.steps.take c, keptOf (S.steps.take c)⟩ := by
    unfold scanOut
    rw [if_neg (by omega), scanN_torn T 0 c _ hcY (by rw [Nat.zero_add]; exact htorn), hSl]
  have eB := e2.set' nbs ⟨(strs (T.set c ((T[c]).take q))).flatten, z⟩
  have s3 := o3.sl
  generalize hB : h2.set bs ⟨(strs (T.set c ((T[c]).take q))).flatten, z⟩ = hB at eB s3 ⊢
  refine AC_of (implScan_ac s3 (by omega) (fun s hs => by have := hTs s hs; omega)) ?_
  rintro _ h8 - ⟨e8, cs8, rfl, F8⟩
  rw [hZ] at F8
  obtain ⟨vz, rfl, fz⟩ := scan_f.1 F8
  obtain ⟨Z, hZd⟩ : ∃ Z, S.steps.take c = Z := ⟨_, rfl⟩
  have lZ : Z.length = c := by rw [← hZd, List.length_take]; omega
  rw [hZd] at fz
  have oz := fz.sl.one
  have vz1 := fz.sl.vcl
  simp only [hZd]
  simp -implicitDefEqProofs only [go_sem, k1, k2, kt, kS]
  intro b17 hb17 n17
  have e17 := (Ext.refl h8).set n17 ⟨[vz, i64 (keptOf Z)], 2⟩
  have g17 : (h8.set b17 ⟨[vz, i64 (keptOf Z)], 2⟩).get b17 = some ⟨[vz, i64 (keptOf Z)], 2⟩ := H.set_get_same _ _ _
  have G13 := (eB.trans (e8.trans e17)).2.g b13 _ g13
  have s9' := (s9.ext (eB.trans (e8.trans e17)))
  have sz : Sl (h8.set b17 ⟨[vz, i64 (keptOf Z)], 2⟩) vz 4 (Z.map UStep.cells) := fz.sl.ext e17
  have hc9 : c ≤ c9 := by
    obtain ⟨_, _, _, _, e, hc', _⟩ := s9
    simp only [Value.slice.injEq] at e
    rw [kS] at hc'
    omega
  simp -implicitDefEqProofs only [go_sem, oz, vz1, hb17, k1, k2, kt, kS]
  generalize hC : h8.set b17 ⟨[vz, i64 (keptOf Z)], 2⟩ = hC at g17 G13 s9' sz ⊢
  have st9 := s9'.take (hi := c) (by omega)
  rw [← List.map_take, hZd] at st9
  simp -implicitDefEqProofs only [go_sem, w13, ldc_get g17, ldc_get G13, Int.natCast_nonneg, show (c : Int) ≤ (c9 : Int) by omega, Int.toNat_natCast, k1, k2, kt, kS]
  refine (lwSteps_pc sz st9 (by omega)).use ?_
  have hK : keptOf Z ≤ c := by
    unfold keptOf
    have := kept_le Z
    split <;> omega
  by_cases hK0 : keptOf Z = 0
  · simp -implicitDefEqProofs only [go_sem, Sub.refl, ldc_get g17, hK, eq_true hK0, k1, k2, kt, kS]
  obtain ⟨k', hk', hke, h5⟩ : ∃ k' : Nat, ∃ h : k' < Z.length, keptOf Z = k' + 1 ∧ Z[k'].kind = 5 := by
    unfold keptOf at hK0 ⊢
    split at hK0
    · rename_i h20
      rw [if_pos h20]
      exact (kept_at Z).resolve_left hK0
    · exact absurd rfl hK0
  obtain ⟨_, _, bz, oz', ez, _, rz, lz⟩ := sz
  have dz := lz k' (Z[k']).cells (by simp [hk'])
  have dz0 := ldc_part dz 0 1 (by omega)
  simp only [List.drop_zero, List.take_succ_cons, List.take_zero, Nat.add_zero] at dz0
  have lzm : (Z.map UStep.cells).length = Z.length := by simp
  rw [lzm] at ez rz
  subst ez
  rw [hke] at hK hK0
  simp -implicitDefEqProofs only [go_sem, Sub.refl, ldc_get g17, hke, hK, eq_false hK0, wrap_i64 (show -(9223372036854775808 : Int) ≤ (k' : Int) by omega) (show (k' : Int) < 9223372036854775808 by omega), show (k' : Int) + 1 - 1 = (k' : Int) by omega, rz, dz0, hk', h5, Int.ofNat_lt, Int.natCast_nonneg, Int.toNat_natCast, k1, k2, kt, kS]
theorem fnLog_law (h : H) (args : List Value) (ha : okAs h [.one (.sl [.int .u8]), .one (.sl [.int .u8])] args) : AC Try.prog 3 args h fun r _ => r = .bool true := by
  obtain ⟨v, w, l1, l2, rfl, A, B⟩ := okAs_codes ha
  exact fnLog_walk A B
section
open Go.ChangeShapes Go.WideShapes Go.ChangeAt Go.RowKit
theorem fnLog_lifted (os : Os) (started : os.Started) (H' : Type) (enc : TypeId × Value → H') : ReturnsInHanded {} Try.checked os 3 .any (Rows.fnLogSpec.pre6 enc Try.prog Try.f3 Rows.fnLogRow.domain false) (Rows.fnLogSpec.post enc Try.prog Try.f3 false true false false) :=
  law_row (Ck := Try.checked) [.one (.sl [.int .u8]), .one (.sl [.int .u8])] (by kernel_rfl) started (by kernel_rfl) Try.func3 (ChangeSpec.witness6 (enc := enc) (C := Try.checked) false ⟨#[], #[.slice none 0 0, .slice none 0 0], []⟩ 8 (by kernel_rfl) (by kernel_rfl) (by kernel_rfl) (by kernel_rfl))
    (by kernel_rfl) (by kernel_rfl) rfl (by kernel_rfl : Try.prog.underlying (Try.f3.resultTypes.getD 0 0) = some .bool) rfl
    (fun ds hd => by
      rw [show Try.f3.params.toList.length = 2 by kernel_rfl] at hd
      match ds, hd with
      | [_, _], _ => rfl)
    (by kernel_rfl) fnLog_law
theorem fnLog_holds : Rows.FnLogSaid :=
  OpenClaim.holds_of_wide 3 Try.f3 rfl rfl rfl rfl rfl rfl rfl ⟨rfl, rfl, rfl, rfl, rfl⟩ rfl rfl rfl rfl rfl (by kernel_rfl) Try.func3 (by kernel_rfl)
    (of_decide_eq_true (by kernel_rfl)) (by unfold Func.isWrapper; first | (rw [if_pos (by decide +kernel)]; kernel_rfl) | (rw [if_neg (by decide +kernel)]; exact ⟨rfl, rfl⟩))
    (fun os started H' enc _ => fnLog_lifted os started H' enc)
end
end Go.Proofs.Ythheclnjaemjnaa
