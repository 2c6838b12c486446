/- A package comes back from its bytes and is refused with one byte turned; the package from one image to another fits the first: the given statement, with no condition. -/
import Derived.Test.YthjbhdmjfakfaaaGreatDoorCZn
import Derived.Test.YthjbhdmjfakfaaaGreatDoorMK31
import Derived.Test.YthjbhdmjfakfaaaGreatDoorMCDw
import Derived.Test.YthjbhdmjfakfaaaGreatDoorRows
import Derived.Test.YthjbhdmjfakfaaaGreatDoorCards
import Derived.Test.YthjbhdmjfakfaaaGreatDoorTie
import Derived.SevenTiedAt
import Derived.ProofKit
import Derived.ShutString
import Derived.ChangeOld
import Derived.Below
set_option linter.unusedVariables false
set_option linter.unusedSimpArgs false
set_option maxRecDepth 100000
namespace Go.Proofs.YthjbhdmjfakfaaaGreatDoor
open Go.KH

theorem br_cut {P : Program} {p : Prop} {a b r : C} {Q : Ex → Fr → H → Prop} {f : Fr} {h : H} (R : Fr → H → Prop) (ha : p → wpc P a (cutQ R Q) f h) (hb : ¬ p → wpc P b (cutQ R Q) f h) (hr : ∀ f' h', R f' h' → wpc P r Q f' h') : Br p (wpc P a (thenQ P r Q) f h) (wpc P b (thenQ P r Q) f h) :=
  Br.of (fun hp => wpc_cutT R (ha hp) hr) (fun hp => wpc_cutT R (hb hp) hr)
theorem xor_other (x : UInt8) {n : Nat} (h0 : 0 < n) (h1 : n < 256) : ¬ x = x ^^^ UInt8.ofNat n := by
  intro h
  have h2 : UInt8.ofNat n = 0 := by
    have := congrArg (fun y => x ^^^ y) h
    simp only [← UInt8.xor_assoc, UInt8.xor_self, UInt8.zero_xor] at this
    exact this.symm
  have h3 := congrArg UInt8.toNat h2
  simp at h3
  omega
theorem stepOk_ok {s : UStep} {b : Int} (h : stepOk s b) (hb : b ≤ 8) : s.ok := by
  have e := show maxLen = 9223372036854775807 from rfl
  have hd := stepOk_data h
  obtain ⟨a1, a2, a3, a4⟩ := h
  refine ⟨in64_small (by omega), in64_small ?_, in64_small ?_, by omega⟩
  · split at a2 <;> omega
  · split at a3
    · omega
    · split at a3 <;> omega
theorem pkgOk_ok {p : UPkg} (h : pkgOk p) : p.ok := by
  have e := show maxLen = 9223372036854775807 from rfl
  obtain ⟨h1, h2, h3⟩ := pkgOk_steps h
  have := h.2
  exact ⟨in64_small (by omega), by omega, by omega, fun s hs => stepOk_ok (h3 s hs) (by omega)⟩
theorem pkgR_zero {t : List UInt8} (h : (pkgR t).2 = 0) : pkgOk (pkgR t).1 := by
  have h1 := pkgR_bytes h
  apply Classical.byContradiction
  intro hn
  unfold pkgBytes at h1
  rw [if_neg hn] at h1
  rw [← h1] at h
  revert h
  decide
/-- laws.FnPackage -/
def b_laws_FnPackage : C := (.seq (.ops [q 4 (.mv (.c (.bool false)))])
 (.seq (.seq (.ops [q 16 (.mv (.t 0)), q 17 (.len (.t 16)), q 18 (.bin .gtr (.t 17) (.c (i64 1048576))), q 19 (.mv (.t 18)), qg 20 19 false (.mv (.t 1)), qg 21 19 false (.len (.t 20)), qg 22 19 false (.bin .gtr (.t 21) (.c (i64 1048576))), q 23 (.pick (.t 19) (.c (.bool true)) (.t 22))])
 (.cond (.t 23) (.seq (.ops [q 4 (.mv (.c (.bool true)))])
 .ret) .skip))
 (.seq (.ops [q 25 (.mv (.t 0)), ⟨(some 26), none, .call (.c (.func (.func 6) #[] #[])) [(.t 25)]⟩, q 24 (.mv (.t 26)), q 27 (.ext 0 (.t 24)), q 28 (.ext 1 (.t 24)), q 5 (.mv (.t 27)), q 6 (.mv (.t 28))])
 (.seq (.ops [q 29 (.mv (.t 5)), q 30 (.mv (.t 6)), ⟨(some 31), none, .call (.c (.func (.func 7) #[] #[])) [(.t 29), (.t 30)]⟩, ⟨(some 7), none, .alloc [(i64 0), (str []), nils, (i64 0)]⟩, ⟨none, none, .st 4 (.t 7) (.t 31)⟩])
 (.seq (.ops [q 32 (.mv (.t 1)), ⟨(some 33), none, .call (.c (.func (.func 8) #[] #[])) [(.t 32)]⟩, ⟨(some 8), none, .alloc [(i64 0), (str []), nils]⟩, ⟨none, none, .st 3 (.t 8) (.t 33)⟩])
 (.seq (.ops [q 34 (.ld true 3 (.t 8)), ⟨(some 35), none, .call (.c (.func (.func 9) #[] #[])) [(.t 34)]⟩, q 9 (.mv (.t 35))])
 (.seq (.ops [q 36 (.mv (.t 1)), ⟨(some 37), none, .call (.c (.func (.func 10) #[] #[])) [(.t 36)]⟩, q 10 (.mv (.t 37))])
 (.seq (.ops [q 38 (.mv (.t 10)), ⟨(some 39), none, .call (.c (.func (.func 11) #[] #[])) [(.t 38)]⟩, ⟨(some 11), none, .alloc [(i64 0), (str []), nils, (i64 0)]⟩, ⟨none, none, .st 4 (.t 11) (.t 39)⟩])
 (.seq (.ops [q 41 (.mv (.t 1)), ⟨(some 42), none, .call (.c (.func (.func 12) #[] #[])) [(.t 41)]⟩, q 40 (.mv (.t 42)), q 43 (.ext 0 (.t 40)), q 44 (.ext 1 (.t 40)), ⟨(some 12), none, .alloc [(i64 0), (str []), nils]⟩, ⟨none, none, .st 3 (.t 12) (.t 43)⟩, q 13 (.mv (.t 44))])
 (.seq (.seq (.dopx (.tk (q 45 (.ld true 4 (.t 7))) (.tk (q 46 (.mv (.t 5))) (.tk (q 47 (.mv (.t 6))) (.sq (⟨(some 48), none, .call (.c (.func (.func 14) #[] #[])) [(.t 46), (.t 47)]⟩) (.sq (⟨(some 49), none, .call (.c (.func (.func 13) #[] #[])) [(.t 45), (.t 48)]⟩) (.tk (q 50 (.un .not (.t 49))) (.tk (q 51 (.mv (.t 50))) (.tk (qg 52 51 false (.mv (.t 9))) (.tk (qg 53 51 false (.ld true 3 (.t 8))) (.sq (⟨(some 54), (some (51, false)), .call (.c (.func (.func 15) #[] #[])) [(.t 53)]⟩) (.tk (qg 55 51 false (.bin .neq (.t 52) (.t 54))) (.tk (q 56 (.pick (.t 51) (.c (.bool true)) (.t 55))) (.tk (q 57 (.mv (.t 56))) (.tk (qg 58 57 false (.ld true 4 (.t 11))) (.tk (qg 59 57 false (.mv (.t 10))) (.sq (⟨(some 60), (some (57, false)), .call (.c (.func (.func 16) #[] #[])) [(.t 59)]⟩) (.sq (⟨(some 61), (some (57, false)), .call (.c (.func (.func 13) #[] #[])) [(.t 58), (.t 60)]⟩) (.tk (qg 62 57 false (.un .not (.t 61))) (.tk (q 63 (.pick (.t 57) (.c (.bool true)) (.t 62))) (.tk (q 64 (.mv (.t 63))) (.tk (qg 65 64 false (.ld true 3 (.t 12))) (.tk (qg 66 64 false (.mv (.t 13))) (.tk (qg 68 64 false (.ld true 3 (.t 12))) (.tk (qg 69 64 false (.mv (.t 13))) (.sq (⟨(some 67), (some (64, false)), .call (.c (.func (.func 17) #[] #[])) [(.t 65), (.t 66)]⟩) (.sq (⟨(some 70), (some (64, false)), .call (.c (.func (.func 18) #[] #[])) [(.t 68), (.t 69)]⟩) (.tk (qg 71 64 false (.bin .neq (.t 67) (.t 70))) (.tk (q 72 (.pick (.t 64) (.c (.bool true)) (.t 71))) (.tk (q 73 (.mv (.t 72))) (.tk (qg 74 73 false (.ld true 3 (.t 8))) (.tk (qg 76 73 false (.ld true 3 (.t 8))) (.sq (⟨(some 75), (some (73, false)), .call (.c (.func (.func 19) #[] #[])) [(.t 74)]⟩) (.sq (⟨(some 77), (some (73, false)), .call (.c (.func (.func 20) #[] #[])) [(.t 76)]⟩) (.tk (qg 78 73 false (.eqb true (.t 75) (.t 77))) (.tk (q 79 (.pick (.t 73) (.c (.bool true)) (.t 78))) .nil))))))))))))))))))))))))))))))))))))
 (.cond (.t 79) (.seq (.ops [q 4 (.mv (.c (.bool false)))])
 .ret) .skip))
 (.seq (.seq (.ops [q 80 (.fld 3 (.t 11)), q 81 (.ld false 1 (.t 80)), q 82 (.bin .eql (.t 81) (.c (i64 0))), q 83 (.mv (.t 82)), qg 84 83 true (.fld 0 (.t 11)), qg 85 83 true (.ld true 3 (.t 84)), ⟨(some 86), (some (83, true)), .call (.c (.func (.func 9) #[] #[])) [(.t 85)]⟩, qg 87 83 true (.mv (.t 10)), qg 88 83 true (.bin .neq (.t 86) (.t 87)), q 89 (.pick (.t 83) (.t 88) (.c (.bool false)))])
 (.cond (.t 89) (.seq (.ops [q 4 (.mv (.c (.bool false)))])
 .ret) .skip))
 (.seq (.seq (.ops [q 90 (.mv (.t 9)), q 91 (.bin .neq (.t 90) (.c (str [])))])
 (.cond (.t 91) (.seq (.ops [q 92 (.mv (.t 9)), ⟨(some 93), none, .s2b (.t 92)⟩, q 14 (.mv (.t 93))])
 (.seq (.ops [q 94 (.mv (.t 1)), q 95 (.mv (.t 14)), q 96 (.len (.t 95)), ⟨(some 97), none, .call (.c (.func (.func 21) #[] #[])) [(.t 94), (.c (i64 0)), (.t 96)]⟩, q 15 (.mv (.t 97))])
 (.seq (.dopx (.tk (q 98 (.mv (.t 14))) (.tk (q 99 (.mv (.t 15))) (.tk (q 100 (.mv (.t 14))) (.tk (q 101 (.mv (.t 15))) (.tk (q 102 (.idx 1 (.t 100) (.t 101))) (.tk (q 103 (.ld false 1 (.t 102))) (.tk (q 104 (.mv (.t 1))) (.sq (⟨(some 105), none, .call (.c (.func (.func 21) #[] #[])) [(.t 104), (.c (i64 1)), (.c (i64 255))]⟩) (.tk (q 106 (.bin .add (.c (i64 1)) (.t 105))) (.tk (q 107 (.cv .u8 (.t 106))) (.tk (q 108 (.bin .xor (.t 103) (.t 107))) (.tk (q 109 (.idx 1 (.t 98) (.t 99))) (.lt (⟨none, none, .st 1 (.t 109) (.t 108)⟩) .nil))))))))))))))
 (.seq (.dopx (.tk (q 110 (.mv (.t 9))) (.tk (q 112 (.ld true 3 (.t 8))) (.tk (q 113 (.build [(i64 0), (str []), nils, (i64 0)] [(0, 3, (.t 112))])) (.sq (⟨(some 111), none, .call (.c (.func (.func 11) #[] #[])) [(.t 110)]⟩) (.sq (⟨(some 114), none, .call (.c (.func (.func 13) #[] #[])) [(.t 111), (.t 113)]⟩) (.tk (q 115 (.un .not (.t 114))) (.tk (q 116 (.mv (.t 115))) (.tk (qg 117 116 false (.mv (.t 14))) (.tk (qg 118 116 false (.b2s (.t 117))) (.sq (⟨(some 119), (some (116, false)), .call (.c (.func (.func 11) #[] #[])) [(.t 118)]⟩) (.tk (qg 120 116 false (.part false 3 1 (.t 119))) (.tk (qg 121 116 false (.bin .neq (.t 120) (.c (i64 5)))) (.tk (q 122 (.pick (.t 116) (.c (.bool true)) (.t 121))) .nil))))))))))))))
 (.cond (.t 122) (.seq (.ops [q 4 (.mv (.c (.bool false)))])
 .ret) .skip))))) .skip))
 (.seq (.ops [q 123 (.fld 3 (.t 7)), q 124 (.ld false 1 (.t 123)), q 125 (.bin .neq (.t 124) (.c (i64 0))), q 126 (.mv (.t 125)), qg 127 126 false (.fld 0 (.t 7)), qg 128 126 false (.ld true 3 (.t 127)), qg 129 126 false (.mv (.t 5)), ⟨(some 130), (some (126, false)), .call (.c (.func (.func 17) #[] #[])) [(.t 128), (.t 129)]⟩, qg 131 126 false (.bin .eql (.t 130) (.c (i64 0))), qg 132 126 false (.mv (.t 131)), qg 133 132 true (.mv (.t 5)), qg 134 132 true (.fld 0 (.t 7)), qg 135 132 true (.fld 2 (.t 134)), qg 136 132 true (.ld false 1 (.t 135)), ⟨(some 137), (some (132, true)), .call (.c (.func (.func 23) #[] #[])) [(.t 133), (.t 136)]⟩, qg 138 132 true (.part false 0 1 (.t 137)), qg 139 132 true (.mv (.t 6)), ⟨(some 140), (some (132, true)), .call (.c (.func (.func 22) #[] #[])) [(.t 138), (.t 139)]⟩, qg 141 126 false (.pick (.t 132) (.t 140) (.c (.bool false))), q 142 (.pick (.t 126) (.c (.bool true)) (.t 141)), q 4 (.mv (.t 142))])
 .ret)))))))))))))
theorem w_laws_FnPackage {args : List Value} {h : H} {Q : Value → H → Prop} (hl : args.length ≤ 143) (hk : wpc Tryz.prog b_laws_FnPackage (retw [.tmp 4] Q) (argsFr args) h) : AC Tryz.prog 3 args h Q :=
  AC.of_wpcx mixedOrders Tryz.func3 (by kernel_rfl) (by kernel_rfl : prepFx Tryz.prog Tryz.f3 = some ⟨143, [.tmp 4], b_laws_FnPackage⟩) hl hk

set_option maxHeartbeats 3200000 in
theorem fnPackage_walk {h : H} (tb : Tabs h) {va vb : Value} {l1 l2 : List UInt8} (A : Sl h va 1 (bys l1)) (B : Sl h vb 1 (bys l2)) : AC Tryz.prog 3 [va, vb] h fun r _ => r = .bool true := by
  have k1 : (bys l1).length = l1.length := by simp [bys]
  have k2 : (bys l2).length = l2.length := by simp [bys]
  obtain ⟨a1, c1, rfl⟩ := A.shape
  obtain ⟨a2, c2, rfl⟩ := B.shape
  rw [k1] at A
  rw [k2] at B
  skip
  refine w_laws_FnPackage (by simp) ?_
  unfold b_laws_FnPackage
  simp -implicitDefEqProofs only [go_sem, k1, k2]
  by_cases h1 : 1048576 < l1.length
  · simp -implicitDefEqProofs only [go_sem, show (1048576 : Int) < (l1.length : Int) by omega, k1, k2]
  by_cases h2 : 1048576 < l2.length
  · simp -implicitDefEqProofs only [go_sem, show ¬ (1048576 : Int) < (l1.length : Int) by omega, show (1048576 : Int) < (l2.length : Int) by omega, k1, k2]
  simp -implicitDefEqProofs only [go_sem, show ¬ (1048576 : Int) < (l1.length : Int) by omega, show ¬ (1048576 : Int) < (l2.length : Int) by omega, k1, k2]
  refine AC_of (drawPackageOf_ac A (by omega)) ?_
  rintro _ h3 - ⟨e3, P, Q, vP, vQ, rfl, hP9, hP10, sP, hQ9, hQ10, sQ⟩
  simp -implicitDefEqProofs only [go_sem, k1, k2]
  refine AC_of (implPackageOf_ac (tb.ext e3) sP sQ (by omega) (by omega)) ?_
  rintro _ h4 - ⟨e4, cX, rfl, FX⟩
  obtain ⟨vX, rfl, fX⟩ := po_f.1 FX
  have x1 := fX.sl.one
  have x2 := fX.sl.vcl
  simp -implicitDefEqProofs only [go_sem, x1, x2, k1, k2]
  intro b7 hb7 n7
  simp -implicitDefEqProofs only [go_sem, hb7, x1, x2, k1, k2]
  have E3 := e3.trans e4
  have e7 := (Ext.refl h4).set n7 ⟨[i64 (packageOut P Q).1.blocks, str (packageOut P Q).1.digest, vX, i64 (packageOut P Q).2], 4⟩
  have g7 : (h4.set b7 ⟨[i64 (packageOut P Q).1.blocks, str (packageOut P Q).1.digest, vX, i64 (packageOut P Q).2], 4⟩).get b7 = some ⟨[i64 (packageOut P Q).1.blocks, str (packageOut P Q).1.digest, vX, i64 (packageOut P Q).2], 4⟩ := H.set_get_same _ _ _
  have sX := fX.sl.ext e7
  have E7 := E3.trans e7
  have sP7 := (sP.ext e4).ext e7
  have sQ7 := (sQ.ext e4).ext e7
  generalize h4.set b7 ⟨[i64 (packageOut P Q).1.blocks, str (packageOut P Q).1.digest, vX, i64 (packageOut P Q).2], 4⟩ = h7 at *
  refine AC_of (drawPackageBytes_ac (B.ext E7) (by omega)) ?_
  rintro _ h8 - ⟨e8, p, _, vp, _, rfl, D8⟩
  have y1 := D8.own.sl.one
  have y2 := D8.own.sl.vcl
  simp -implicitDefEqProofs only [go_sem, y1, y2, k1, k2]
  intro b8 hb8 n8
  have e9 := (Ext.refl h8).set n8 ⟨p.cells vp, 3⟩
  have g8 : (h8.set b8 ⟨p.cells vp, 3⟩).get b8 = some ⟨p.cells vp, 3⟩ := H.set_get_same _ _ _
  simp -implicitDefEqProofs only [go_sem, hb8, y1, y2, k1, k2]
  have okp := drawn_ok D8.blocks D8.digest D8.steps D8.few
  have fewp := D8.few
  have sp := D8.own.sl.ext e9
  have e89 := e8.trans e9
  have E9 := E7.trans e89
  have g79 := e89.2.g b7 _ g7
  generalize h8.set b8 ⟨p.cells vp, 3⟩ = h9 at *
  refine (implPackageBytes_pc (cs := p.cells vp) (pkg_r.2 ⟨vp, rfl, sp⟩) (by omega) okp).use ?_
  simp -implicitDefEqProofs only [go_sem, k1, k2]
  refine AC_of (drawPackageRead_ac (B.ext E9) (by omega)) ?_
  rintro _ h10 - ⟨e10, u, hu, rfl⟩
  simp -implicitDefEqProofs only [go_sem, k1, k2]
  refine AC_of (implPackageRead_ac (t := u)) ?_
  rintro _ h11 - ⟨e11, cR, rfl, FR⟩
  obtain ⟨vR, rfl, fR⟩ := po_f.1 FR
  have r1 := fR.sl.one
  have r2 := fR.sl.vcl
  simp -implicitDefEqProofs only [go_sem, r1, r2, k1, k2]
  intro b11 hb11 n11
  simp -implicitDefEqProofs only [go_sem, hb11, r1, r2, k1, k2]
  have e12 := (Ext.refl h11).set n11 ⟨[i64 (pkgR u).1.blocks, str (pkgR u).1.digest, vR, i64 (pkgR u).2], 4⟩
  have g11 : (h11.set b11 ⟨[i64 (pkgR u).1.blocks, str (pkgR u).1.digest, vR, i64 (pkgR u).2], 4⟩).get b11 = some ⟨[i64 (pkgR u).1.blocks, str (pkgR u).1.digest, vR, i64 (pkgR u).2], 4⟩ := H.set_get_same _ _ _
  have sR := fR.sl.ext e12
  have e101 := (e10.trans e11).trans e12
  have E12 := E9.trans e101
  have g712 := e101.2.g b7 _ g79
  have g812 := e101.2.g b8 _ g8
  generalize h11.set b11 ⟨[i64 (pkgR u).1.blocks, str (pkgR u).1.digest, vR, i64 (pkgR u).2], 4⟩ = h12 at *
  refine AC_of (drawPackageFits_ac (B.ext E12) (by omega)) ?_
  rintro _ h13 - ⟨e13, q, T, vq, vo, rfl, qb, qd, qs, qf, sq, hT10, hT9, so⟩
  have z1 := sq.one
  have z2 := sq.vcl
  simp -implicitDefEqProofs only [go_sem, z1, z2, k1, k2]
  intro b12 hb12 n12
  have e14 := (Ext.refl h13).set n12 ⟨q.cells vq, 3⟩
  have g12 : (h13.set b12 ⟨q.cells vq, 3⟩).get b12 = some ⟨q.cells vq, 3⟩ := H.set_get_same _ _ _
  simp -implicitDefEqProofs only [go_sem, hb12, z1, z2, k1, k2]
  have e134 := e13.trans e14
  have E14 := E12.trans e134
  have g714 := e134.2.g b7 _ g712
  have g814 := e134.2.g b8 _ g812
  have g1114 := e134.2.g b11 _ g11
  have sq14 := sq.ext e14
  have so14 := so.ext e14
  generalize h13.set b12 ⟨q.cells vq, 3⟩ = h14 at *
  have sX14 := ((sX.ext e89).ext e101).ext e134
  have sP14 := ((sP7.ext e89).ext e101).ext e134
  have sQ14 := ((sQ7.ext e89).ext e101).ext e134
  have sp14 := (sp.ext e101).ext e134
  have sR14 := sR.ext e134
  have hX9 := packageOut_small P Q
  have hR9 := pkgR_small u
  have w1 := sX14.one
  have w2 := sR14.one
  have w3 := sp14.one
  have w4 := sq14.one
  refine dopX_of _ (Sub.refl _) ?_
  simp -implicitDefEqProofs only [go_sem, ldc_get g714, ldc_get g814, ldc_get g1114, ldc_get g12, k1, k2]
  refine AC_of (specPackageOf_ac sP14 sQ14 (by omega) (by omega)) ?_
  rintro _ h15 - ⟨e15, cY, rfl, FY⟩
  refine ⟨e15.2, ?_⟩
  simp -implicitDefEqProofs only [go_sem, k1, k2]
  refine (lwPackage_pc (a := packageOut P Q) (po_r.2 ⟨vX, rfl, sX14.ext e15⟩) FY.r (by omega)).use ?_
  refine ⟨e15.2, ?_⟩
  simp -implicitDefEqProofs only [go_sem, k1, k2]
  have L7 := fun o n => ldc_get g714 o n
  have L8 := fun o n => ldc_get g814 o n
  have L11 := fun o n => ldc_get g1114 o n
  have L12 := fun o n => ldc_get g12 o n
  skip
  simp -implicitDefEqProofs only [go_sem, k1, k2, L7, L8, L11, L12, w1, w2, w3, w4]
  refine (specPackageBytes_pc (cs := p.cells vp) (pkg_r.2 ⟨vp, rfl, sp14.ext e15⟩) (by omega) okp).use ?_
  refine ⟨e15.2, ?_⟩
  simp -implicitDefEqProofs only [go_sem, k1, k2, L7, L8, L11, L12, w1, w2, w3, w4]
  refine AC_of (specPackageRead_ac (t := u) (by omega)) ?_
  rintro _ h16 - ⟨e16, cZ, rfl, FZ⟩
  have e156 := e15.trans e16
  refine ⟨e156.2, ?_⟩
  simp -implicitDefEqProofs only [go_sem, k1, k2, L7, L8, L11, L12, w1, w2, w3, w4]
  refine (lwPackage_pc (a := pkgR u) (po_r.2 ⟨vR, rfl, sR14.ext e156⟩) FZ.r (by omega)).use ?_
  refine ⟨e156.2, ?_⟩
  simp -implicitDefEqProofs only [go_sem, k1, k2, L7, L8, L11, L12, w1, w2, w3, w4]
  refine (implPackageFits_pc (tb.ext (E14.trans e156)) (cs := q.cells vq) (pkg_r.2 ⟨vq, rfl, sq14.ext e156⟩) (so14.ext e156) (by omega) (by omega)).use ?_
  refine ⟨e156.2, ?_⟩
  simp -implicitDefEqProofs only [go_sem, k1, k2, L7, L8, L11, L12, w1, w2, w3, w4]
  refine (specPackageFits_pc (cs := q.cells vq) (pkg_r.2 ⟨vq, rfl, sq14.ext e156⟩) (so14.ext e156) (by omega) (by omega)).use ?_
  refine ⟨e156.2, ?_⟩
  simp -implicitDefEqProofs only [go_sem, k1, k2, L7, L8, L11, L12, w1, w2, w3, w4]
  refine (implPackageRight_pc (cs := p.cells vp) (pkg_r.2 ⟨vp, rfl, sp14.ext e156⟩) (by omega)).use ?_
  refine ⟨e156.2, ?_⟩
  simp -implicitDefEqProofs only [go_sem, k1, k2, L7, L8, L11, L12, w1, w2, w3, w4]
  refine (specPackageRight_pc (cs := p.cells vp) (pkg_r.2 ⟨vp, rfl, sp14.ext e156⟩) (by omega)).use ?_
  refine ⟨e156.2, ?_⟩
  simp -implicitDefEqProofs only [go_sem, k1, k2, L7, L8, L11, L12, w1, w2, w3, w4]
  have G7 := e156.2.g b7 _ g714
  have G8 := e156.2.g b8 _ g814
  have G11 := e156.2.g b11 _ g1114
  have SR := sR14.ext e156
  have SX := sX14.ext e156
  have SP := sP14.ext e156
  have SQ := sQ14.ext e156
  have Sp := sp14.ext e156
  have E16 := E14.trans e156
  have B16 := B.ext E16
  have tb16 := tb.ext E16
  clear L7 L8 L11 L12 g12 sP sQ sX sR sp so sq sP7 sQ7 e7 e8 e9 e10 e11 e12 e13 e14 e15 e16 e89 e101 e134 E3 E7 E9 E12 g79 g712 g812 n7 n8 n11 n12 hb7 hb8 hb11 hb12 FX FR FZ FY fX fR x1 x2 y1 y2 r1 r2 z1 z2 sq14 so14 sX14 sP14 sQ14 sp14 sR14 g714 g814 g1114 g7 g8 g11 D8
  skip
  skip
  have back := pkgR_back (p := p)
  have turned := pkgR_turn (p := p)
  have hTlen : pkgOk p → pkgBytes p = pkgB p := fun q => by unfold pkgBytes; rw [if_pos q]
  have hTno : ¬ pkgOk p → pkgBytes p = [] := fun q => by unfold pkgBytes; rw [if_neg q]
  have hTle := pkgBytes_le okp
  obtain ⟨T, hT⟩ : ∃ T, pkgBytes p = T := ⟨_, rfl⟩
  rw [hT] at back turned hTlen hTno hTle ⊢
  by_cases c0 : (pkgR u).2 = 0
  simp -implicitDefEqProofs only [go_sem, c0, k1, k2, w1, w2, w3, ldc_get G7, ldc_get G8, ldc_get G11]
  refine (implPackageBytes_pc (cs := [i64 (pkgR u).1.blocks, str (pkgR u).1.digest, vR]) (pkg_r.2 ⟨vR, rfl, SR⟩) (by omega) (pkgOk_ok (pkgR_zero c0))).use ?_
  rw [pkgR_bytes c0]
  simp -implicitDefEqProofs only [go_sem, k1, k2, w1, w2, w3, ldc_get G7, ldc_get G8, ldc_get G11]
  rotate_left
  simp -implicitDefEqProofs only [go_sem, c0, k1, k2, w1, w2, w3, ldc_get G7, ldc_get G8, ldc_get G11]
  all_goals
    refine br_cut (fun f h' => f 5 = vP ∧ f 6 = vQ ∧ f 7 = ptr b7 0 ∧ Ext h16 h') ?_ ?_ ?_
    · intro hz
      simp -implicitDefEqProofs only [go_sem, k1, k2, w1, w2, w3, ldc_get G7, ldc_get G8, ldc_get G11]
      exact Ext.refl _
    · intro hz
      have hok : pkgOk p := Classical.byContradiction fun q => hz (hTno q)
      have hpos : 0 < T.length := List.length_pos_iff.2 hz
      simp -implicitDefEqProofs only [go_sem, k1, k2, w1, w2, w3, ldc_get G7, ldc_get G8, ldc_get G11]
      intro b17 hb17 n17 c hc
      have e17 := (Ext.refl h16).set n17 ⟨u8s T, c⟩
      have g17 : (h16.set b17 ⟨u8s T, c⟩).get b17 = some ⟨u8s T, c⟩ := H.set_get_same _ _ _
      have hbs : (h16.set b17 ⟨u8s T, c⟩).base = h16.base := rfl
      generalize hH : h16.set b17 ⟨u8s T, c⟩ = h17 at e17 g17 hbs ⊢
      have lT : (u8s T).length = T.length := by simp [u8s]
      simp -implicitDefEqProofs only [go_sem, k1, k2, w1, w2, w3, ldc_get G7, ldc_get G8, ldc_get G11]
      obtain ⟨k, ⟨k0, k1', k2'⟩, pk⟩ := lwAt_pc (h := h17) (at' := 0) (most := (T.length : Int)) (B16.ext e17) (by omega) (by omega) (in64_small (by omega))
      obtain ⟨n, rfl⟩ : ∃ n : Nat, k = n := ⟨k.toNat, by omega⟩
      have hn : n < T.length := by
        rcases Nat.lt_or_ge 1 T.length with q | q
        · have := k1' (by omega); omega
        · have := k2' (by omega); omega
      refine pk.use ?_
      simp -implicitDefEqProofs only [go_sem, k1, k2, w1, w2, w3, ldc_get G7, ldc_get G8, ldc_get G11]
      refine dopX_of _ (Sub.refl _) ?_
      obtain ⟨j, ⟨j0, j1, j2⟩, pj⟩ := lwAt_pc (h := h17) (at' := 1) (most := 255) (B16.ext e17) (by omega) (by omega) (in64_small (by omega))
      have j3 := j1 (by omega)
      have w8 : IntKind.u8.wrap (1 + j) = ((UInt8.ofNat (1 + j).toNat).toNat : Int) := by
        rw [wrap_u8 (by omega) (by omega)]
        simp
        omega
      have q1 : ldc h17 b17 (n * 1) 1 = some [.int .u8 (T[n].toNat : Int)] := by
        rw [ldc_get g17, if_pos (by simp [u8s]; omega)]
        congr 1
        rw [Nat.mul_one, List.drop_eq_getElem_cons (by simpa [u8s] using hn)]
        simp [u8s]
      have q2 : ∀ z : UInt8, stc h17 b17 (n * 1) [.int .u8 (z.toNat : Int)] 1 = some (h17.set b17 ⟨u8s (T.set n z), c⟩) := by
        intro z
        rw [stc_get g17, if_pos ⟨rfl, by simp [u8s]; omega, rfl⟩, u8s, Nat.mul_one, splice_set (fun b : UInt8 => (.int .u8 b.toNat : Value)) _ _ _ (by omega)]
        rfl
      have q3 := xor_u8 T[n] (UInt8.ofNat (1 + j).toNat)
      have hb17' : h17.base ≤ b17 := by rw [hbs]; exact hb17
      simp -implicitDefEqProofs only [go_sem, q1, Int.ofNat_lt, Int.natCast_nonneg, hn, Int.toNat_natCast, k1, k2, w1, w2, w3, ldc_get G7, ldc_get G8, ldc_get G11]
      refine pj.use ?_
      refine ⟨Sub.refl _, ?_⟩
      simp -implicitDefEqProofs only [go_sem, wrap_i64 (show -(9223372036854775808 : Int) ≤ (1 + j) by omega) (show (1 + j) < 9223372036854775808 by omega), w8, q3, q2, q1, Int.ofNat_lt, Int.natCast_nonneg, hn, Int.toNat_natCast, hb17', k1, k2, w1, w2, w3, ldc_get G7, ldc_get G8, ldc_get G11]
      have hz8 : T[n]? ≠ some (T[n] ^^^ UInt8.ofNat (1 + j).toNat) := by
        rw [List.getElem?_eq_getElem hn]
        intro q
        exact xor_other T[n] (n := (1 + j).toNat) (by omega) (by omega) (Option.some.inj q)
      have ht := turned hok okp (k := n) (z := T[n] ^^^ UInt8.ofNat (1 + j).toNat) hn hz8
      have hb := back hok okp
      obtain ⟨U, hU⟩ : ∃ U, T.set n (T[n] ^^^ UInt8.ofNat (1 + j).toNat) = U := ⟨_, rfl⟩
      have hUl : U.length = T.length := by rw [← hU, List.length_set]
      rw [hU] at ht ⊢
      have e18 := e17.set' n17 ⟨u8s U, c⟩
      have g18 : (h17.set b17 ⟨u8s U, c⟩).get b17 = some ⟨u8s U, c⟩ := H.set_get_same _ _ _
      generalize hH2 : h17.set b17 ⟨u8s U, c⟩ = h18 at e18 g18 ⊢
      have lU : (u8s U).length = T.length := by simp [u8s, hUl]
      have G88 := e18.2.g b8 _ G8
      refine dopX_of _ (Sub.refl _) ?_
      simp -implicitDefEqProofs only [go_sem, ldc_get G88, k1, k2, w1, w2, w3, ldc_get G7, ldc_get G8, ldc_get G11]
      refine AC_of (implPackageRead_ac (t := T)) ?_
      rintro _ h19 - ⟨e19, cT, rfl, FT⟩
      rw [hb] at FT
      refine ⟨e19.2, ?_⟩
      simp -implicitDefEqProofs only [go_sem, k1, k2, w1, w2, w3, ldc_get G7, ldc_get G8, ldc_get G11]
      refine (lwPackage_pc (c1 := cT) (c2 := [i64 p.blocks, str p.digest, vp, i64 0]) (a := (p, 0)) (b := (p, 0)) FT.r (po_r.2 ⟨vp, rfl, (Sp.ext e18).ext e19⟩) (show p.steps.length ≤ 1048576 by omega)).use ?_
      refine ⟨e19.2, ?_⟩
      simp -implicitDefEqProofs only [go_sem, ldc_get g18, show ¬ (T.length = 0) by omega, lU, take_len lU, bytesOf_u8s, k1, k2, w1, w2, w3, ldc_get G7, ldc_get G8, ldc_get G11]
      refine AC_of (implPackageRead_ac (t := U)) ?_
      rintro _ h20 - ⟨e20, cU, rfl, FU⟩
      rw [ht] at FU
      obtain ⟨vU, rfl, -⟩ := po_f.1 FU
      refine ⟨(e19.trans e20).2, ?_⟩
      simp -implicitDefEqProofs only [go_sem, k1, k2, w1, w2, w3, ldc_get G7, ldc_get G8, ldc_get G11]
      exact (e18.trans e19).trans e20
    · rintro f1 hX ⟨f5, f6, f7, eX⟩
      have G7X := eX.2.g b7 _ G7
      by_cases c7 : (packageOut P Q).2 = 0
      rotate_left
      · simp -implicitDefEqProofs only [go_sem, f5, f6, f7, ldc_get G7X, c7, k1, k2, w1, w2, w3, ldc_get G7, ldc_get G8, ldc_get G11]
      obtain ⟨q1, q2⟩ := fits_own c7
      simp -implicitDefEqProofs only [go_sem, f5, f6, f7, ldc_get G7X, c7, k1, k2, w1, w2, w3, ldc_get G7, ldc_get G8, ldc_get G11]
      refine (implPackageFits_pc (tb16.ext eX) (cs := [i64 (packageOut P Q).1.blocks, str (packageOut P Q).1.digest, vX]) (p := (packageOut P Q).1) (pkg_r.2 ⟨vX, rfl, SX.ext eX⟩) (SP.ext eX) (by omega) (by omega)).use ?_
      rw [q1]
      simp -implicitDefEqProofs only [go_sem, f5, f6, f7, ldc_get G7X, k1, k2, w1, w2, w3, ldc_get G7, ldc_get G8, ldc_get G11]
      refine AC_of (implImageApply_ac (SP.ext eX) (SX.ext eX) (by omega) (by omega)) ?_
      rintro _ hY - ⟨eY, cI, rfl, FI⟩
      rw [q2] at FI
      obtain ⟨vI, rfl, fI⟩ := img_f.1 FI
      have i1 := fI.sl.one
      have i2 := fI.sl.vcl
      simp -implicitDefEqProofs only [go_sem, i1, i2, f5, f6, f7, k1, k2, w1, w2, w3, ldc_get G7, ldc_get G8, ldc_get G11]
      refine (lwTexts_pc fI.sl (SQ.ext (eX.trans eY)) (show Q.length ≤ 1048576 by omega)).use ?_
      simp -implicitDefEqProofs only [go_sem, k1, k2, w1, w2, w3, ldc_get G7, ldc_get G8, ldc_get G11]
theorem fnPackage_law (h : H) (tb : Tabs h) (args : List Value) (ha : okAs h [.one (.sl [.int .u8]), .one (.sl [.int .u8])] args) : AC Tryz.prog 3 args h fun r _ => r = .bool true := by
  obtain ⟨v, w, l1, l2, rfl, A, B⟩ := okAs_codes ha
  exact fnPackage_walk tb A B
section
open Go.ChangeShapes Go.WideShapes Go.ChangeAt Go.RowKit
theorem fnPackage_lifted (os : Os) (started : os.Started) (H' : Type) (enc : TypeId × Value → H') : ReturnsInHanded {} Tryz.checked os 3 .any (fun w args => (Rows.fnPackageSpec.pre enc Tryz.prog Tryz.f3 [] false w args ∧ laidMetH Tryz.prog laidL w) ∧ sizedMet enc Tryz.prog Tryz.f3 (OpenSpec.ofChange Rows.fnPackageSpec) false w args) (Rows.fnPackageSpec.post enc Tryz.prog Tryz.f3 false true false false) :=
  law_row_laid (Ck := Tryz.checked) Tabs [.one (.sl [.int .u8]), .one (.sl [.int .u8])] (by kernel_rfl) started (by kernel_rfl) Tryz.func3
    (ChangeSpec.witness_shaped (enc := enc) (C := Tryz.checked) (os := os) (X := fun w _ => laidMetH Tryz.prog laidL w) false (World.doorLaid Tryz.prog 400 os) #[.slice none 0 0, .slice none 0 0] 8 rfl (World.shaped_of_RefB (by kernel_rfl) (by kernel_rfl)) (by kernel_rfl) (by kernel_rfl) (by kernel_rfl) (door_met os _))
    (by kernel_rfl) (by kernel_rfl) rfl (by kernel_rfl : Tryz.prog.underlying (Tryz.f3.resultTypes.getD 0 0) = some .bool) (by kernel_rfl)
    (fun ds gs hd hg => by
      rw [show Tryz.f3.params.toList.length = 2 by kernel_rfl] at hd
      match ds, hd, gs, hg with
      | [_, _], _, [_, _], _ => rfl)
    (by kernel_rfl) (fun W h => tabs_of h) fnPackage_law
theorem fnPackage_said : Rows.FnPackageSaid :=
  OpenClaim.holds_of_wide 3 Tryz.f3 rfl rfl rfl rfl rfl rfl rfl ⟨rfl, rfl, rfl, rfl, rfl⟩ rfl rfl rfl rfl rfl (by kernel_rfl) Tryz.func3 (by kernel_rfl)
    (of_decide_eq_true (by kernel_rfl)) (by unfold Func.isWrapper; first | (rw [if_pos (by decide +kernel)]; kernel_rfl) | (rw [if_neg (by decide +kernel)]; exact ⟨rfl, rfl⟩))
    (fun os started H' enc _ => fnPackage_lifted os started H' enc)
theorem fnPackage_holds : Rows.FnPackageCardSaid :=
  Claim7.holds_tied_plain_at .later [] [.data, .data] true (true, "68bc4b5e9496981d9c766f49fbb7ad9e96819613147a8f0d4dbbcb4254e8c4ec") false
    fnPackage_said (fun _ h => by cases h) (by kernel_rfl) (fun _ h => by cases h) fnPackage_row_tie rfl ⟨rfl, rfl⟩ (by kernel_rfl) rfl
    (fun f fn hf hfn => by
      obtain rfl : f = 3 := Option.some.inj ((show Tryz.prog.funcNamed "loop.example/g00668/laws.FnPackage" = some 3 by kernel_rfl).symm.trans hf) |>.symm
      obtain rfl : fn = Tryz.f3 := (Option.some.inj (Tryz.func3.symm.trans hfn)).symm
      exact ⟨by kernel_rfl, fun j t ht => by
        have hm : t ∈ Tryz.f3.params.toList := by simpa using Array.mem_of_getElem? ht
        have hall : (Tryz.f3.params.toList.all fun u => !Tryz.prog.wantsStandIn u) = true := by kernel_rfl
        exact (show Tryz.prog.wantsStandIn t = false by simpa using List.all_eq_true.1 hall t hm)⟩)
    (by kernel_rfl)
end
end Go.Proofs.YthjbhdmjfakfaaaGreatDoor
