/- A helper of this seat's claims (contracts of the functions): what it shows is shown for every input that its statements name, on no other condition. -/
import Derived.Test.YthjbhdmjfakfaaaGreatDoorCRc
import Derived.Test.YthjbhdmjfakfaaaGreatDoorMC14z
set_option linter.unusedVariables false
set_option linter.unusedSimpArgs false
set_option maxRecDepth 100000
namespace Go.Proofs.YthjbhdmjfakfaaaGreatDoor
open Go.KH

def Does (m : UMach) (s : UState) (c : UCmd) (o : List UAct × Int) : Prop :=
 (c.kind = 1 ∧ s.phase = 1 ∧ (1 ≤ c.a ∧ c.a ≤ 20) ∧ (0 ≤ c.b ∧ c.b ≤ 4) ∧ c.digest.length = 32 ∧ ∃ x : Nat, x ≤ 24 ∧ s.held = runI 0 x ∧ o = beginOut m s c x) ∨
 (c.kind = 2 ∧ s.phase = 2 ∧ ((logOf m s).length : Int) < s.need ∧ c.step.ok ∧ c.step.data.length ≤ 8 ∧ codeOf (logOf m s ++ [c.step]) m.blocks = 0 ∧ o = (stepActs m s (logOf m s).length c.step, 0)) ∨
 (c.kind = 3 ∧ s.phase = 2 ∧ o = finOut m s (logOf m s)) ∨
 (c.kind = 9 ∧ s.held = [] ∧ s.mine = [] ∧ (1 ≤ c.a ∧ c.a ≤ 24) ∧ s.phase = 1 ∧ o = (saveActs m { s with held := runI 0 c.a.toNat }, 0)) ∨
 (c.kind = 11 ∧ o = (bootActs m s, 0))
theorem hold_ok {s : UState} {n : Nat} (hok : stateOk s) (hm : s.mine = []) (hn : n ≤ 24) : stateOk { s with held := runI 0 n } := by
 obtain ⟨h1, h2, h3, h4, h5⟩ := hok
 exact ⟨h1, runI_ok (by omega), h3, (fun x hx => by rw [hm] at hx; cases hx), h5⟩
theorem sl_none {h h' : H} {v : Value} {w : Nat} (s : Sl h v w []) : Sl h' v w [] := by
 obtain ⟨a, c, b, o, rfl, h1, h2, h3⟩ := s
 exact ⟨a, c, b, o, rfl, h1, h2, by simp⟩
theorem wpc_cut4 {P : Program} {a b c d e : C} {Q : Ex → Fr → H → Prop} {f : Fr} {h : H} (R : Fr → H → Prop) (ha : wpc P (.seq a (.seq b (.seq c d))) (cutQ R Q) f h) (hb : ∀ f' h', R f' h' → wpc P e Q f' h') : wpc P (.seq a (.seq b (.seq c (.seq d e)))) Q f h := by
 rw [wpc_assoc]; refine wpc_cut3 R ?_ hb; rw [← wpc_assoc]; exact ha
def b_impl_Machine_actsOf : C := (jo [⟨(some 2), none, .box (.t 0)⟩, ⟨(some 3), none, .box (.t 1)⟩, ⟨(some 4), none, .alloc [nils, (str []), nils, (i64 0)]⟩]
 (jo [jd 14 3 2, jc 15 76 [(.t 14)], jm 13 15, q 16 (.ext 0 (.t 13)), q 17 (.ext 1 (.t 13)), ⟨(some 5), none, .alloc [(i64 0), (i64 0), (i64 0), (i64 0), (i64 0), (str []), nils, nils]⟩, js 8 5 16, jm 6 17]
 (.seq (jo [jf 19 1 2, jd 20 2 19, jc 21 142 [(.t 20)], jm 18 21, q 22 (.ext 0 (.t 18)), q 23 (.ext 1 (.t 18)), ⟨(some 7), none, .alloc [(i64 0), (str []), (i64 0)]⟩, js 3 7 22, jm 8 23]
 (jo [jf 24 0 7, jl 25 24, jk 26 .eql 25 1000000]
 (.cond (.t 26) (jo [q 27 (.build [nils, (str []), nils, (i64 0)] [(3, 1, (.c (i64 9)))]), js 4 4 27]
 .ret) .skip)))
 (jo [jd 28 3 2, jd 29 8 5, jc 30 81 [(.t 28), (.t 29)], jm 9 30]
 (.seq (jo [jf 31 0 3, jl 32 31]
 (.block 0 (jo [jk 34 .eql 32 1, jm 33 34]
 (.cond (.t 33) (jo [jd 35 3 2, jd 36 8 5, jd 37 8 3, jc 38 143 [(.t 35), (.t 36), (.t 37)], js 4 4 38]
 .ret) (jo [jk 40 .eql 32 2, jm 39 40]
 (.cond (.t 39) (jo [jd 41 3 2, jd 42 8 5, jm 43 9, jf 44 4 3, jd 45 4 44, jc 46 144 [(.t 41), (.t 42), (.t 43), (.t 45)], js 4 4 46]
 .ret) (jo [jk 48 .eql 32 3, jm 47 48]
 (.cond (.t 47) (jo [jd 49 3 2, jd 50 8 5, jm 51 9, jc 52 145 [(.t 49), (.t 50), (.t 51)], js 4 4 52]
 .ret) (jo [jk 54 .eql 32 4, jm 53 54]
 (.cond (.t 53) (.seq (jo [jf 55 0 5, jl 56 55, jk 57 .eql 56 1, jm 58 57, qg 59 58 false (.fld 0 (.t 5)), qg 60 58 false (.ld false 1 (.t 59)), qg 61 58 false (.bin .eql (.t 60) (.c (i64 5))), q 62 (.pick (.t 58) (.c (.bool true)) (.t 61))]
 (.cond (.t 62) (jo [q 63 (.build [nils, (str []), nils, (i64 0)] [(3, 1, (.c (i64 10)))]), js 4 4 63]
 .ret) .skip))
 (.seq (.dops true (.tk (jd 64 3 2) (.tk (jd 65 8 5) (.sq (jc 66 147 [(.t 65)]) (.sq (jc 67 146 [(.t 64), (.t 66)]) (.tk (q 68 (.build [nils, (str []), nils, (i64 0)] [(0, 1, (.t 67))])) (.lt (js 4 4 68) .nil)))))))
 .ret)) (jo [jk 70 .eql 32 5, jm 69 70]
 (.cond (.t 69) (.seq (jo [jf 71 0 5, jl 72 71, jk 73 .neq 72 4]
 (.cond (.t 73) (jo [q 74 (.build [nils, (str []), nils, (i64 0)] [(3, 1, (.c (i64 10)))]), js 4 4 74]
 .ret) .skip))
 (jo [jf 75 0 5, ⟨none, none, .st 1 (.t 75) (.c (i64 5))⟩, jf 76 1 5, ⟨none, none, .st 1 (.t 76) (.c (i64 0))⟩]
 (jo [q 77 (.build [(.bool false), (i64 0), (str [])] [(1, 1, (.c (i64 2)))]), q 78 (.build [(.bool false), (i64 0), (str [])] [(0, 1, (.c (.bool true)))]), ⟨(some 79), none, .bsl 2 [(.bool false), (i64 0), (str []), (.bool false), (i64 0), (str [])] [(0, 3, (.t 77)), (3, 3, (.t 78))]⟩, jd 80 3 2, jd 81 8 5, jc 82 146 [(.t 80), (.t 81)], ⟨(some 83), none, .app 3 32 (.t 79) (.t 82)⟩, q 84 (.build [nils, (str []), nils, (i64 0)] [(0, 1, (.t 83))]), js 4 4 84]
 .ret))) (jo [jk 86 .eql 32 6, jm 85 86]
 (.cond (.t 85) (jo [jd 87 3 2, jd 88 8 5, jm 89 9, jc 90 148 [(.t 87), (.t 88), (.t 89)], js 4 4 90]
 .ret) (jo [jk 92 .eql 32 7, jm 91 92]
 (.cond (.t 91) (.seq (jo [jf 93 1 3, jl 94 93, jf 95 0 2, jl 96 95, jb 97 .geq 94 96]
 (.cond (.t 97) (jo [q 98 (.build [nils, (str []), nils, (i64 0)] [(3, 1, (.c (i64 8)))]), js 4 4 98]
 .ret) .skip))
 (.seq (.dops true (.tk (jd 99 3 2) (.tk (jf 101 1 3) (.tk (jl 102 101) (.sq (jc 100 75 [(.t 99)]) (.tk (q 103 (.idx 1 (.t 100) (.t 102))) (.sq (jl 104 103) (.tk (q 105 (.build [nils, (str []), nils, (i64 0)] [(1, 1, (.t 104))])) (.lt (js 4 4 105) .nil)))))))))
 .ret)) (jo [jk 107 .eql 32 8, jm 106 107]
 (.cond (.t 106) (jo [q 10 (.mv (.c (i64 0)))]
 (.seq (jo [jf 108 0 5, jl 109 108, jk 110 .eql 109 5]
 (.cond (.t 110) (.dops true (.tk (jd 111 3 2) (.tk (jd 112 8 5) (.tk (jf 115 4 5) (.tk (jl 116 115) (.sq (jc 113 149 [(.t 111), (.t 112)]) (.sq (jc 114 139 [(.t 113)]) (.tk (jb 117 .sub 114 116) (.tk (jm 10 117) .nil))))))))) .skip))
 (.seq (.dops true (.tk (jf 118 0 5) (.tk (jl 119 118) (.tk (jf 120 1 5) (.tk (jl 121 120) (.tk (jm 122 9) (.tk (jm 124 9) (.tk (jm 126 10) (.tk (jf 127 6 5) (.tk (jl 128 127) (.tk (jf 131 7 5) (.tk (jl 132 131) (.sq (jc 123 96 [(.t 122)]) (.sq (jc 125 82 [(.t 124)]) (.sq (jc 129 150 [(.t 128)]) (.tk (q 130 (.bin .sub (.c (i64 24)) (.t 129))) (.sq (jc 133 150 [(.t 132)]) (.tk (jb 134 .sub 130 133) (.sq (⟨(some 135), none, .bsl 6 [(i64 0), (i64 0), (i64 0), (i64 0), (i64 0), (i64 0)] [(0, 1, (.t 119)), (1, 1, (.t 121)), (2, 1, (.t 123)), (3, 1, (.t 125)), (4, 1, (.t 126)), (5, 1, (.t 134))]⟩) (.tk (q 136 (.build [nils, (str []), nils, (i64 0)] [(2, 1, (.t 135))])) (.lt (js 4 4 136) .nil)))))))))))))))))))))
 .ret))) (jo [jk 138 .eql 32 9, jm 137 138]
 (.cond (.t 137) (jo [jf 140 6 5, jl 141 140, jf 142 7 5, jl 143 142, jf 144 1 3, jl 145 144, jc 146 151 [(.t 141), (.t 143), (.t 145)], jm 139 146, q 147 (.ext 0 (.t 139)), q 148 (.ext 1 (.t 139)), jm 11 147, jm 12 148]
 (.seq (jo [jm 149 12, q 150 (.un .not (.t 149))]
 (.cond (.t 150) (jo [q 151 (.build [nils, (str []), nils, (i64 0)] [(3, 1, (.c (i64 11)))]), js 4 4 151]
 .ret) .skip))
 (jo [jf 152 6 5, jl 153 152, jc 154 153 [(.t 153)], jm 155 11, jc 156 153 [(.t 155)], jb 157 .or 154 156, jc 158 152 [(.t 157)], jf 159 6 5, js 1 159 158]
 (jo [jd 160 3 2, jd 161 8 5, jc 162 146 [(.t 160), (.t 161)], q 163 (.build [nils, (str []), nils, (i64 0)] [(0, 1, (.t 162))]), js 4 4 163]
 .ret)))) (jo [jk 165 .eql 32 10, jm 164 165]
 (.cond (.t 164) (jo [jf 166 6 5, ⟨none, none, .st 1 (.t 166) (.c nils)⟩]
 (jo [jd 167 3 2, jd 168 8 5, jc 169 146 [(.t 167), (.t 168)], q 170 (.build [nils, (str []), nils, (i64 0)] [(0, 1, (.t 169))]), js 4 4 170]
 .ret)) .skip))))))))))))))))))))))
 (jo [jd 171 3 2, jd 172 8 5, jc 173 79 [(.t 171), (.t 172)], q 174 (.build [nils, (str []), nils, (i64 0)] [(0, 1, (.t 173))]), js 4 4 174]
 .ret))))))
theorem w_impl_Machine_actsOf : Wk Tryz.prog 73 175 [.cell 4 true 4] b_impl_Machine_actsOf := Wk.of mixedOrders Tryz.func73 (by kernel_rfl) (by kernel_rfl)

set_option maxHeartbeats 3200000 in
theorem actsOf_ac {h : H} {cs : List Value} {m : UMach} {s : UState} {c : UCmd} {o : List UAct × Int} (tb : Tabs h) (hv : RepR h (spMach m) cs) (hs : m.flash.fin1) (hst : stM m = some s) (hi : imageOk (baseOf m)) (hg : (metaGet m.flash).1.1.1 ≠ 1000000) (hd : Does m s c o) :
  AC Tryz.prog 73 [.agg cs.toArray, .agg c.cells.toArray] h fun r h' => Ext h h' ∧ ∃ va, r = .agg #[va, str [], nils, i64 o.2] ∧ Own h h' va 3 (o.1.map UAct.cells) := by
 have hv0 := hv
 obtain ⟨hf, hok⟩ := stM_ok hst
 have h20 := logOf_len m hok
 obtain ⟨vs, vd, rfl, fr⟩ := mach_r.1 hv
 have o4 := fr.1.one
 have o5 := fr.2.one
 have c4 : vcl vs = [vs] := fr.1.vcl
 have c5 : vcl vd = [vd] := fr.2.vcl
 skip
 refine w_impl_Machine_actsOf (by simp) ?_
 unfold b_impl_Machine_actsOf
 refine wpc_cut4 (fun f1 h1 => ∃ b2 b3 b4 b5 v9 uh um hL, f1 2 = ptr b2 0 ∧ f1 3 = ptr b3 0 ∧ f1 4 = ptr b4 0 ∧ f1 5 = ptr b5 0 ∧ f1 9 = v9 ∧ hL.get b2 = some ⟨[i64 m.blocks, vs, vd], 3⟩ ∧ hL.get b3 = some ⟨c.cells, 8⟩ ∧ hL.get b4 = some ⟨[nils, str [], nils, i64 0], 4⟩ ∧ hL.get b5 = some ⟨s.cells uh um, 8⟩ ∧ (Sl hL uh 1 (ints s.held) ∧ Sl hL um 1 (ints s.mine)) ∧ (hL.base ≤ b4 ∧ hL.base ≤ b5 ∧ h.get b4 = none ∧ h.get b5 = none ∧ b4 ≠ b5 ∧ b2 ≠ b5 ∧ b3 ≠ b5) ∧ Ext h hL ∧ Ext hL h1 ∧ Own hL h1 v9 4 ((logOf m s).map UStep.cells)) ?_ ?_
 ·simp -implicitDefEqProofs only [go_sem, o4, o5, c4, c5]
  intro b2 hb_b2 n_b2
  simp -implicitDefEqProofs only [go_sem, o4, o5, c4, c5, hb_b2]
  intro b3 hb_b3 m0_b3
  obtain ⟨z_b3_b2, y_b3_b2, n_b3⟩ := fne m0_b3
  simp only [H.set_base] at hb_b3
  simp -implicitDefEqProofs only [go_sem, o4, o5, c4, c5, hb_b2, hb_b3, z_b3_b2, y_b3_b2]
  intro b4 hb_b4 m0_b4
  obtain ⟨z_b4_b3, y_b4_b3, m1_b4⟩ := fne m0_b4
  obtain ⟨z_b4_b2, y_b4_b2, n_b4⟩ := fne m1_b4
  simp only [H.set_base] at hb_b4
  simp -implicitDefEqProofs only [go_sem, o4, o5, c4, c5, hb_b2, hb_b3, z_b3_b2, y_b3_b2, hb_b4, z_b4_b3, y_b4_b3, z_b4_b2, y_b4_b2]
  refine AC_of (stateOf_ac (hv0.ext ((((Ext.refl _).set' n_b2 _).set' n_b3 _).set' n_b4 _)) hs) ?_
  rintro _ h5 - ⟨e5, cs5, rfl, F5⟩
  rw [hst] at F5
  simp only [Option.getD_some] at F5
  have l5 := F5.r.len
  have t5 := take_len l5
  have o5' := F5.r.one
  have g2 := e5.2.g b2 _ (by simp -implicitDefEqProofs only [go_sem, o4, o5, c4, c5, hb_b2, hb_b3, z_b3_b2, y_b3_b2, hb_b4, z_b4_b3, y_b4_b3, z_b4_b2, y_b4_b2]; rfl)
  have g3 := e5.2.g b3 _ (by simp -implicitDefEqProofs only [go_sem, o4, o5, c4, c5, hb_b2, hb_b3, z_b3_b2, y_b3_b2, hb_b4, z_b4_b3, y_b4_b3, z_b4_b2, y_b4_b2]; rfl)
  have g4 := e5.2.g b4 _ (by simp -implicitDefEqProofs only [go_sem, o4, o5, c4, c5, hb_b2, hb_b3, z_b3_b2, y_b3_b2, hb_b4, z_b4_b3, y_b4_b3, z_b4_b2, y_b4_b2]; rfl)
  have hb4 : h5.base ≤ b4 := by rw [e5.1]; simp only [H.set_base]; exact hb_b4
  have E5 := (((((Ext.refl _).set' n_b2 _).set' n_b3 _).set' n_b4 _)).trans e5
  have n4 := n_b4
  skip
  simp -implicitDefEqProofs only [go_sem, l5, t5, o5', hst, Option.isSome_some, o4, o5, c4, c5]
  intro b5 hb5 n5
  have z25 : b2 ≠ b5 := fun e => by rw [← e, g2] at n5; cases n5
  have z35 : b3 ≠ b5 := fun e => by rw [← e, g3] at n5; cases n5
  have z45 : b4 ≠ b5 := fun e => by rw [← e, g4] at n5; cases n5
  have e6 := (Ext.refl h5).set n5 ⟨cs5, 8⟩
  have G2 := e6.2.g b2 _ g2
  have G3 := e6.2.g b3 _ g3
  have G4 := e6.2.g b4 _ g4
  have G5 : (h5.set b5 ⟨cs5, 8⟩).get b5 = some ⟨cs5, 8⟩ := H.set_get_same _ _ _
  simp -implicitDefEqProofs only [go_sem, l5, t5, o5', hb5, eq_false z25, ldc_get g2, o4, o5, c4, c5]
  have F6 := F5.ext e6
  have hb46 : (h5.set b5 ⟨cs5, 8⟩).base ≤ b4 := hb4
  have hb56 : (h5.set b5 ⟨cs5, 8⟩).base ≤ b5 := hb5
  generalize h5.set b5 ⟨cs5, 8⟩ = h6 at e6 G2 G3 G4 G5 F6 hb46 hb56 ⊢
  have E6 := E5.trans e6
  refine (metaGet_pc (fr.ext E6) hf.2.1 (mach_two hf)).use ?_
  simp -implicitDefEqProofs only [go_sem, o4, o5, c4, c5]
  intro b7 hb7 n7
  have z27 : b2 ≠ b7 := fun e => by rw [← e, G2] at n7; cases n7
  have z37 : b3 ≠ b7 := fun e => by rw [← e, G3] at n7; cases n7
  have z47 : b4 ≠ b7 := fun e => by rw [← e, G4] at n7; cases n7
  have z57 : b5 ≠ b7 := fun e => by rw [← e, G5] at n7; cases n7
  have e7 := (Ext.refl h6).set n7 ⟨metaC (metaGet m.flash).1, 3⟩
  simp -implicitDefEqProofs only [go_sem, hb7, eq_false hg, eq_false z27, eq_false z57, ldc_get G2, ldc_get G5, take_len F6.r.len, F6.r.len, F6.r.one, o4, o5, c4, c5]
  have K2 := e7.2.g b2 _ G2
  have K3 := e7.2.g b3 _ G3
  have K4 := e7.2.g b4 _ G4
  have K5 := e7.2.g b5 _ G5
  have F7 := F6.ext e7
  have hb47 : (h6.set b7 ⟨metaC (metaGet m.flash).1, 3⟩).base ≤ b4 := hb46
  have hb57 : (h6.set b7 ⟨metaC (metaGet m.flash).1, 3⟩).base ≤ b5 := hb56
  generalize h6.set b7 ⟨metaC (metaGet m.flash).1, 3⟩ = hL at e7 K2 K3 K4 K5 F7 hb47 hb57 ⊢
  have EL := E6.trans e7
  refine AC_of (log_own (hv0.ext EL) hf F7.r hok) ?_
  rintro v9 h9 - ⟨e9, o9⟩
  obtain ⟨uh, um, rfl, p1, p2⟩ := F7.r
  simp -implicitDefEqProofs only [go_sem, o9.sl.vcl, o4, o5, c4, c5]
  exact ⟨b2, b3, b4, b5, v9, uh, um, hL, rfl, rfl, rfl, rfl, rfl, K2, K3, K4, K5, ⟨p1, p2⟩, ⟨hb47, hb57, n4, E5.none n5, z45, z25, z35⟩, EL, e9, o9⟩
 rintro f1 h1 ⟨b2, b3, b4, b5, v9, uh, um, hL, q2, q3, q4, q5, q9, g2, g3, g4, g5, ⟨sh, sm⟩, ⟨hb4, hb5, n4, n5, z45, z25, z35⟩, EL, e1, ow⟩
 have G2 := e1.2.g b2 _ g2
 have G3 := e1.2.g b3 _ g3
 have G4 := e1.2.g b4 _ g4
 have G5 := e1.2.g b5 _ g5
 have hb41 : h1.base ≤ b4 := by rw [e1.1]; exact hb4
 have hb51 : h1.base ≤ b5 := by rw [e1.1]; exact hb5
 have E1 := EL.trans e1
 have hvL := hv0.ext EL
 have o6 := sh.vcl
 have o7 := sm.vcl
 have o8 := sh.one
 have o9 := sm.one
 have o10 := ow.sl.vcl
 have fin : ∀ {va : Value} {h' : H} {l : List UAct}, Ext hL h' → Own hL h' va 3 (l.map UAct.cells) → ∀ cd : Int, Ext h (h'.set b4 ⟨[va, str [], nils, i64 cd], 4⟩) ∧ ∃ va', Value.agg #[va, str [], nils, i64 cd] = .agg #[va', str [], nils, i64 cd] ∧ Own h (h'.set b4 ⟨[va, str [], nils, i64 cd], 4⟩) va' 3 (l.map UAct.cells) := fun e k cd =>
  ⟨(EL.trans e).set' n4 _, _, rfl, (k.set0 (b := b4) (by rw [g4]; simp) _).back EL⟩
 have L2 := ldc_get G2
 have L3 := ldc_get G3
 have L5 := ldc_get G5
 skip
 rcases hd with ⟨k, p1, ha, hb, hdg, x, hx, hh, rfl⟩ | ⟨k, p2, hn, hxo, hxd, hc, rfl⟩ | ⟨k, p2, rfl⟩ | ⟨k, hh, hm, ha, p1, rfl⟩ | ⟨k, rfl⟩
 ·have K := eq_true k
  simp -implicitDefEqProofs only [go_sem, K, o4, o5, c4, c5, q2, q3, q4, q5, q9, o6, o7, o8, o9, o10, L2, L3, L5]
  refine AC_of (begin_ac (hvL.ext e1) hf ⟨uh, um, rfl, sh.ext e1, sm.ext e1⟩ hok p1 hh hx ha hb hdg) ?_
  rintro _ h2 - ⟨e2, va, rfl, o2⟩
  have G42 := e2.2.g b4 _ G4
  have hb42 : h2.base ≤ b4 := by rw [e2.1]; exact hb41
  have y1 := o2.sl.vcl
  have y2 := o2.sl.one
  simp -implicitDefEqProofs only [go_sem, stc_get G42, hb42, y1, y2, o4, o5, c4, c5, q2, q3, q4, q5, q9, o6, o7, o8, o9, o10, L2, L3, L5]
  exact fin (e1.trans e2) (o2.back e1) _
 ·have K := eq_true k
  simp -implicitDefEqProofs only [go_sem, eq_false (show ¬ c.kind = 1 by omega), K, o4, o5, c4, c5, q2, q3, q4, q5, q9, o6, o7, o8, o9, o10, L2, L3, L5]
  refine AC_of (step_ac e1 hvL hf ⟨uh, um, rfl, sh, sm⟩ hok ow p2 hn hxo hxd hc) ?_
  rintro _ h2 - ⟨e2, va, rfl, o2⟩
  have G42 := e2.2.g b4 _ g4
  have hb42 : h2.base ≤ b4 := by rw [e2.1]; exact hb4
  have y1 := o2.sl.vcl
  have y2 := o2.sl.one
  simp -implicitDefEqProofs only [go_sem, stc_get G42, hb42, y1, y2, o4, o5, c4, c5, q2, q3, q4, q5, q9, o6, o7, o8, o9, o10, L2, L3, L5]
  exact fin e2 o2 _
 ·have K := eq_true k
  simp -implicitDefEqProofs only [go_sem, eq_false (show ¬ c.kind = 1 by omega), eq_false (show ¬ c.kind = 2 by omega), K, o4, o5, c4, c5, q2, q3, q4, q5, q9, o6, o7, o8, o9, o10, L2, L3, L5]
  refine AC_of (finish_ac (tb.ext E1) (hvL.ext e1) hf ⟨uh, um, rfl, sh.ext e1, sm.ext e1⟩ hok hi ow.sl h20 p2) ?_
  rintro _ h2 - ⟨e2, va, rfl, o2⟩
  have G42 := e2.2.g b4 _ G4
  have hb42 : h2.base ≤ b4 := by rw [e2.1]; exact hb41
  have y1 := o2.sl.vcl
  have y2 := o2.sl.one
  simp -implicitDefEqProofs only [go_sem, stc_get G42, hb42, y1, y2, o4, o5, c4, c5, q2, q3, q4, q5, q9, o6, o7, o8, o9, o10, L2, L3, L5]
  exact fin (e1.trans e2) (o2.back e1) _
 ·have K := eq_true k
  simp -implicitDefEqProofs only [go_sem, eq_false (show ¬ c.kind = 1 by omega), eq_false (show ¬ c.kind = 2 by omega), eq_false (show ¬ c.kind = 3 by omega), eq_false (show ¬ c.kind = 4 by omega), eq_false (show ¬ c.kind = 5 by omega), eq_false (show ¬ c.kind = 6 by omega), eq_false (show ¬ c.kind = 7 by omega), eq_false (show ¬ c.kind = 8 by omega), K, o4, o5, c4, c5, q2, q3, q4, q5, q9, o6, o7, o8, o9, o10, L2, L3, L5]
  obtain ⟨N, hN⟩ : ∃ N : Nat, c.a = N := ⟨c.a.toNat, by omega⟩
  rw [hN] at ha ⊢
  have hS2 := hold_ok (n := N) hok hm (by omega)
  have sh1 := sh.ext e1
  have sm1 := sm.ext e1
  rw [hh, ← runI_zero 0] at sh1
  rw [hm] at sm1
  refine AC_of (reserve_ac (n := N) (x := 0) (by omega) (by omega) sh1 sm1) ?_
  rintro _ h2 - ⟨e2, w, rfl, ow2⟩
  have hd24 : decide (0 + N ≤ 24) = true := decide_eq_true (by omega)
  replace ow2 := ow2 (by omega)
  have L52 := ldc_get (e2.2.g b5 _ G5)
  have L22 := ldc_get (e2.2.g b2 _ G2)
  have y1 := ow2.sl.vcl
  skip
  skip
  have b1 := bits_run ⟨N, by omega⟩
  simp only at b1
  have h2p : 2 ^ N ≤ 16777216 := Nat.pow_le_pow_right (i := N) (j := 24) (by decide) (by omega)
  have hor : obin .or (i64 ((0 : Nat) : Int)) (i64 ((2 ^ N - 1 : Nat) : Int)) = some (i64 ((2 ^ N - 1 : Nat) : Int)) := by
   rw [or_i64 (by omega) (by omega), Nat.zero_or]
  have hfb : fromBits (2 ^ N - 1) = runI 0 N := by rw [← b1]; exact from_bits (runI_ok (by omega))
  simp -implicitDefEqProofs only [go_sem, decide_eq_true (show N ≤ 24 by omega), show N ≤ 24 by omega, Nat.zero_add, y1, o4, o5, c4, c5, q2, q3, q4, q5, q9, o6, o7, o8, o9, o10, L3, L52, L22]
  refine (bitsOf_pc (l := []) (by rw [← runI_zero 0]; exact sh1.ext e2) (by intro i hi; simp at hi)).use ?_
  rw [show bitsN [] = 0 from rfl]
  simp -implicitDefEqProofs only [go_sem, o4, o5, c4, c5, q2, q3, q4, q5, q9, o6, o7, o8, o9, o10, L3, L52, L22]
  refine (bitsOf_pc ow2.sl (runI_ok (by omega))).use ?_
  rw [b1]
  simp -implicitDefEqProofs only [go_sem, hor, o4, o5, c4, c5, q2, q3, q4, q5, q9, o6, o7, o8, o9, o10, L3, L52, L22]
  refine AC_of (fromBits_ac (x := 2 ^ N - 1) (by omega)) ?_
  rintro u h3 - ⟨e3, o3⟩
  rw [hfb] at o3
  have e23 := e2.trans e3
  have y3 := o3.sl.vcl
  have y4 := o3.sl.one
  have J5 := e23.2.g b5 _ G5
  have J2 := e23.2.g b2 _ G2
  have J4 := e23.2.g b4 _ G4
  have hb53 : h3.base ≤ b5 := by rw [e23.1]; exact hb51
  have hb43 : h3.base ≤ b4 := by rw [e23.1]; exact hb41
  simp -implicitDefEqProofs only [go_sem, y3, y4, stc_get J5, hb53, eq_false z25, ldc_get J2, o4, o5, c4, c5, q2, q3, q4, q5, q9, o6, o7, o8, o9, o10, L3, L52, L22]
  have E13 := e1.trans e23
  have EX : ∀ x, Ext h (h3.set b5 x) := fun x => (EL.trans E13).set' n5 x
  refine AC_of (save_ac (s := { s with held := runI 0 N }) (hv0.ext (EX _)) hf ⟨u, um, rfl, (o3.set0 (b := b5) (by rw [e2.2.g b5 _ G5]; simp) _).sl, by rw [show ({ s with held := runI 0 N } : UState).mine = [] from hm]; exact sl_none sm1⟩ hS2) ?_
  rintro va h4 - ⟨e4, o4'⟩
  have K4 : h4.get b4 = some ⟨[nils, str [], nils, i64 0], 4⟩ := e4.2.g b4 _ (by rw [H.set_get_ne _ _ _ _ z45]; exact J4)
  have hb44 : h4.base ≤ b4 := by rw [e4.1]; exact hb43
  have y5 := o4'.sl.vcl
  have y6 := o4'.sl.one
  simp -implicitDefEqProofs only [go_sem, stc_get K4, hb44, y5, y6, o4, o5, c4, c5, q2, q3, q4, q5, q9, o6, o7, o8, o9, o10, L3, L52, L22]
  have K0 : ∀ x, (h3.set b5 x).get b4 ≠ none := fun x => by rw [H.set_get_ne _ _ _ _ z45, J4]; simp
  exact ⟨((EX _).trans e4).set' n4 _, va, rfl, (o4'.set0 (b := b4) (K0 _) _).back (EX _)⟩
  skip
  skip
 ·have K := eq_true k
  simp -implicitDefEqProofs only [go_sem, eq_false (show ¬ c.kind = 1 by omega), eq_false (show ¬ c.kind = 2 by omega), eq_false (show ¬ c.kind = 3 by omega), eq_false (show ¬ c.kind = 4 by omega), eq_false (show ¬ c.kind = 5 by omega), eq_false (show ¬ c.kind = 6 by omega), eq_false (show ¬ c.kind = 7 by omega), eq_false (show ¬ c.kind = 8 by omega), eq_false (show ¬ c.kind = 9 by omega), eq_false (show ¬ c.kind = 10 by omega), K, o4, o5, c4, c5, q2, q3, q4, q5, q9, o6, o7, o8, o9, o10, L3, L2, L5]
  refine AC_of (bootActs_ac (hvL.ext e1) hf ⟨uh, um, rfl, sh.ext e1, sm.ext e1⟩ hok) ?_
  rintro va h2 - ⟨e2, o2⟩
  have G42 := e2.2.g b4 _ G4
  have hb42 : h2.base ≤ b4 := by rw [e2.1]; exact hb41
  have y1 := o2.sl.vcl
  have y2 := o2.sl.one
  simp -implicitDefEqProofs only [go_sem, stc_get G42, hb42, y1, y2, o4, o5, c4, c5, q2, q3, q4, q5, q9, o6, o7, o8, o9, o10, L3, L2, L5]
  exact fin (e1.trans e2) (o2.back e1) _
end Go.Proofs.YthjbhdmjfakfaaaGreatDoor