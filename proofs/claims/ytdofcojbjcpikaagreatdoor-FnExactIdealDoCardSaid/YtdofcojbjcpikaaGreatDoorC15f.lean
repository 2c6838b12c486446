/- A helper of this seat's claims (contracts of the functions): what it shows is shown for every input that its statements name, on no other condition. -/
import Derived.Test.YtdofcojbjcpikaaGreatDoorC15e
set_option linter.unusedVariables false
set_option linter.unusedSimpArgs false
set_option maxRecDepth 100000
namespace Go.Proofs.YtdofcojbjcpikaaGreatDoor
open Go.KH

/-- (*impl.Ideal).do -/
def b_impl_Ideal_do : C := (.seq (.ops [⟨(some 3), none, .box (.t 1)⟩, q 4 (.mv (.c (str []))), q 5 (.mv (.c nils)), q 6 (.mv (.c (i64 0)))])
 (.seq (.seq (.ops [q 7 (.fld 0 (.t 3)), q 8 (.ld false 1 (.t 7))])
 (.block 0 (.seq (.ops [q 12 (.bin .eql (.t 8) (.c (i64 1))), q 11 (.mv (.t 12))])
 (.cond (.t 11) (.seq (.seq (.ops [q 13 (.mv (.t 0)), q 14 (.nck (.t 13)), q 15 (.fld 0 (.t 14)), q 16 (.ld false 1 (.t 15)), q 17 (.bin .neq (.t 16) (.c (i64 1)))])
 (.cond (.t 17) (.seq (.ops [q 4 (.mv (.c (str []))), q 5 (.mv (.c nils)), q 6 (.mv (.c (i64 10)))])
 .ret) .skip))
 (.seq (.seq (.dops true (.tk (q 18 (.fld 1 (.t 3))) (.tk (q 19 (.ld false 1 (.t 18))) (.tk (q 20 (.fld 2 (.t 3))) (.tk (q 21 (.ld false 1 (.t 20))) (.tk (q 22 (.bin .add (.t 19) (.t 21))) (.tk (q 23 (.mv (.t 0))) (.tk (q 24 (.nck (.t 23))) (.tk (q 25 (.fld 4 (.t 24))) (.tk (q 26 (.ld false 1 (.t 25))) (.tk (q 27 (.bin .add (.t 22) (.t 26))) (.tk (q 28 (.bin .gtr (.t 27) (.c (i64 24)))) .nil))))))))))))
 (.cond (.t 28) (.seq (.ops [q 4 (.mv (.c (str []))), q 5 (.mv (.c nils)), q 6 (.mv (.c (i64 11)))])
 .ret) .skip))
 (.dops true (.tk (q 29 (.mv (.t 0))) (.tk (q 30 (.mv (.t 0))) (.tk (q 31 (.mv (.t 0))) (.tk (q 32 (.mv (.t 0))) (.tk (q 33 (.fld 1 (.t 3))) (.tk (q 34 (.ld false 1 (.t 33))) (.tk (q 35 (.fld 2 (.t 3))) (.tk (q 36 (.ld false 1 (.t 35))) (.tk (q 37 (.fld 3 (.t 3))) (.tk (q 38 (.ld false 1 (.t 37))) (.tk (q 39 (.nck (.t 29))) (.tk (q 40 (.fld 0 (.t 39))) (.sq (⟨none, none, .st 1 (.t 40) (.c (i64 2))⟩) (.tk (q 41 (.nck (.t 30))) (.tk (q 42 (.fld 2 (.t 41))) (.sq (⟨none, none, .st 1 (.t 42) (.t 34)⟩) (.tk (q 43 (.nck (.t 31))) (.tk (q 44 (.fld 3 (.t 43))) (.sq (⟨none, none, .st 1 (.t 44) (.t 36)⟩) (.tk (q 45 (.nck (.t 32))) (.tk (q 46 (.fld 6 (.t 45))) (.lt (⟨none, none, .st 1 (.t 46) (.t 38)⟩) .nil))))))))))))))))))))))))) (.seq (.ops [q 48 (.bin .eql (.t 8) (.c (i64 2))), q 47 (.mv (.t 48))])
 (.cond (.t 47) (.seq (.ops [q 49 (.mv (.t 0)), q 50 (.fld 4 (.t 3)), q 51 (.ld true 4 (.t 50)), ⟨(some 52), none, .call (.c (.func (.func 136) #[] #[])) [(.t 49), (.t 51)]⟩, q 4 (.mv (.c (str []))), q 5 (.mv (.c nils)), q 6 (.mv (.t 52))])
 .ret) (.seq (.ops [q 54 (.bin .eql (.t 8) (.c (i64 3))), q 53 (.mv (.t 54))])
 (.cond (.t 53) (.seq (.ops [q 55 (.mv (.t 0)), ⟨(some 56), none, .call (.c (.func (.func 137) #[] #[])) [(.t 55)]⟩, q 4 (.mv (.c (str []))), q 5 (.mv (.c nils)), q 6 (.mv (.t 56))])
 .ret) (.seq (.ops [q 58 (.bin .eql (.t 8) (.c (i64 4))), q 57 (.mv (.t 58))])
 (.cond (.t 57) (.seq (.seq (.ops [q 59 (.mv (.t 0)), q 60 (.nck (.t 59)), q 61 (.fld 0 (.t 60)), q 62 (.ld false 1 (.t 61)), q 63 (.bin .eql (.t 62) (.c (i64 1))), q 64 (.mv (.t 63)), qg 65 64 false (.mv (.t 0)), qg 66 64 false (.nck (.t 65)), qg 67 64 false (.fld 0 (.t 66)), qg 68 64 false (.ld false 1 (.t 67)), qg 69 64 false (.bin .eql (.t 68) (.c (i64 5))), q 70 (.pick (.t 64) (.c (.bool true)) (.t 69))])
 (.cond (.t 70) (.seq (.ops [q 4 (.mv (.c (str []))), q 5 (.mv (.c nils)), q 6 (.mv (.c (i64 10)))])
 .ret) .skip))
 (.ops [q 71 (.mv (.t 0)), ⟨(some 72), none, .call (.c (.func (.func 138) #[] #[])) [(.t 71)]⟩])) (.seq (.ops [q 74 (.bin .eql (.t 8) (.c (i64 5))), q 73 (.mv (.t 74))])
 (.cond (.t 73) (.seq (.seq (.ops [q 75 (.mv (.t 0)), q 76 (.nck (.t 75)), q 77 (.fld 0 (.t 76)), q 78 (.ld false 1 (.t 77)), q 79 (.bin .neq (.t 78) (.c (i64 4)))])
 (.cond (.t 79) (.seq (.ops [q 4 (.mv (.c (str []))), q 5 (.mv (.c nils)), q 6 (.mv (.c (i64 10)))])
 .ret) .skip))
 (.seq (.ops [q 80 (.mv (.t 0)), q 81 (.mv (.t 0)), q 82 (.nck (.t 81)), q 83 (.ld true 9 (.t 82)), ⟨(some 84), none, .call (.c (.func (.func 139) #[] #[])) [(.t 83)]⟩, q 85 (.nck (.t 80)), q 86 (.fld 7 (.t 85)), ⟨none, none, .st 1 (.t 86) (.t 84)⟩])
 (.ops [q 87 (.mv (.t 0)), q 88 (.mv (.t 0)), q 89 (.mv (.t 0)), q 90 (.mv (.t 0)), q 91 (.nck (.t 90)), q 92 (.fld 8 (.t 91)), q 93 (.ld false 1 (.t 92)), ⟨(some 94), none, .call (.c (.func (.func 129) #[] #[])) [(.t 93)]⟩, ⟨(some 95), none, .call (.c (.func (.func 131) #[] #[])) [(.t 94)]⟩, q 96 (.nck (.t 87)), q 97 (.fld 0 (.t 96)), ⟨none, none, .st 1 (.t 97) (.c (i64 5))⟩, q 98 (.nck (.t 88)), q 99 (.fld 1 (.t 98)), ⟨none, none, .st 1 (.t 99) (.c (i64 0))⟩, q 100 (.nck (.t 89)), q 101 (.fld 5 (.t 100)), ⟨none, none, .st 1 (.t 101) (.t 95)⟩]))) (.seq (.ops [q 103 (.bin .eql (.t 8) (.c (i64 6))), q 102 (.mv (.t 103))])
 (.cond (.t 102) (.seq (.seq (.ops [q 104 (.mv (.t 0)), q 105 (.nck (.t 104)), q 106 (.fld 0 (.t 105)), q 107 (.ld false 1 (.t 106)), q 108 (.bin .neq (.t 107) (.c (i64 5)))])
 (.cond (.t 108) (.seq (.ops [q 4 (.mv (.c (str []))), q 5 (.mv (.c nils)), q 6 (.mv (.c (i64 10)))])
 .ret) .skip))
 (.seq (.seq (.ops [q 109 (.mv (.t 0)), q 110 (.nck (.t 109)), q 111 (.fld 5 (.t 110)), q 112 (.ld false 1 (.t 111)), q 113 (.bin .eql (.t 112) (.c (i64 0)))])
 (.cond (.t 113) (.ops [q 114 (.mv (.t 0)), ⟨(some 115), none, .call (.c (.func (.func 138) #[] #[])) [(.t 114)]⟩]) (.ops [q 116 (.mv (.t 0)), q 117 (.nck (.t 116)), q 118 (.fld 5 (.t 117)), q 119 (.ld false 1 (.t 118)), q 120 (.bin .sub (.t 119) (.c (i64 1))), q 121 (.nck (.t 116)), q 122 (.fld 5 (.t 121)), ⟨none, none, .st 1 (.t 122) (.t 120)⟩])))
 (.seq (.dops true (.tk (q 123 (.mv (.t 0))) (.tk (q 124 (.nck (.t 123))) (.tk (q 125 (.fld 5 (.t 124))) (.tk (q 126 (.ld false 1 (.t 125))) (.tk (q 4 (.mv (.c (str [])))) (.sq (⟨(some 127), none, .bsl 1 [(i64 0)] [(0, 1, (.t 126))]⟩) (.tk (q 5 (.mv (.t 127))) (.tk (q 6 (.mv (.c (i64 0)))) .nil)))))))))
 .ret))) (.seq (.ops [q 129 (.bin .eql (.t 8) (.c (i64 7))), q 128 (.mv (.t 129))])
 (.cond (.t 128) (.seq (.seq (.dops true (.tk (q 130 (.fld 1 (.t 3))) (.tk (q 131 (.ld false 1 (.t 130))) (.tk (q 132 (.mv (.t 0))) (.tk (q 133 (.nck (.t 132))) (.tk (q 134 (.fld 7 (.t 133))) (.tk (q 135 (.ld false 1 (.t 134))) (.sq (⟨(some 136), none, .call (.c (.func (.func 69) #[] #[])) [(.t 135)]⟩) (.tk (q 137 (.bin .geq (.t 131) (.t 136))) .nil)))))))))
 (.cond (.t 137) (.seq (.ops [q 4 (.mv (.c (str []))), q 5 (.mv (.c nils)), q 6 (.mv (.c (i64 8)))])
 .ret) .skip))
 (.seq (.dops true (.tk (q 138 (.mv (.t 0))) (.tk (q 139 (.nck (.t 138))) (.tk (q 140 (.ld true 9 (.t 139))) (.tk (q 142 (.fld 1 (.t 3))) (.tk (q 143 (.ld false 1 (.t 142))) (.sq (⟨(some 141), none, .call (.c (.func (.func 139) #[] #[])) [(.t 140)]⟩) (.tk (q 144 (.idx 1 (.t 141) (.t 143))) (.sq (q 145 (.ld false 1 (.t 144))) (.tk (q 4 (.mv (.t 145))) (.tk (q 5 (.mv (.c nils))) (.tk (q 6 (.mv (.c (i64 0)))) .nil))))))))))))
 .ret)) (.seq (.ops [q 147 (.bin .eql (.t 8) (.c (i64 8))), q 146 (.mv (.t 147))])
 (.cond (.t 146) (.seq (.dops true (.tk (q 148 (.mv (.t 0))) (.tk (q 149 (.nck (.t 148))) (.tk (q 150 (.fld 0 (.t 149))) (.tk (q 151 (.ld false 1 (.t 150))) (.tk (q 152 (.mv (.t 0))) (.tk (q 153 (.nck (.t 152))) (.tk (q 154 (.fld 1 (.t 153))) (.tk (q 155 (.ld false 1 (.t 154))) (.tk (q 156 (.mv (.t 0))) (.tk (q 157 (.nck (.t 156))) (.tk (q 158 (.fld 8 (.t 157))) (.tk (q 159 (.ld false 1 (.t 158))) (.tk (q 161 (.mv (.t 0))) (.tk (q 162 (.nck (.t 161))) (.tk (q 163 (.fld 8 (.t 162))) (.tk (q 164 (.ld false 1 (.t 163))) (.tk (q 166 (.mv (.t 0))) (.tk (q 167 (.nck (.t 166))) (.tk (q 168 (.fld 5 (.t 167))) (.tk (q 169 (.ld false 1 (.t 168))) (.tk (q 170 (.mv (.t 0))) (.sq (⟨(some 160), none, .call (.c (.func (.func 128) #[] #[])) [(.t 159)]⟩) (.sq (⟨(some 165), none, .call (.c (.func (.func 115) #[] #[])) [(.t 164)]⟩) (.sq (⟨(some 171), none, .call (.c (.func (.func 140) #[] #[])) [(.t 170)]⟩) (.tk (q 4 (.mv (.c (str [])))) (.sq (⟨(some 172), none, .bsl 6 [(i64 0), (i64 0), (i64 0), (i64 0), (i64 0), (i64 0)] [(0, 1, (.t 151)), (1, 1, (.t 155)), (2, 1, (.t 160)), (3, 1, (.t 165)), (4, 1, (.t 169)), (5, 1, (.t 171))]⟩) (.tk (q 5 (.mv (.t 172))) (.tk (q 6 (.mv (.c (i64 0)))) .nil)))))))))))))))))))))))))))))
 .ret) (.seq (.ops [q 174 (.bin .eql (.t 8) (.c (i64 9))), q 173 (.mv (.t 174))])
 (.cond (.t 173) (.seq (.seq (.dops true (.tk (q 175 (.fld 1 (.t 3))) (.tk (q 176 (.ld false 1 (.t 175))) (.tk (q 177 (.mv (.t 0))) (.sq (⟨(some 178), none, .call (.c (.func (.func 140) #[] #[])) [(.t 177)]⟩) (.tk (q 179 (.bin .gtr (.t 176) (.t 178))) .nil))))))
 (.cond (.t 179) (.seq (.ops [q 4 (.mv (.c (str []))), q 5 (.mv (.c nils)), q 6 (.mv (.c (i64 11)))])
 .ret) .skip))
 (.dops true (.tk (q 180 (.mv (.t 0))) (.tk (q 181 (.nck (.t 180))) (.tk (q 182 (.fld 4 (.t 181))) (.tk (q 183 (.ld false 1 (.t 182))) (.tk (q 184 (.fld 1 (.t 3))) (.tk (q 185 (.ld false 1 (.t 184))) (.tk (q 186 (.bin .add (.t 183) (.t 185))) (.tk (q 187 (.nck (.t 180))) (.tk (q 188 (.fld 4 (.t 187))) (.lt (⟨none, none, .st 1 (.t 188) (.t 186)⟩) .nil)))))))))))) (.seq (.ops [q 190 (.bin .eql (.t 8) (.c (i64 10))), q 189 (.mv (.t 190))])
 (.cond (.t 189) (.ops [q 191 (.mv (.t 0)), q 192 (.nck (.t 191)), q 193 (.fld 4 (.t 192)), ⟨none, none, .st 1 (.t 193) (.c (i64 0))⟩]) (.ops [q 9 (.mv (.t 0)), ⟨(some 10), none, .call (.c (.func (.func 141) #[] #[])) [(.t 9)]⟩])))))))))))))))))))))))
 (.seq (.ops [q 4 (.mv (.c (str []))), q 5 (.mv (.c nils)), q 6 (.mv (.c (i64 0)))])
 .ret)))
theorem w_impl_Ideal_do {args : List Value} {h : H} {Q : Value → H → Prop} (hl : args.length ≤ 194) (hk : wpc Tryz.prog b_impl_Ideal_do (retw [.tmp 4, .tmp 5, .tmp 6] Q) (argsFr args) h) : AC Tryz.prog 58 args h Q :=
  AC.of_wpc mixedOrders Tryz.func58 (by kernel_rfl) (by kernel_rfl : prepF Tryz.prog Tryz.f58 = some ⟨194, [.tmp 4, .tmp 5, .tmp 6], b_impl_Ideal_do⟩) hl hk

set_option maxHeartbeats 800000 in
theorem do4_ac {h0 h : H} {b : Nat} {i : UIdeal} {vb vs : Value} {A B : Int} {dg : List UInt8} {st : UStep} (hs : i.small) (k : BoxI h0 h b i vb vs) (hok : idealOk i) (hc : cmdOk ⟨4, A, B, dg, st⟩) : AC Tryz.prog 58 [ptr b 0, .agg (UCmd.cells ⟨4, A, B, dg, st⟩).toArray] h fun r h' => DoneI h0 b (doI i ⟨4, A, B, dg, st⟩) r h' := by
  obtain ⟨p1, p2, p3, p4⟩ := phase_of hok
  unfold doI
  rw [if_neg (show ¬ ((4 : Int) = 1) by decide)]
  rw [if_neg (show ¬ ((4 : Int) = 2) by decide)]
  rw [if_neg (show ¬ ((4 : Int) = 3) by decide)]
  rw [if_pos rfl]
  refine w_impl_Ideal_do (by simp) ?_
  unfold b_impl_Ideal_do
  simp -implicitDefEqProofs only [go_sem]
  intro b3 hb3 n3
  have z3 : (b = b3) = False := eq_false fun e => by rw [← e, k.g] at n3; cases n3
  have k3 := k.ext ((Ext.refl h).set n3 ⟨(UCmd.cells ⟨4, A, B, dg, st⟩), 8⟩)
  have g3 : (h.set b3 ⟨(UCmd.cells ⟨4, A, B, dg, st⟩), 8⟩).get b3 = some ⟨(UCmd.cells ⟨4, A, B, dg, st⟩), 8⟩ := H.set_get_same _ _ _
  generalize h.set b3 ⟨(UCmd.cells ⟨4, A, B, dg, st⟩), 8⟩ = hh at *
  have G3 := fun o n => ldc_get g3 o n
  have Gb := fun o n => ldc_get k3.g o n
  have Sb := fun o n cs => stc_get k3.g o n cs
  have Hb := k3.hb
  skip
  simp -implicitDefEqProofs only [go_sem, G3, Gb, Sb, Hb]
  by_cases q1 : i.phase = 1
  · rw [if_pos (.inl q1)]
    simp -implicitDefEqProofs only [go_sem, q1, G3, Gb, Sb, Hb]
    exact k3.done
  by_cases q2 : i.phase = 5
  · rw [if_pos (.inr q2)]
    simp -implicitDefEqProofs only [go_sem, q2, G3, Gb, Sb, Hb]
    exact k3.done
  rw [if_neg (fun e => e.elim q1 q2)]
  simp -implicitDefEqProofs only [go_sem, q1, q2, G3, Gb, Sb, Hb]
  refine AC_of (idle_ac (i := i) (vs := vs) k3.g k3.hb k3.f1.sl.one k3.f1.sl.vcl) ?_
  rintro _ h1 - rfl
  simp -implicitDefEqProofs only [go_sem, G3, Gb, Sb, Hb]
  exact k3.idle.done
  skip
set_option maxHeartbeats 800000 in
theorem do5_ac {h0 h : H} {b : Nat} {i : UIdeal} {vb vs : Value} {A B : Int} {dg : List UInt8} {st : UStep} (hs : i.small) (k : BoxI h0 h b i vb vs) (hok : idealOk i) (hc : cmdOk ⟨5, A, B, dg, st⟩) : AC Tryz.prog 58 [ptr b 0, .agg (UCmd.cells ⟨5, A, B, dg, st⟩).toArray] h fun r h' => DoneI h0 b (doI i ⟨5, A, B, dg, st⟩) r h' := by
  obtain ⟨p1, p2, p3, p4⟩ := phase_of hok
  unfold doI
  rw [if_neg (show ¬ ((5 : Int) = 1) by decide)]
  rw [if_neg (show ¬ ((5 : Int) = 2) by decide)]
  rw [if_neg (show ¬ ((5 : Int) = 3) by decide)]
  rw [if_neg (show ¬ ((5 : Int) = 4) by decide)]
  rw [if_pos rfl]
  refine w_impl_Ideal_do (by simp) ?_
  unfold b_impl_Ideal_do
  simp -implicitDefEqProofs only [go_sem]
  intro b3 hb3 n3
  have z3 : (b = b3) = False := eq_false fun e => by rw [← e, k.g] at n3; cases n3
  have k3 := k.ext ((Ext.refl h).set n3 ⟨(UCmd.cells ⟨5, A, B, dg, st⟩), 8⟩)
  have g3 : (h.set b3 ⟨(UCmd.cells ⟨5, A, B, dg, st⟩), 8⟩).get b3 = some ⟨(UCmd.cells ⟨5, A, B, dg, st⟩), 8⟩ := H.set_get_same _ _ _
  generalize h.set b3 ⟨(UCmd.cells ⟨5, A, B, dg, st⟩), 8⟩ = hh at *
  have G3 := fun o n => ldc_get g3 o n
  have Gb := fun o n => ldc_get k3.g o n
  have Sb := fun o n cs => stc_get k3.g o n cs
  have Hb := k3.hb
  skip
  simp -implicitDefEqProofs only [go_sem, G3, Gb, Sb, Hb]
  refine Br.of (fun q1 => ?_) (fun q1 => ?_)
  rotate_left
  · rw [if_pos q1]
    simp -implicitDefEqProofs only [go_sem, G3, Gb, Sb, Hb]
    exact k3.done
  rw [if_neg (fun e => e q1)]
  simp -implicitDefEqProofs only [go_sem, G3, Gb, Sb, Hb]
  refine AC_of (view_ac (i := i) k3.rep.r hs hok) ?_
  rintro v h1 - ⟨e1, fv⟩
  have hv : idealView i = applyB i.base i.steps := by unfold idealView; rw [if_pos q1]
  rw [hv] at fv
  have k4 := k3.ext e1
  have k5 := k4.setBase (fv.back k3.e) (Dj.of k3.f2.fre.known fv.new).symm (fun e => by have := fv.new b e; rw [k3.g] at this; cases this)
  have v1 := fv.sl.one
  have v2 := fv.sl.vcl
  have G4 := fun o n => ldc_get k4.g o n
  have S4 := fun o n cs => stc_get k4.g o n cs
  have H4 := k4.hb
  have G5 := fun o n => ldc_get k5.g o n
  have S5 := fun o n cs => stc_get k5.g o n cs
  have H5 := k5.hb
  simp -implicitDefEqProofs only [go_sem, G4, S4, H4, v1, v2, G3, Gb, Sb, Hb]
  generalize h1.set b ⟨({ i with base := applyB i.base i.steps } : UIdeal).cells v vs, 9⟩ = h2 at *
  have hcz := code_zero (idealOk_code hok)
  refine AC_of (planOf_ac k5.f2.sl hcz.1.1 (steps_dst hcz.1)) ?_
  rintro v2 h3 - ⟨e3, f3⟩
  simp -implicitDefEqProofs only [go_sem, G3, Gb, Sb, Hb]
  refine (sizeMove_pc f3.sl).use ?_
  have k6 := k5.ext e3
  have G6 := fun o n => ldc_get k6.g o n
  have S6 := fun o n cs => stc_get k6.g o n cs
  have H6 := k6.hb
  simp -implicitDefEqProofs only [go_sem, G6, S6, H6, List.length_map, G3, Gb, Sb, Hb]
  exact (k6.put { i with base := applyB i.base i.steps, phase := 5, tries := 0, left := (idealMv i).length } rfl rfl).done
  skip
set_option maxHeartbeats 800000 in
theorem do6_ac {h0 h : H} {b : Nat} {i : UIdeal} {vb vs : Value} {A B : Int} {dg : List UInt8} {st : UStep} (hs : i.small) (k : BoxI h0 h b i vb vs) (hok : idealOk i) (hc : cmdOk ⟨6, A, B, dg, st⟩) : AC Tryz.prog 58 [ptr b 0, .agg (UCmd.cells ⟨6, A, B, dg, st⟩).toArray] h fun r h' => DoneI h0 b (doI i ⟨6, A, B, dg, st⟩) r h' := by
  obtain ⟨p1, p2, p3, p4⟩ := phase_of hok
  unfold doI
  rw [if_neg (show ¬ ((6 : Int) = 1) by decide)]
  rw [if_neg (show ¬ ((6 : Int) = 2) by decide)]
  rw [if_neg (show ¬ ((6 : Int) = 3) by decide)]
  rw [if_neg (show ¬ ((6 : Int) = 4) by decide)]
  rw [if_neg (show ¬ ((6 : Int) = 5) by decide)]
  rw [if_pos rfl]
  refine w_impl_Ideal_do (by simp) ?_
  unfold b_impl_Ideal_do
  simp -implicitDefEqProofs only [go_sem]
  intro b3 hb3 n3
  have z3 : (b = b3) = False := eq_false fun e => by rw [← e, k.g] at n3; cases n3
  have k3 := k.ext ((Ext.refl h).set n3 ⟨(UCmd.cells ⟨6, A, B, dg, st⟩), 8⟩)
  have g3 : (h.set b3 ⟨(UCmd.cells ⟨6, A, B, dg, st⟩), 8⟩).get b3 = some ⟨(UCmd.cells ⟨6, A, B, dg, st⟩), 8⟩ := H.set_get_same _ _ _
  generalize h.set b3 ⟨(UCmd.cells ⟨6, A, B, dg, st⟩), 8⟩ = hh at *
  have G3 := fun o n => ldc_get g3 o n
  have Gb := fun o n => ldc_get k3.g o n
  have Sb := fun o n cs => stc_get k3.g o n cs
  have Hb := k3.hb
  skip
  simp -implicitDefEqProofs only [go_sem, G3, Gb, Sb, Hb]
  refine Br.of (fun q1 => ?_) (fun q1 => ?_)
  rotate_left
  · rw [if_pos q1]
    simp -implicitDefEqProofs only [go_sem, G3, Gb, Sb, Hb]
    exact k3.done
  rw [if_neg (fun e => e q1)]
  simp -implicitDefEqProofs only [go_sem, G3, Gb, Sb, Hb]
  refine Br.of (fun q2 => ?_) (fun q2 => ?_)
  · rw [if_pos q2]
    simp -implicitDefEqProofs only [go_sem, G3, Gb, Sb, Hb]
    refine AC_of (idle_ac (i := i) (vs := vs) k3.g k3.hb k3.f1.sl.one k3.f1.sl.vcl) ?_
    rintro _ h1 - rfl
    have k4 := k3.idle
    have G4 := fun o n => ldc_get k4.g o n
    simp -implicitDefEqProofs only [go_sem, G4, G3, Gb, Sb, Hb]
    intro bx hbx nx
    simp -implicitDefEqProofs only [go_sem, G3, Gb, Sb, Hb]
    exact ⟨(Sub.refl _).set nx _, k4.reply hbx nx [0] [] 0⟩
  rw [if_neg q2]
  have k4 := k3.put { i with left := i.left - 1 } rfl rfl
  have G4 := fun o n => ldc_get k4.g o n
  simp -implicitDefEqProofs only [go_sem, wrap_i64 (show -(9223372036854775808 : Int) ≤ (i.left - 1) by omega) (show (i.left - 1) < 9223372036854775808 by omega), G3, Gb, Sb, Hb]
  generalize hh.set b ⟨({ i with left := i.left - 1 } : UIdeal).cells vb vs, 9⟩ = h2 at *
  simp -implicitDefEqProofs only [go_sem, G4, G3, Gb, Sb, Hb]
  intro bx hbx nx
  refine ⟨(Sub.refl _).set nx _, ?_⟩
  simp -implicitDefEqProofs only [go_sem, G3, Gb, Sb, Hb]
  exact k4.reply hbx nx [i.left - 1] [] 0
  skip
set_option maxHeartbeats 800000 in
theorem do7_ac {h0 h : H} {b : Nat} {i : UIdeal} {vb vs : Value} {A B : Int} {dg : List UInt8} {st : UStep} (hs : i.small) (k : BoxI h0 h b i vb vs) (hok : idealOk i) (hc : cmdOk ⟨7, A, B, dg, st⟩) : AC Tryz.prog 58 [ptr b 0, .agg (UCmd.cells ⟨7, A, B, dg, st⟩).toArray] h fun r h' => DoneI h0 b (doI i ⟨7, A, B, dg, st⟩) r h' := by
  obtain ⟨p1, p2, p3, p4⟩ := phase_of hok
  unfold doI
  rw [if_neg (show ¬ ((7 : Int) = 1) by decide)]
  rw [if_neg (show ¬ ((7 : Int) = 2) by decide)]
  rw [if_neg (show ¬ ((7 : Int) = 3) by decide)]
  rw [if_neg (show ¬ ((7 : Int) = 4) by decide)]
  rw [if_neg (show ¬ ((7 : Int) = 5) by decide)]
  rw [if_neg (show ¬ ((7 : Int) = 6) by decide)]
  rw [if_pos rfl]
  refine w_impl_Ideal_do (by simp) ?_
  unfold b_impl_Ideal_do
  simp -implicitDefEqProofs only [go_sem]
  intro b3 hb3 n3
  have z3 : (b = b3) = False := eq_false fun e => by rw [← e, k.g] at n3; cases n3
  have k3 := k.ext ((Ext.refl h).set n3 ⟨(UCmd.cells ⟨7, A, B, dg, st⟩), 8⟩)
  have g3 : (h.set b3 ⟨(UCmd.cells ⟨7, A, B, dg, st⟩), 8⟩).get b3 = some ⟨(UCmd.cells ⟨7, A, B, dg, st⟩), 8⟩ := H.set_get_same _ _ _
  generalize h.set b3 ⟨(UCmd.cells ⟨7, A, B, dg, st⟩), 8⟩ = hh at *
  have G3 := fun o n => ldc_get g3 o n
  have Gb := fun o n => ldc_get k3.g o n
  have Sb := fun o n cs => stc_get k3.g o n cs
  have Hb := k3.hb
  skip
  simp -implicitDefEqProofs only [go_sem, G3, Gb, Sb, Hb]
  have c1 : 0 ≤ A ∧ A ≤ 1000000 := by have := hc.2.1; rw [if_neg (show ¬ ((7 : Int) = 1) by decide), if_neg (show ¬ ((7 : Int) = 9) by decide), if_pos rfl] at this; exact this
  refine (sizeStr_pc k3.f1.sl).use ?_
  refine ⟨Sub.refl _, ?_⟩
  by_cases q1 : (i.base.length : Int) ≤ A
  · rw [if_pos q1]
    simp -implicitDefEqProofs only [go_sem, q1, G3, Gb, Sb, Hb]
    exact k3.done
  rw [if_neg q1]
  simp -implicitDefEqProofs only [go_sem, q1, G3, Gb, Sb, Hb]
  refine AC_of (view_ac (i := i) k3.rep.r hs hok) ?_
  rintro v h1 - ⟨e1, fv⟩
  refine ⟨e1.2, ?_⟩
  have hvl : (idealView i).length = i.base.length := by
    unfold idealView; split
    · rw [applyB_len]
    · rfl
  obtain ⟨av, cv, bv, ov, rfl, hcv, hrv, hlv⟩ := fv.sl
  have hl1 : (strs (idealView i)).length = i.base.length := by rw [← hvl]; simp
  rw [hl1] at hrv
  have hA : A.toNat < (idealView i).length := by omega
  have dk := hlv A.toNat [str (at8 (idealView i) A)] (by simp [at8, hA])
  rw [Nat.mul_one] at dk
  simp -implicitDefEqProofs only [go_sem, hl1, hrv, show A < (i.base.length : Int) by omega, c1.1, Nat.mul_one, dk, G3, Gb, Sb, Hb]
  refine ⟨e1.2, ?_⟩
  exact DoneI.of (o := ⟨i, at8 (idealView i) A, [], 0⟩) (k3.ext e1).e (k3.ext e1).g (k3.ext e1).rep (.inl ⟨none, 0, rfl, rfl⟩) fun _ _ h => by cases h
  skip
set_option maxHeartbeats 800000 in
theorem do8_ac {h0 h : H} {b : Nat} {i : UIdeal} {vb vs : Value} {A B : Int} {dg : List UInt8} {st : UStep} (hs : i.small) (k : BoxI h0 h b i vb vs) (hok : idealOk i) (hc : cmdOk ⟨8, A, B, dg, st⟩) : AC Tryz.prog 58 [ptr b 0, .agg (UCmd.cells ⟨8, A, B, dg, st⟩).toArray] h fun r h' => DoneI h0 b (doI i ⟨8, A, B, dg, st⟩) r h' := by
  obtain ⟨p1, p2, p3, p4⟩ := phase_of hok
  unfold doI
  rw [if_neg (show ¬ ((8 : Int) = 1) by decide)]
  rw [if_neg (show ¬ ((8 : Int) = 2) by decide)]
  rw [if_neg (show ¬ ((8 : Int) = 3) by decide)]
  rw [if_neg (show ¬ ((8 : Int) = 4) by decide)]
  rw [if_neg (show ¬ ((8 : Int) = 5) by decide)]
  rw [if_neg (show ¬ ((8 : Int) = 6) by decide)]
  rw [if_neg (show ¬ ((8 : Int) = 7) by decide)]
  rw [if_pos rfl]
  refine w_impl_Ideal_do (by simp) ?_
  unfold b_impl_Ideal_do
  simp -implicitDefEqProofs only [go_sem]
  intro b3 hb3 n3
  have z3 : (b = b3) = False := eq_false fun e => by rw [← e, k.g] at n3; cases n3
  have k3 := k.ext ((Ext.refl h).set n3 ⟨(UCmd.cells ⟨8, A, B, dg, st⟩), 8⟩)
  have g3 : (h.set b3 ⟨(UCmd.cells ⟨8, A, B, dg, st⟩), 8⟩).get b3 = some ⟨(UCmd.cells ⟨8, A, B, dg, st⟩), 8⟩ := H.set_get_same _ _ _
  generalize h.set b3 ⟨(UCmd.cells ⟨8, A, B, dg, st⟩), 8⟩ = hh at *
  have G3 := fun o n => ldc_get g3 o n
  have Gb := fun o n => ldc_get k3.g o n
  have Sb := fun o n cs => stc_get k3.g o n cs
  have Hb := k3.hb
  skip
  simp -implicitDefEqProofs only [go_sem, G3, Gb, Sb, Hb]
  have hs2 := hs.2
  refine (sizeStep_pc k3.f2.sl).use ?_
  refine ⟨Sub.refl _, ?_⟩
  simp -implicitDefEqProofs only [go_sem, G3, Gb, Sb, Hb]
  refine (keptOf_pc k3.f2.sl hs2).use ?_
  refine ⟨Sub.refl _, ?_⟩
  simp -implicitDefEqProofs only [go_sem, G3, Gb, Sb, Hb]
  refine (free_pc k3.g ⟨p1, p2, p3⟩).use ?_
  refine ⟨Sub.refl _, ?_⟩
  simp -implicitDefEqProofs only [go_sem, G3, Gb, Sb, Hb]
  intro bx hbx nx
  refine ⟨(Sub.refl _).set nx _, ?_⟩
  simp -implicitDefEqProofs only [go_sem, G3, Gb, Sb, Hb]
  exact k3.reply hbx nx [i.phase, i.tries, i.steps.length, kept i.steps, i.left, freeI i] [] 0
  skip
set_option maxHeartbeats 800000 in
theorem do9_ac {h0 h : H} {b : Nat} {i : UIdeal} {vb vs : Value} {A B : Int} {dg : List UInt8} {st : UStep} (hs : i.small) (k : BoxI h0 h b i vb vs) (hok : idealOk i) (hc : cmdOk ⟨9, A, B, dg, st⟩) : AC Tryz.prog 58 [ptr b 0, .agg (UCmd.cells ⟨9, A, B, dg, st⟩).toArray] h fun r h' => DoneI h0 b (doI i ⟨9, A, B, dg, st⟩) r h' := by
  obtain ⟨p1, p2, p3, p4⟩ := phase_of hok
  unfold doI
  rw [if_neg (show ¬ ((9 : Int) = 1) by decide)]
  rw [if_neg (show ¬ ((9 : Int) = 2) by decide)]
  rw [if_neg (show ¬ ((9 : Int) = 3) by decide)]
  rw [if_neg (show ¬ ((9 : Int) = 4) by decide)]
  rw [if_neg (show ¬ ((9 : Int) = 5) by decide)]
  rw [if_neg (show ¬ ((9 : Int) = 6) by decide)]
  rw [if_neg (show ¬ ((9 : Int) = 7) by decide)]
  rw [if_neg (show ¬ ((9 : Int) = 8) by decide)]
  rw [if_pos rfl]
  refine w_impl_Ideal_do (by simp) ?_
  unfold b_impl_Ideal_do
  simp -implicitDefEqProofs only [go_sem]
  intro b3 hb3 n3
  have z3 : (b = b3) = False := eq_false fun e => by rw [← e, k.g] at n3; cases n3
  have k3 := k.ext ((Ext.refl h).set n3 ⟨(UCmd.cells ⟨9, A, B, dg, st⟩), 8⟩)
  have g3 : (h.set b3 ⟨(UCmd.cells ⟨9, A, B, dg, st⟩), 8⟩).get b3 = some ⟨(UCmd.cells ⟨9, A, B, dg, st⟩), 8⟩ := H.set_get_same _ _ _
  generalize h.set b3 ⟨(UCmd.cells ⟨9, A, B, dg, st⟩), 8⟩ = hh at *
  have G3 := fun o n => ldc_get g3 o n
  have Gb := fun o n => ldc_get k3.g o n
  have Sb := fun o n cs => stc_get k3.g o n cs
  have Hb := k3.hb
  skip
  simp -implicitDefEqProofs only [go_sem, G3, Gb, Sb, Hb]
  have c1 : 1 ≤ A ∧ A ≤ 24 := by have := hc.2.1; rw [if_neg (show ¬ ((9 : Int) = 1) by decide), if_pos rfl] at this; exact this
  refine (free_pc k3.g ⟨p1, p2, p3⟩).use ?_
  refine ⟨Sub.refl _, ?_⟩
  by_cases q1 : freeI i < A
  · rw [if_pos q1]
    simp -implicitDefEqProofs only [go_sem, q1, G3, Gb, Sb, Hb]
    exact k3.done
  rw [if_neg q1]
  simp -implicitDefEqProofs only [go_sem, q1, wrap_i64 (show -(9223372036854775808 : Int) ≤ (i.held + A) by omega) (show (i.held + A) < 9223372036854775808 by omega), G3, Gb, Sb, Hb]
  exact (k3.put { i with held := i.held + A } rfl rfl).done
  skip
set_option maxHeartbeats 800000 in
theorem do10_ac {h0 h : H} {b : Nat} {i : UIdeal} {vb vs : Value} {A B : Int} {dg : List UInt8} {st : UStep} (hs : i.small) (k : BoxI h0 h b i vb vs) (hok : idealOk i) (hc : cmdOk ⟨10, A, B, dg, st⟩) : AC Tryz.prog 58 [ptr b 0, .agg (UCmd.cells ⟨10, A, B, dg, st⟩).toArray] h fun r h' => DoneI h0 b (doI i ⟨10, A, B, dg, st⟩) r h' := by
  obtain ⟨p1, p2, p3, p4⟩ := phase_of hok
  unfold doI
  rw [if_neg (show ¬ ((10 : Int) = 1) by decide)]
  rw [if_neg (show ¬ ((10 : Int) = 2) by decide)]
  rw [if_neg (show ¬ ((10 : Int) = 3) by decide)]
  rw [if_neg (show ¬ ((10 : Int) = 4) by decide)]
  rw [if_neg (show ¬ ((10 : Int) = 5) by decide)]
  rw [if_neg (show ¬ ((10 : Int) = 6) by decide)]
  rw [if_neg (show ¬ ((10 : Int) = 7) by decide)]
  rw [if_neg (show ¬ ((10 : Int) = 8) by decide)]
  rw [if_neg (show ¬ ((10 : Int) = 9) by decide)]
  rw [if_pos rfl]
  refine w_impl_Ideal_do (by simp) ?_
  unfold b_impl_Ideal_do
  simp -implicitDefEqProofs only [go_sem]
  intro b3 hb3 n3
  have z3 : (b = b3) = False := eq_false fun e => by rw [← e, k.g] at n3; cases n3
  have k3 := k.ext ((Ext.refl h).set n3 ⟨(UCmd.cells ⟨10, A, B, dg, st⟩), 8⟩)
  have g3 : (h.set b3 ⟨(UCmd.cells ⟨10, A, B, dg, st⟩), 8⟩).get b3 = some ⟨(UCmd.cells ⟨10, A, B, dg, st⟩), 8⟩ := H.set_get_same _ _ _
  generalize h.set b3 ⟨(UCmd.cells ⟨10, A, B, dg, st⟩), 8⟩ = hh at *
  have G3 := fun o n => ldc_get g3 o n
  have Gb := fun o n => ldc_get k3.g o n
  have Sb := fun o n cs => stc_get k3.g o n cs
  have Hb := k3.hb
  skip
  simp -implicitDefEqProofs only [go_sem, G3, Gb, Sb, Hb]
  exact (k3.put { i with held := 0 } rfl rfl).done
  skip
set_option maxHeartbeats 800000 in
theorem do11_ac {h0 h : H} {b : Nat} {i : UIdeal} {vb vs : Value} {A B : Int} {dg : List UInt8} {st : UStep} (hs : i.small) (k : BoxI h0 h b i vb vs) (hok : idealOk i) (hc : cmdOk ⟨11, A, B, dg, st⟩) : AC Tryz.prog 58 [ptr b 0, .agg (UCmd.cells ⟨11, A, B, dg, st⟩).toArray] h fun r h' => DoneI h0 b (doI i ⟨11, A, B, dg, st⟩) r h' := by
  obtain ⟨p1, p2, p3, p4⟩ := phase_of hok
  unfold doI
  rw [if_neg (show ¬ ((11 : Int) = 1) by decide)]
  rw [if_neg (show ¬ ((11 : Int) = 2) by decide)]
  rw [if_neg (show ¬ ((11 : Int) = 3) by decide)]
  rw [if_neg (show ¬ ((11 : Int) = 4) by decide)]
  rw [if_neg (show ¬ ((11 : Int) = 5) by decide)]
  rw [if_neg (show ¬ ((11 : Int) = 6) by decide)]
  rw [if_neg (show ¬ ((11 : Int) = 7) by decide)]
  rw [if_neg (show ¬ ((11 : Int) = 8) by decide)]
  rw [if_neg (show ¬ ((11 : Int) = 9) by decide)]
  rw [if_neg (show ¬ ((11 : Int) = 10) by decide)]
  refine w_impl_Ideal_do (by simp) ?_
  unfold b_impl_Ideal_do
  simp -implicitDefEqProofs only [go_sem]
  intro b3 hb3 n3
  have z3 : (b = b3) = False := eq_false fun e => by rw [← e, k.g] at n3; cases n3
  have k3 := k.ext ((Ext.refl h).set n3 ⟨(UCmd.cells ⟨11, A, B, dg, st⟩), 8⟩)
  have g3 : (h.set b3 ⟨(UCmd.cells ⟨11, A, B, dg, st⟩), 8⟩).get b3 = some ⟨(UCmd.cells ⟨11, A, B, dg, st⟩), 8⟩ := H.set_get_same _ _ _
  generalize h.set b3 ⟨(UCmd.cells ⟨11, A, B, dg, st⟩), 8⟩ = hh at *
  have G3 := fun o n => ldc_get g3 o n
  have Gb := fun o n => ldc_get k3.g o n
  have Sb := fun o n cs => stc_get k3.g o n cs
  have Hb := k3.hb
  skip
  simp -implicitDefEqProofs only [go_sem, G3, Gb, Sb, Hb]
  refine AC_of (boot_ac k3.g k3.hb k3.rep hs (idealOk_tries hok)) ?_
  rintro _ h1 - ⟨cs', rfl, f', hsub⟩
  simp -implicitDefEqProofs only [go_sem, G3, Gb, Sb, Hb]
  have nbb : ¬ blks cs' b := fun hx => by
    rcases ideal_blks.1 (hsub b hx) with h | h
    · exact k3.n1 h
    · exact k3.n2 (blk_ob h)
  exact DoneI.code (k3.e.set' k3.nb _) (H.set_get_same _ _ _) (RepF.setNe f' nbb _)
  skip
end Go.Proofs.YtdofcojbjcpikaaGreatDoor
