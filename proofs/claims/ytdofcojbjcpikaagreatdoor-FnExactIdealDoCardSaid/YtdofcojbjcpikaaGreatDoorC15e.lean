/- A helper of this seat's claims (contracts of the functions): what it shows is shown for every input that its statements name, on no other condition. -/
import Derived.Test.YtdofcojbjcpikaaGreatDoorC15d
set_option linter.unusedVariables false
set_option linter.unusedSimpArgs false
set_option maxRecDepth 100000
namespace Go.Proofs.YtdofcojbjcpikaaGreatDoor
open Go.KH

/-! ## The program's commands on ideals -/
theorem planOf_ok {i : UIdeal} (h : codeOf i.steps i.base.length = 0) : planOut i.steps i.base.length = (idealMv i, 0) := by
  have h1 := (code_zero h).1.1
  unfold planOut idealMv
  rw [if_neg (by omega), if_pos h]
theorem mv_28 {i : UIdeal} (h : codeOf i.steps i.base.length = 0) : (idealMv i).length ≤ 28 := by
  have := planOut_small i.steps i.base.length
  rw [planOf_ok h] at this
  exact this
theorem idealOk_code {i : UIdeal} (hok : idealOk i) : codeOf i.steps i.base.length = 0 := by
  have h5 := hok.2.2.2
  by_cases p : i.phase = 1
  · rw [if_pos p] at h5
    have h1 := hok.2.1.1
    rw [h5.2.2.2.2.2]
    have nt : ¬ twice ([] : List UStep) := by
      rintro ⟨a, c, hi, _⟩
      exact absurd hi (Nat.not_lt_zero _)
    unfold codeOf
    rw [if_pos ⟨by simp, by omega, by simp⟩, if_neg nt]
    simp [risingFrom]
  · rw [if_neg p] at h5; exact h5.1.2.2.2.2.1
theorem phase_of {i : UIdeal} (hok : idealOk i) : (0 ≤ i.held ∧ i.held ≤ 24) ∧ (0 ≤ i.need ∧ i.need ≤ 20) ∧ (0 ≤ i.stash ∧ i.stash ≤ 4) ∧ (0 ≤ i.left ∧ i.left ≤ 1000000) := by
  have hm := mv_28 (idealOk_code hok)
  refine ⟨hok.2.2.1, ?_⟩
  have h5 := hok.2.2.2
  by_cases p : i.phase = 1
  · rw [if_pos p] at h5; omega
  · rw [if_neg p] at h5; omega
theorem BoxI.setBase {h0 h : H} {b : Nat} {i : UIdeal} {vb vs v : Value} {B : List (List UInt8)} (k : BoxI h0 h b i vb vs) (f : Fre h0 h v 1 (strs B)) (d : Dj v vs) (n : blk v ≠ some b) : BoxI h0 (h.set b ⟨({ i with base := B } : UIdeal).cells v vs, 9⟩) b { i with base := B } v vs :=
  ⟨k.e.set' k.nb _, k.nb, H.set_get_same _ _ _, by rw [H.set_base]; exact k.hb, Fre.setNe f n _, k.f2.setOb k.n2 _, d, n, k.n2⟩
theorem ints_flat (l : List Int) : (ints l).flatten = l.map i64 := by
  induction l with
  | nil => rfl
  | cons x l ih => simp only [ints, List.map_cons, List.flatten_cons] at ih ⊢; rw [ih]; rfl
theorem BoxI.reply {h0 h : H} {b bx : Nat} {j : UIdeal} {vb vs : Value} (k : BoxI h0 h b j vb vs) (hbx : h.base ≤ bx) (nx : h.get bx = none) (l : List Int) (t : List UInt8) (n : Int) : DoneI h0 b ⟨j, t, l, n⟩ (.tuple #[str t, sl bx 0 l.length l.length, i64 n]) (h.set bx ⟨l.map i64, l.length⟩) := by
  have e := (Ext.refl h).set nx ⟨l.map i64, l.length⟩
  have k2 := k.ext e
  refine DoneI.of (o := ⟨j, t, l, n⟩) k2.e k2.g k2.rep (.inr ⟨bx, l.length, _, ?_, ?_, ?_, ?_, H.set_get_same _ _ _, ?_, Wid.map fun _ => rfl⟩) fun x hx e2 => ?_
  · simp only [ints, List.length_map]
  · simp only [ints, List.length_map]; exact Nat.le_refl _
  · rw [H.set_base]; exact hbx
  · exact k.e.none nx
  · rw [ints_flat]; exact List.prefix_refl _
  · have := blk_ob e2
    simp only [ob, Option.some.injEq] at this
    subst this
    exact k.rep.r.known.ne nx hx
theorem but_set (h : H) (b : Nat) (x : Ob) : Sub (but h b) (h.set b x) := but_keep (Keep.set (Keep.refl (fun x => x = b) h) (.inl (show b = b from rfl)) x)
namespace DoX
/-- (*impl.Ideal).do -/
def b_impl_Ideal_do : C := (.seq (.ops [⟨(some 3), none, .box (.t 1)⟩, q 4 (.mv (.c (str []))), q 5 (.mv (.c nils)), q 6 (.mv (.c (i64 0)))])
 (.seq (.seq (.ops [q 7 (.fld 0 (.t 3)), q 8 (.ld false 1 (.t 7))])
 (.block 0 (.seq (.ops [q 12 (.bin .eql (.t 8) (.c (i64 1))), q 11 (.mv (.t 12))])
 (.cond (.t 11) (.seq (.seq (.ops [q 13 (.mv (.t 0)), q 14 (.nck (.t 13)), q 15 (.fld 0 (.t 14)), q 16 (.ld false 1 (.t 15)), q 17 (.bin .neq (.t 16) (.c (i64 1)))])
 (.cond (.t 17) (.seq (.ops [q 4 (.mv (.c (str []))), q 5 (.mv (.c nils)), q 6 (.mv (.c (i64 10)))])
 .ret) .skip))
 (.seq (.seq (.dopx (.tk (q 18 (.fld 1 (.t 3))) (.tk (q 19 (.ld false 1 (.t 18))) (.tk (q 20 (.fld 2 (.t 3))) (.tk (q 21 (.ld false 1 (.t 20))) (.tk (q 22 (.bin .add (.t 19) (.t 21))) (.tk (q 23 (.mv (.t 0))) (.tk (q 24 (.nck (.t 23))) (.tk (q 25 (.fld 4 (.t 24))) (.tk (q 26 (.ld false 1 (.t 25))) (.tk (q 27 (.bin .add (.t 22) (.t 26))) (.tk (q 28 (.bin .gtr (.t 27) (.c (i64 24)))) .nil))))))))))))
 (.cond (.t 28) (.seq (.ops [q 4 (.mv (.c (str []))), q 5 (.mv (.c nils)), q 6 (.mv (.c (i64 11)))])
 .ret) .skip))
 (.dopx (.tk (q 29 (.mv (.t 0))) (.tk (q 30 (.mv (.t 0))) (.tk (q 31 (.mv (.t 0))) (.tk (q 32 (.mv (.t 0))) (.tk (q 33 (.fld 1 (.t 3))) (.tk (q 34 (.ld false 1 (.t 33))) (.tk (q 35 (.fld 2 (.t 3))) (.tk (q 36 (.ld false 1 (.t 35))) (.tk (q 37 (.fld 3 (.t 3))) (.tk (q 38 (.ld false 1 (.t 37))) (.tk (q 39 (.nck (.t 29))) (.tk (q 40 (.fld 0 (.t 39))) (.sq (⟨none, none, .st 1 (.t 40) (.c (i64 2))⟩) (.tk (q 41 (.nck (.t 30))) (.tk (q 42 (.fld 2 (.t 41))) (.sq (⟨none, none, .st 1 (.t 42) (.t 34)⟩) (.tk (q 43 (.nck (.t 31))) (.tk (q 44 (.fld 3 (.t 43))) (.sq (⟨none, none, .st 1 (.t 44) (.t 36)⟩) (.tk (q 45 (.nck (.t 32))) (.tk (q 46 (.fld 6 (.t 45))) (.lt (⟨none, none, .st 1 (.t 46) (.t 38)⟩) .nil))))))))))))))))))))))))) (.seq (.ops [q 48 (.bin .eql (.t 8) (.c (i64 2))), q 47 (.mv (.t 48))])
 (.cond (.t 47) (.seq (.ops [q 49 (.mv (.t 0)), q 50 (.fld 4 (.t 3)), q 51 (.ld true 4 (.t 50)), ⟨(some 52), none, .call (.c (.func (.func 136) #[] #[])) [(.t 49), (.t 51)]⟩, q 4 (.mv (.c (str []))), q 5 (.mv (.c nils)), q 6 (.mv (.t 52))])
 .ret) (.seq (.ops [q 54 (.bin .eql (.t 8) (.c (i64 3))), q 53 (.mv (.t 54))])
 (.cond (.t 53) (.seq (.ops [q 55 (.mv (.t 0)), ⟨(some 56), none, .call (.c (.func (.func 137) #[] #[])) [(.t 55)]⟩, q 4 (.mv (.c (str []))), q 5 (.mv (.c nils)), q 6 (.mv (.t 56))])
 .ret) (.seq (.ops [q 58 (.bin .eql (.t 8) (.c (i64 4))), q 57 (.mv (.t 58))])
 (.cond (.t 57) (.seq (.seq (.ops [q 59 (.mv (.t 0)), q 60 (.nck (.t 59)), q 61 (.fld 0 (.t 60)), q 62 (.ld false 1 (.t 61)), q 63 (.bin .eql (.t 62) (.c (i64 1))), q 64 (.mv (.t 63)), qg 65 64 false (.mv (.t 0)), qg 66 64 false (.nck (.t 65)), qg 67 64 false (.fld 0 (.t 66)), qg 68 64 false (.ld false 1 (.t 67)), qg 69 64 false (.bin .eql (.t 68) (.c (i64 5))), q 70 (.pick (.t 64) (.c (.bool true)) (.t 69))])
 (.cond (.t 70) (.seq (.ops [q 4 (.mv (.c (str []))), q 5 (.mv (.c nils)), q 6 (.mv (.c (i64 10)))])
 .ret) .skip))
 (.ops [q 71 (.mv (.t 0)), ⟨(some 72), none, .call (.c (.func (.func 138) #[] #[])) [(.t 71)]⟩])) (.seq (.ops [q 74 (.bin .eql (.t 8) (.c (i64 5))), q 73 (.mv (.t 74))])
 (.cond (.t 73) (.seq (.seq (.ops [q 75 (.mv (.t 0)), q 76 (.nck (.t 75)), q 77 (.fld 0 (.t 76)), q 78 (.ld false 1 (.t 77)), q 79 (.bin .neq (.t 78) (.c (i64 4)))])
 (.cond (.t 79) (.seq (.ops [q 4 (.mv (.c (str []))), q 5 (.mv (.c nils)), q 6 (.mv (.c (i64 10)))])
 .ret) .skip))
 (.seq (.ops [q 80 (.mv (.t 0)), q 81 (.mv (.t 0)), q 82 (.nck (.t 81)), q 83 (.ld true 9 (.t 82)), ⟨(some 84), none, .call (.c (.func (.func 139) #[] #[])) [(.t 83)]⟩, q 85 (.nck (.t 80)), q 86 (.fld 7 (.t 85)), ⟨none, none, .st 1 (.t 86) (.t 84)⟩])
 (.ops [q 87 (.mv (.t 0)), q 88 (.mv (.t 0)), q 89 (.mv (.t 0)), q 90 (.mv (.t 0)), q 91 (.nck (.t 90)), q 92 (.fld 8 (.t 91)), q 93 (.ld false 1 (.t 92)), ⟨(some 94), none, .call (.c (.func (.func 129) #[] #[])) [(.t 93)]⟩, ⟨(some 95), none, .call (.c (.func (.func 131) #[] #[])) [(.t 94)]⟩, q 96 (.nck (.t 87)), q 97 (.fld 0 (.t 96)), ⟨none, none, .st 1 (.t 97) (.c (i64 5))⟩, q 98 (.nck (.t 88)), q 99 (.fld 1 (.t 98)), ⟨none, none, .st 1 (.t 99) (.c (i64 0))⟩, q 100 (.nck (.t 89)), q 101 (.fld 5 (.t 100)), ⟨none, none, .st 1 (.t 101) (.t 95)⟩]))) (.seq (.ops [q 103 (.bin .eql (.t 8) (.c (i64 6))), q 102 (.mv (.t 103))])
 (.cond (.t 102) (.seq (.seq (.ops [q 104 (.mv (.t 0)), q 105 (.nck (.t 104)), q 106 (.fld 0 (.t 105)), q 107 (.ld false 1 (.t 106)), q 108 (.bin .neq (.t 107) (.c (i64 5)))])
 (.cond (.t 108) (.seq (.ops [q 4 (.mv (.c (str []))), q 5 (.mv (.c nils)), q 6 (.mv (.c (i64 10)))])
 .ret) .skip))
 (.seq (.seq (.ops [q 109 (.mv (.t 0)), q 110 (.nck (.t 109)), q 111 (.fld 5 (.t 110)), q 112 (.ld false 1 (.t 111)), q 113 (.bin .eql (.t 112) (.c (i64 0)))])
 (.cond (.t 113) (.ops [q 114 (.mv (.t 0)), ⟨(some 115), none, .call (.c (.func (.func 138) #[] #[])) [(.t 114)]⟩]) (.ops [q 116 (.mv (.t 0)), q 117 (.nck (.t 116)), q 118 (.fld 5 (.t 117)), q 119 (.ld false 1 (.t 118)), q 120 (.bin .sub (.t 119) (.c (i64 1))), q 121 (.nck (.t 116)), q 122 (.fld 5 (.t 121)), ⟨none, none, .st 1 (.t 122) (.t 120)⟩])))
 (.seq (.dopx (.tk (q 123 (.mv (.t 0))) (.tk (q 124 (.nck (.t 123))) (.tk (q 125 (.fld 5 (.t 124))) (.tk (q 126 (.ld false 1 (.t 125))) (.tk (q 4 (.mv (.c (str [])))) (.sq (⟨(some 127), none, .bsl 1 [(i64 0)] [(0, 1, (.t 126))]⟩) (.tk (q 5 (.mv (.t 127))) (.tk (q 6 (.mv (.c (i64 0)))) .nil)))))))))
 .ret))) (.seq (.ops [q 129 (.bin .eql (.t 8) (.c (i64 7))), q 128 (.mv (.t 129))])
 (.cond (.t 128) (.seq (.seq (.dopx (.tk (q 130 (.fld 1 (.t 3))) (.tk (q 131 (.ld false 1 (.t 130))) (.tk (q 132 (.mv (.t 0))) (.tk (q 133 (.nck (.t 132))) (.tk (q 134 (.fld 7 (.t 133))) (.tk (q 135 (.ld false 1 (.t 134))) (.sq (⟨(some 136), none, .call (.c (.func (.func 69) #[] #[])) [(.t 135)]⟩) (.tk (q 137 (.bin .geq (.t 131) (.t 136))) .nil)))))))))
 (.cond (.t 137) (.seq (.ops [q 4 (.mv (.c (str []))), q 5 (.mv (.c nils)), q 6 (.mv (.c (i64 8)))])
 .ret) .skip))
 (.seq (.dopx (.tk (q 138 (.mv (.t 0))) (.tk (q 139 (.nck (.t 138))) (.tk (q 140 (.ld true 9 (.t 139))) (.tk (q 142 (.fld 1 (.t 3))) (.tk (q 143 (.ld false 1 (.t 142))) (.sq (⟨(some 141), none, .call (.c (.func (.func 139) #[] #[])) [(.t 140)]⟩) (.tk (q 144 (.idx 1 (.t 141) (.t 143))) (.sq (q 145 (.ld false 1 (.t 144))) (.tk (q 4 (.mv (.t 145))) (.tk (q 5 (.mv (.c nils))) (.tk (q 6 (.mv (.c (i64 0)))) .nil))))))))))))
 .ret)) (.seq (.ops [q 147 (.bin .eql (.t 8) (.c (i64 8))), q 146 (.mv (.t 147))])
 (.cond (.t 146) (.seq (.dopx (.tk (q 148 (.mv (.t 0))) (.tk (q 149 (.nck (.t 148))) (.tk (q 150 (.fld 0 (.t 149))) (.tk (q 151 (.ld false 1 (.t 150))) (.tk (q 152 (.mv (.t 0))) (.tk (q 153 (.nck (.t 152))) (.tk (q 154 (.fld 1 (.t 153))) (.tk (q 155 (.ld false 1 (.t 154))) (.tk (q 156 (.mv (.t 0))) (.tk (q 157 (.nck (.t 156))) (.tk (q 158 (.fld 8 (.t 157))) (.tk (q 159 (.ld false 1 (.t 158))) (.tk (q 161 (.mv (.t 0))) (.tk (q 162 (.nck (.t 161))) (.tk (q 163 (.fld 8 (.t 162))) (.tk (q 164 (.ld false 1 (.t 163))) (.tk (q 166 (.mv (.t 0))) (.tk (q 167 (.nck (.t 166))) (.tk (q 168 (.fld 5 (.t 167))) (.tk (q 169 (.ld false 1 (.t 168))) (.tk (q 170 (.mv (.t 0))) (.sq (⟨(some 160), none, .call (.c (.func (.func 128) #[] #[])) [(.t 159)]⟩) (.sq (⟨(some 165), none, .call (.c (.func (.func 115) #[] #[])) [(.t 164)]⟩) (.sq (⟨(some 171), none, .call (.c (.func (.func 140) #[] #[])) [(.t 170)]⟩) (.tk (q 4 (.mv (.c (str [])))) (.sq (⟨(some 172), none, .bsl 6 [(i64 0), (i64 0), (i64 0), (i64 0), (i64 0), (i64 0)] [(0, 1, (.t 151)), (1, 1, (.t 155)), (2, 1, (.t 160)), (3, 1, (.t 165)), (4, 1, (.t 169)), (5, 1, (.t 171))]⟩) (.tk (q 5 (.mv (.t 172))) (.tk (q 6 (.mv (.c (i64 0)))) .nil)))))))))))))))))))))))))))))
 .ret) (.seq (.ops [q 174 (.bin .eql (.t 8) (.c (i64 9))), q 173 (.mv (.t 174))])
 (.cond (.t 173) (.seq (.seq (.dopx (.tk (q 175 (.fld 1 (.t 3))) (.tk (q 176 (.ld false 1 (.t 175))) (.tk (q 177 (.mv (.t 0))) (.sq (⟨(some 178), none, .call (.c (.func (.func 140) #[] #[])) [(.t 177)]⟩) (.tk (q 179 (.bin .gtr (.t 176) (.t 178))) .nil))))))
 (.cond (.t 179) (.seq (.ops [q 4 (.mv (.c (str []))), q 5 (.mv (.c nils)), q 6 (.mv (.c (i64 11)))])
 .ret) .skip))
 (.dopx (.tk (q 180 (.mv (.t 0))) (.tk (q 181 (.nck (.t 180))) (.tk (q 182 (.fld 4 (.t 181))) (.tk (q 183 (.ld false 1 (.t 182))) (.tk (q 184 (.fld 1 (.t 3))) (.tk (q 185 (.ld false 1 (.t 184))) (.tk (q 186 (.bin .add (.t 183) (.t 185))) (.tk (q 187 (.nck (.t 180))) (.tk (q 188 (.fld 4 (.t 187))) (.lt (⟨none, none, .st 1 (.t 188) (.t 186)⟩) .nil)))))))))))) (.seq (.ops [q 190 (.bin .eql (.t 8) (.c (i64 10))), q 189 (.mv (.t 190))])
 (.cond (.t 189) (.ops [q 191 (.mv (.t 0)), q 192 (.nck (.t 191)), q 193 (.fld 4 (.t 192)), ⟨none, none, .st 1 (.t 193) (.c (i64 0))⟩]) (.ops [q 9 (.mv (.t 0)), ⟨(some 10), none, .call (.c (.func (.func 141) #[] #[])) [(.t 9)]⟩])))))))))))))))))))))))
 (.seq (.ops [q 4 (.mv (.c (str []))), q 5 (.mv (.c nils)), q 6 (.mv (.c (i64 0)))])
 .ret)))
theorem w_impl_Ideal_do {args : List Value} {h : H} {Q : Value → H → Prop} (hl : args.length ≤ 194) (hk : wpc Tryz.prog b_impl_Ideal_do (retw [.tmp 4, .tmp 5, .tmp 6] Q) (argsFr args) h) : AC Tryz.prog 58 args h Q :=
  AC.of_wpcx mixedOrders Tryz.func58 (by kernel_rfl) (by kernel_rfl : prepFx Tryz.prog Tryz.f58 = some ⟨194, [.tmp 4, .tmp 5, .tmp 6], b_impl_Ideal_do⟩) hl hk

theorem do1_ac {h0 h : H} {b : Nat} {i : UIdeal} {vb vs : Value} {A B : Int} {dg : List UInt8} {st : UStep} (k : BoxI h0 h b i vb vs) (hok : idealOk i) (hc : cmdOk ⟨1, A, B, dg, st⟩) : AC Tryz.prog 58 [ptr b 0, .agg (UCmd.cells ⟨1, A, B, dg, st⟩).toArray] h fun r h' => DoneI h0 b (doI i ⟨1, A, B, dg, st⟩) r h' := by
  obtain ⟨p1, p2, p3, p4⟩ := phase_of hok
  have c1 : 1 ≤ A ∧ A ≤ 20 := by have := hc.2.1; rw [if_pos rfl] at this; exact this
  have c2 : 0 ≤ B ∧ B ≤ 4 := by have := hc.2.2.1; rw [if_pos rfl] at this; exact this
  unfold doI
  rw [if_pos rfl]
  refine w_impl_Ideal_do (by simp) ?_
  unfold b_impl_Ideal_do
  simp -implicitDefEqProofs only [go_sem]
  intro b3 hb3 n3
  have z3 : (b = b3) = False := eq_false fun e => by rw [← e, k.g] at n3; cases n3
  have k3 := k.ext ((Ext.refl h).set n3 ⟨(UCmd.cells ⟨1, A, B, dg, st⟩), 8⟩)
  have g3 : (h.set b3 ⟨(UCmd.cells ⟨1, A, B, dg, st⟩), 8⟩).get b3 = some ⟨(UCmd.cells ⟨1, A, B, dg, st⟩), 8⟩ := H.set_get_same _ _ _
  generalize h.set b3 ⟨(UCmd.cells ⟨1, A, B, dg, st⟩), 8⟩ = hh at *
  have G3 := fun o n => ldc_get g3 o n
  have Gb := fun o n => ldc_get k3.g o n
  have Sb := fun o n cs => stc_get k3.g o n cs
  have Hb := k3.hb
  skip
  simp -implicitDefEqProofs only [go_sem, G3, Gb, Sb, Hb]
  refine Br.of (fun q1 => ?_) (fun q1 => ?_)
  rotate_left
  · rw [if_pos q1]
    simp -implicitDefEqProofs only [go_sem, G3, Gb, Sb, Hb]
    exact k3.done
  rw [if_neg (fun e => e q1)]
  simp -implicitDefEqProofs only [go_sem, G3, Gb, Sb, Hb]
  refine dopX_of _ (Sub.refl _) ?_
  simp -implicitDefEqProofs only [go_sem, wrap_i64 (show -(9223372036854775808 : Int) ≤ (A + B) by omega) (show (A + B) < 9223372036854775808 by omega), wrap_i64 (show -(9223372036854775808 : Int) ≤ (A + B + i.held) by omega) (show (A + B + i.held) < 9223372036854775808 by omega), G3, Gb, Sb, Hb]
  refine Br.of (fun q2 => ?_) (fun q2 => ?_)
  · rw [if_pos q2]
    simp -implicitDefEqProofs only [go_sem, G3, Gb, Sb, Hb]
    exact k3.done
  rw [if_neg q2]
  simp -implicitDefEqProofs only [go_sem, G3, Gb, Sb, Hb]
  refine dopX_of _ (but_sub hh b) ?_
  have B3 : (but hh b).get b3 = some ⟨(UCmd.cells ⟨1, A, B, dg, st⟩), 8⟩ := by rw [but_get (fun e => of_eq_false z3 e.symm)]; exact g3
  have L3 := fun o n => ldc_get B3 o n
  have BS := but_set hh b
  simp -implicitDefEqProofs only [go_sem, L3, BS, G3, Gb, Sb, Hb]
  exact (k3.put { i with phase := 2, need := A, stash := B, digest := dg } rfl rfl).done
end DoX
end Go.Proofs.YtdofcojbjcpikaaGreatDoor
