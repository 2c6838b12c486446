/- A helper of this seat's claims (contracts of the functions): what it shows is shown for every input that its statements name, on no other condition. -/
import Derived.Test.YtdofcojbjcpikaaGreatDoorC15f
set_option linter.unusedVariables false
set_option linter.unusedSimpArgs false
set_option maxRecDepth 100000
namespace Go.Proofs.YtdofcojbjcpikaaGreatDoor
open Go.KH

/-! ## Steps received, and the end of that -/
def StepI (h0 : H) (b : Nat) (o : UIdealOut) (r : Value) (h' : H) : Prop := r = i64 o.code ∧ o.text = [] ∧ o.reply = [] ∧ Ext h0 h' ∧ ∃ cs', h'.get b = some ⟨cs', 9⟩ ∧ RepF h0 h' (spIdeal o.ideal) cs'
theorem BoxI.step {h0 h : H} {b : Nat} {i : UIdeal} {vb vs : Value} {n : Int} (k : BoxI h0 h b i vb vs) : StepI h0 b (codeI i n) (i64 n) h := ⟨rfl, rfl, rfl, k.e, _, k.g, k.rep⟩
theorem Own.fre_app {h0 h : H} {vs v' : Value} {w b' : Nat} {x : Ob} {rows new : List (List Value)} (o : Own h0 h vs w rows) (o2 : Own h0 (h.set b' x) v' w (rows ++ new)) (hn : new ≠ []) (hob : ∀ b2, ob v' = some b2 → b2 = b') (h0b : h0.get b' = none) : Fre h0 (h.set b' x) vs w rows := by
  rcases o with ⟨rfl, rfl⟩ | ⟨b1, c, z, rfl, hlc, hbb, h0n, hg, hcz, hww⟩
  · exact .inl ⟨none, 0, rfl, rfl⟩
  · rcases o2 with ⟨_, e⟩ | ⟨b2, c2, z2, rfl, _, _, _, hg2, _, _⟩
    · exact absurd (List.append_eq_nil_iff.1 e).2 hn
    · obtain rfl := hob b2 rfl
      by_cases e : b1 = b2
      · subst e
        exact .inr ⟨b1, c, _, rfl, hlc, by rw [H.set_base]; exact hbb, h0n, hg2, by rw [List.flatten_append]; exact List.prefix_append _ _, hww⟩
      · exact .inr ⟨b1, c, _, rfl, hlc, by rw [H.set_base]; exact hbb, h0n, by rw [H.set_get_ne _ _ _ _ e]; exact hg, List.prefix_refl _, hww⟩
theorem ob_ne {h0 h : H} {vb vs : Value} {B : List (List UInt8)} {l : List UStep} (f1 : Fre h0 h vb 1 (strs B)) (f2 : Own h0 h vs 4 (l.map UStep.cells)) (d : Dj vb vs) (hB : B ≠ []) {x : Nat} (hx : blk vb = some x) : ob vs ≠ some x := by
  intro e
  rcases f2 with ⟨rfl, _⟩ | ⟨b1, c, z, rfl, hlc, hbb, h0n, hg, hcz, hww⟩
  · cases e
  · simp only [ob, Option.some.injEq] at e
    subst e
    cases l with
    | cons s l => exact d _ hx rfl
    | nil =>
      rcases f1 with ⟨a, c', rfl, e⟩ | ⟨b2, c2, o2, rfl, _, _, _, hg2, hp, _⟩
      · exact hB (by simpa using e)
      · obtain ⟨a', n', c', e2, e3⟩ := blk_some hx
        simp only [sl, Value.slice.injEq, Option.some.injEq] at e2
        obtain ⟨e4, _, _⟩ := e2
        subst e4
        simp only at e3
        subst e3
        rw [hg] at hg2
        cases hg2
        obtain ⟨q, rest, rfl⟩ : ∃ q rest, B = q :: rest := by cases B with | nil => exact absurd rfl hB | cons q r => exact ⟨q, r, rfl⟩
        simp at hp
/-- (*impl.Ideal).step -/
def b_impl_Ideal_step : C := (.seq (.ops [⟨(some 3), none, .box (.t 1)⟩, q 4 (.mv (.c (i64 0)))])
 (.seq (.block 0 (.seq (.ops [q 8 (.mv (.t 0)), q 9 (.nck (.t 8)), q 10 (.fld 0 (.t 9)), q 11 (.ld false 1 (.t 10)), q 12 (.bin .neq (.t 11) (.c (i64 2))), q 7 (.mv (.t 12))])
 (.cond (.t 7) (.seq (.ops [q 4 (.mv (.c (i64 10)))])
 .ret) (.seq (.dops true (.tk (q 14 (.mv (.t 0))) (.tk (q 15 (.nck (.t 14))) (.tk (q 16 (.fld 8 (.t 15))) (.tk (q 17 (.ld false 1 (.t 16))) (.tk (q 19 (.mv (.t 0))) (.tk (q 20 (.nck (.t 19))) (.tk (q 21 (.fld 2 (.t 20))) (.tk (q 22 (.ld false 1 (.t 21))) (.sq (⟨(some 18), none, .call (.c (.func (.func 128) #[] #[])) [(.t 17)]⟩) (.tk (q 23 (.bin .eql (.t 18) (.t 22))) (.tk (q 13 (.mv (.t 23))) .nil))))))))))))
 (.cond (.t 13) (.seq (.ops [q 4 (.mv (.c (i64 9)))])
 .ret) .skip)))))
 (.seq (.dops true (.tk (q 24 (.mv (.t 0))) (.tk (q 25 (.nck (.t 24))) (.tk (q 26 (.fld 8 (.t 25))) (.tk (q 27 (.ld false 1 (.t 26))) (.tk (q 28 (.ld true 4 (.t 3))) (.sq (⟨(some 29), none, .bsl 1 [(i64 0), (i64 0), (i64 0), (str [])] [(0, 4, (.t 28))]⟩) (.lt (⟨(some 30), none, .app 4 40 (.t 27) (.t 29)⟩) (.tk (q 5 (.mv (.t 30))) .nil)))))))))
 (.seq (.seq (.ops [q 31 (.mv (.t 5)), q 32 (.mv (.t 0)), q 33 (.nck (.t 32)), q 34 (.fld 7 (.t 33)), q 35 (.ld false 1 (.t 34)), ⟨(some 36), none, .call (.c (.func (.func 69) #[] #[])) [(.t 35)]⟩, ⟨(some 37), none, .call (.c (.func (.func 98) #[] #[])) [(.t 31), (.t 36)]⟩, q 6 (.mv (.t 37))])
 (.seq (.ops [q 38 (.mv (.t 6)), q 39 (.bin .neq (.t 38) (.c (i64 0)))])
 (.cond (.t 39) (.seq (.ops [q 40 (.mv (.t 6)), q 4 (.mv (.t 40))])
 .ret) .skip)))
 (.seq (.ops [q 41 (.mv (.t 0)), q 42 (.mv (.t 5)), q 43 (.nck (.t 41)), q 44 (.fld 8 (.t 43)), ⟨none, none, .st 1 (.t 44) (.t 42)⟩])
 (.seq (.ops [q 4 (.mv (.c (i64 0)))])
 .ret))))))
theorem w_impl_Ideal_step {args : List Value} {h : H} {Q : Value → H → Prop} (hl : args.length ≤ 45) (hk : wpc Tryz.prog b_impl_Ideal_step (retw [.tmp 4] Q) (argsFr args) h) : AC Tryz.prog 136 args h Q :=
  AC.of_wpc mixedOrders Tryz.func136 (by kernel_rfl) (by kernel_rfl : prepF Tryz.prog Tryz.f136 = some ⟨45, [.tmp 4], b_impl_Ideal_step⟩) hl hk

set_option maxHeartbeats 1600000 in
theorem stepI_ac {h0 h : H} {b : Nat} {i : UIdeal} {vb vs : Value} {st : UStep} (hs : i.small) (k : BoxI h0 h b i vb vs) (hok : idealOk i) : AC Tryz.prog 136 [ptr b 0, .agg st.cells.toArray] h fun r h' => StepI h0 b (doI i ⟨2, 0, 0, [], st⟩) r h' := by
  have h20 := idealOk_steps hok
  obtain ⟨p1, p2, p3, p4⟩ := phase_of hok
  have hne : i.base ≠ [] := fun e => by have := hok.2.1.1; rw [e] at this; simp at this
  have hl : (i.steps.map UStep.cells).length = i.steps.length := by simp
  obtain ⟨a, c, rfl⟩ := k.f2.shape
  rw [hl] at k
  unfold doI
  rw [if_neg (show ¬ ((2 : Int) = 1) by decide), if_pos rfl]
  refine w_impl_Ideal_step (by simp) ?_
  unfold b_impl_Ideal_step
  simp -implicitDefEqProofs only [go_sem]
  intro b3 hb3 n3
  have z3 : (b = b3) = False := eq_false fun e => by rw [← e, k.g] at n3; cases n3
  have k3 := k.ext ((Ext.refl h).set n3 ⟨st.cells, 4⟩)
  have g3 : (h.set b3 ⟨st.cells, 4⟩).get b3 = some ⟨st.cells, 4⟩ := H.set_get_same _ _ _
  generalize h.set b3 ⟨st.cells, 4⟩ = hh at *
  have G3 := fun o n => ldc_get g3 o n
  have Gb := fun o n => ldc_get k3.g o n
  have Sb := fun o n cs => stc_get k3.g o n cs
  have Hb := k3.hb
  skip
  simp -implicitDefEqProofs only [go_sem, G3, Gb, Sb, Hb]
  refine Br.of (fun q1 => ?_) (fun q1 => ?_)
  rotate_left
  · rw [if_pos q1]
    simp -implicitDefEqProofs only [go_sem, G3, Gb, Sb, Hb]
    exact k3.step
  rw [if_neg (fun e => e q1)]
  simp -implicitDefEqProofs only [go_sem, G3, Gb, Sb, Hb]
  refine (sizeStep_pc k3.f2.sl).use ?_
  refine ⟨Sub.refl _, ?_⟩
  by_cases q2 : (i.steps.length : Int) = i.need
  · rw [if_pos q2]
    simp -implicitDefEqProofs only [go_sem, decide_eq_true q2, G3, Gb, Sb, Hb]
    exact k3.step
  rw [if_neg q2]
  simp -implicitDefEqProofs only [go_sem, q2, G3, Gb, Sb, Hb]
  intro bx hbx nx
  refine ⟨(Sub.refl _).set nx _, ?_⟩
  skip
  have k4 := k3.ext ((Ext.refl hh).set nx ⟨st.cells, 4⟩)
  simp -implicitDefEqProofs only [go_sem, hl]
  refine appW_ownB (new := [st.cells]) (fun c hc => k4.e.none hc) k4.f2 rfl (by intro r hr; simp at hr; subst hr; rfl) rfl (by rw [hl]; simp; omega) ?_ (fun h => by cases h)
  intro v' b' x hb' hor hob o5
  generalize hh.set bx ⟨st.cells, 4⟩ = hx at *
  have hbb : b ≠ b' := by
    rintro rfl
    rcases hor with e | e
    · exact k4.n2 (by simpa [hl] using e)
    · rw [k4.g] at e; cases e
  have hvb : blk vb ≠ some b' := fun e => by
    rcases hor with e2 | e2
    · exact ob_ne k4.f1 k4.f2 k4.d hne e (by simpa [hl] using e2)
    · exact k4.f1.known b' e e2
  have E5 : Ext h0 (hx.set b' x) := k4.e.set' hb' _
  have g5 : (hx.set b' x).get b = some ⟨i.cells vb (.slice a i.steps.length c), 9⟩ := by rw [H.set_get_ne _ _ _ _ hbb]; exact k4.g
  have B5 : (hx.set b' x).base ≤ b := by rw [H.set_base]; exact k4.hb
  have F5 := Fre.setNe k4.f1 hvb x
  have old5 := Own.fre_app k4.f2 o5 (by simp) hob hb'
  have hmap : i.steps.map UStep.cells ++ [st.cells] = (i.steps ++ [st]).map UStep.cells := by simp
  rw [hmap] at o5
  generalize hx.set b' x = h5 at *
  have G5 := fun o n => ldc_get g5 o n
  have S5 := fun o n cs => stc_get g5 o n cs
  skip
  simp -implicitDefEqProofs only [go_sem, G5, S5, B5]
  refine (sizeStr_pc F5.sl).use ?_
  simp -implicitDefEqProofs only [go_sem, G5, S5, B5]
  refine (stepsCode_pc o5.sl (by simp; omega)).use ?_
  by_cases q3 : codeOf (i.steps ++ [st]) i.base.length = 0
  rotate_left
  · rw [if_pos q3]
    simp -implicitDefEqProofs only [go_sem, q3, G5, S5, B5]
    exact ⟨rfl, rfl, rfl, E5, _, g5, ideal_f.2 ⟨_, _, rfl, F5, old5, by simpa [hl] using k4.d⟩⟩
  rw [if_neg (fun e => e q3)]
  have v1 := o5.sl.one
  have v2 := o5.sl.vcl
  simp -implicitDefEqProofs only [go_sem, q3, v1, v2, G5, S5, B5]
  refine ⟨rfl, rfl, rfl, E5.set' k4.nb _, _, H.set_get_same _ _ _, ideal_f.2 ⟨_, _, rfl, Fre.setNe F5 k4.n1 _, (o5.setOb (fun e => hbb (hob _ e)) _).fre, fun y h1 h2 => hvb (by rw [h1, hob y (blk_ob h2)])⟩⟩
/-- (*impl.Ideal).finish -/
def b_impl_Ideal_finish : C := (.seq (.ops [q 2 (.mv (.c (i64 0)))])
 (.seq (.seq (.ops [q 4 (.mv (.t 0)), q 5 (.nck (.t 4)), q 6 (.fld 0 (.t 5)), q 7 (.ld false 1 (.t 6)), q 8 (.bin .neq (.t 7) (.c (i64 2)))])
 (.cond (.t 8) (.seq (.ops [q 2 (.mv (.c (i64 10)))])
 .ret) .skip))
 (.seq (.ops [q 3 (.mv (.c (i64 0)))])
 (.seq (.block 0 (.seq (.dops true (.tk (q 10 (.mv (.t 0))) (.tk (q 11 (.nck (.t 10))) (.tk (q 12 (.fld 8 (.t 11))) (.tk (q 13 (.ld false 1 (.t 12))) (.tk (q 15 (.mv (.t 0))) (.tk (q 16 (.nck (.t 15))) (.tk (q 17 (.fld 2 (.t 16))) (.tk (q 18 (.ld false 1 (.t 17))) (.sq (⟨(some 14), none, .call (.c (.func (.func 128) #[] #[])) [(.t 13)]⟩) (.tk (q 19 (.bin .neq (.t 14) (.t 18))) (.tk (q 9 (.mv (.t 19))) .nil))))))))))))
 (.cond (.t 9) (.ops [q 3 (.mv (.c (i64 4)))]) (.seq (.dops true (.tk (q 21 (.mv (.t 0))) (.tk (q 22 (.nck (.t 21))) (.tk (q 23 (.fld 7 (.t 22))) (.tk (q 24 (.ld false 1 (.t 23))) (.tk (q 25 (.mv (.t 0))) (.tk (q 26 (.nck (.t 25))) (.tk (q 27 (.fld 8 (.t 26))) (.tk (q 28 (.ld false 1 (.t 27))) (.tk (q 31 (.mv (.t 0))) (.tk (q 32 (.nck (.t 31))) (.tk (q 33 (.fld 6 (.t 32))) (.tk (q 34 (.ld false 1 (.t 33))) (.sq (⟨(some 29), none, .call (.c (.func (.func 99) #[] #[])) [(.t 24), (.t 28)]⟩) (.sq (⟨(some 30), none, .call (.c (.func (.func 70) #[] #[])) [(.t 29)]⟩) (.tk (q 35 (.bin .neq (.t 30) (.t 34))) (.tk (q 20 (.mv (.t 35))) .nil)))))))))))))))))
 (.cond (.t 20) (.ops [q 3 (.mv (.c (i64 5)))]) (.seq (.dops true (.tk (q 37 (.mv (.t 0))) (.tk (q 38 (.nck (.t 37))) (.tk (q 39 (.fld 8 (.t 38))) (.tk (q 40 (.ld false 1 (.t 39))) (.tk (q 43 (.mv (.t 0))) (.tk (q 44 (.nck (.t 43))) (.tk (q 45 (.fld 3 (.t 44))) (.tk (q 46 (.ld false 1 (.t 45))) (.sq (⟨(some 41), none, .call (.c (.func (.func 129) #[] #[])) [(.t 40)]⟩) (.sq (⟨(some 42), none, .call (.c (.func (.func 130) #[] #[])) [(.t 41)]⟩) (.tk (q 47 (.bin .gtr (.t 42) (.t 46))) (.tk (q 36 (.mv (.t 47))) .nil)))))))))))))
 (.cond (.t 36) (.ops [q 3 (.mv (.c (i64 11)))]) .skip)))))))
 (.seq (.seq (.ops [q 48 (.mv (.t 3)), q 49 (.bin .neq (.t 48) (.c (i64 0)))])
 (.cond (.t 49) (.ops [q 50 (.mv (.t 0)), ⟨(some 51), none, .call (.c (.func (.func 138) #[] #[])) [(.t 50)]⟩]) (.ops [q 52 (.mv (.t 0)), q 53 (.nck (.t 52)), q 54 (.fld 0 (.t 53)), ⟨none, none, .st 1 (.t 54) (.c (i64 3))⟩])))
 (.seq (.ops [q 55 (.mv (.t 3)), q 2 (.mv (.t 55))])
 .ret))))))
theorem w_impl_Ideal_finish {args : List Value} {h : H} {Q : Value → H → Prop} (hl : args.length ≤ 56) (hk : wpc Tryz.prog b_impl_Ideal_finish (retw [.tmp 2] Q) (argsFr args) h) : AC Tryz.prog 137 args h Q :=
  AC.of_wpc mixedOrders Tryz.func137 (by kernel_rfl) (by kernel_rfl : prepF Tryz.prog Tryz.f137 = some ⟨56, [.tmp 2], b_impl_Ideal_finish⟩) hl hk

theorem idle_step {h0 h : H} {b : Nat} {i : UIdeal} {vb vs : Value} {n : Int} (k : BoxI h0 h b i vb vs) : StepI h0 b (codeI (idleOf i) n) (i64 n) (h.set b ⟨(idleOf i).cells vb nils, 9⟩) := k.idle.step
set_option maxHeartbeats 1600000 in
theorem finish_ac {h0 h : H} (tb : Tabs h) {b : Nat} {i : UIdeal} {vb vs : Value} {st : UStep} (hs : i.small) (k : BoxI h0 h b i vb vs) (hok : idealOk i) : AC Tryz.prog 137 [ptr b 0] h fun r h' => StepI h0 b (doI i ⟨3, 0, 0, [], st⟩) r h' := by
  have h20 := idealOk_steps hok
  have hs2 := hs.2
  have hcz := code_zero (idealOk_code hok)
  have hl : (i.steps.map UStep.cells).length = i.steps.length := by simp
  unfold doI
  rw [if_neg (show ¬ ((3 : Int) = 1) by decide), if_neg (show ¬ ((3 : Int) = 2) by decide), if_pos rfl]
  have Gb := fun o n => ldc_get k.g o n
  have Sb := fun o n cs => stc_get k.g o n cs
  have Hb := k.hb
  skip
  refine w_impl_Ideal_finish (by simp) ?_
  unfold b_impl_Ideal_finish
  simp -implicitDefEqProofs only [go_sem, Gb, Sb, Hb]
  refine Br.of (fun q1 => ?_) (fun q1 => ?_)
  rotate_left
  · rw [if_pos q1]
    simp -implicitDefEqProofs only [go_sem, Gb, Sb, Hb]
    exact k.step
  rw [if_neg (fun e => e q1)]
  simp -implicitDefEqProofs only [go_sem, Gb, Sb, Hb]
  refine (sizeStep_pc k.f2.sl).use ?_
  refine ⟨Sub.refl _, ?_⟩
  have fin : finI i = if (i.steps.length : Int) ≠ i.need then 4 else if shaL (applyB i.base i.steps).flatten ≠ i.digest then 5 else if i.stash < slots (idealMv i) then 11 else 0 := rfl
  by_cases q2 : (i.steps.length : Int) = i.need
  rotate_left
  · rw [if_pos q2] at fin
    rw [if_pos (by rw [fin]; decide), fin]
    simp -implicitDefEqProofs only [go_sem, q2, Gb, Sb, Hb]
    refine AC_of (idle_ac (i := i) (vs := vs) k.g k.hb k.f1.sl.one k.f1.sl.vcl) ?_
    rintro _ h1 - rfl
    simp -implicitDefEqProofs only [go_sem, Gb, Sb, Hb]
    exact idle_step k
  rw [if_neg (fun e => e q2)] at fin
  simp -implicitDefEqProofs only [go_sem, q2, Gb, Sb, Hb]
  refine AC_of (imageApply_ac k.f1.sl k.f2.sl hok.2.1 (by omega) (fun s hs => hcz.1.2.2 s hs)) ?_
  rintro va h1 - ⟨e1, f1⟩
  refine ⟨e1.2, ?_⟩
  simp -implicitDefEqProofs only [go_sem, Gb, Sb, Hb]
  refine (imageDigest_pc (tb.ext e1) f1.sl (applyB_ok hok.2.1 (fun s hs => hcz.1.2.2 s hs))).use ?_
  refine ⟨e1.2, ?_⟩
  skip
  have k4 := k.ext e1
  have G4 := fun o n => ldc_get k4.g o n
  have S4 := fun o n cs => stc_get k4.g o n cs
  have H4 := k4.hb
  skip
  by_cases q3 : shaL (applyB i.base i.steps).flatten = i.digest
  rotate_left
  · rw [if_pos q3] at fin
    rw [if_pos (by rw [fin]; decide), fin]
    simp -implicitDefEqProofs only [go_sem, q3, G4, S4, H4]
    refine AC_of (idle_ac (i := i) (vs := vs) k4.g k4.hb k4.f1.sl.one k4.f1.sl.vcl) ?_
    rintro _ h2 - rfl
    simp -implicitDefEqProofs only [go_sem, G4, S4, H4]
    exact idle_step k4
  rw [if_neg (fun e => e q3)] at fin
  simp -implicitDefEqProofs only [go_sem, q3, G4, S4, H4]
  refine AC_of (planOf_ac k4.f2.sl hcz.1.1 (steps_dst hcz.1)) ?_
  rintro v2 h3 - ⟨e3, f3⟩
  refine ⟨e3.2, ?_⟩
  have h28 := mv_28 (idealOk_code hok)
  simp -implicitDefEqProofs only [go_sem, G4, S4, H4]
  refine (slotsOf_pc f3.sl (by show (idealMv i).length ≤ _; omega)).use ?_
  refine ⟨e3.2, ?_⟩
  skip
  have k5 := k4.ext e3
  have G5 := fun o n => ldc_get k5.g o n
  have S5 := fun o n cs => stc_get k5.g o n cs
  have H5 := k5.hb
  skip
  by_cases q4 : i.stash < slots (idealMv i)
  · rw [if_pos q4] at fin
    rw [if_pos (by rw [fin]; decide), fin]
    have q4' : i.stash < slots (planB (i.steps.filter isW)) := q4
    simp -implicitDefEqProofs only [go_sem, q4', G5, S5, H5]
    refine AC_of (idle_ac (i := i) (vs := vs) k5.g k5.hb k5.f1.sl.one k5.f1.sl.vcl) ?_
    rintro _ h4 - rfl
    simp -implicitDefEqProofs only [go_sem, G5, S5, H5]
    exact idle_step k5
  rw [if_neg q4] at fin
  rw [if_neg (fun e => e fin)]
  have q4' : ¬ i.stash < slots (planB (i.steps.filter isW)) := q4
  simp -implicitDefEqProofs only [go_sem, q4', G5, S5, H5]
  trace_state
  exact (k5.put { i with phase := 3 } rfl rfl).step
end Go.Proofs.YtdofcojbjcpikaaGreatDoor
