/- A helper of this seat's claims (contracts of the functions): what it shows is shown for every input that its statements name, on no other condition. -/
import Derived.Test.YthjbhdmjfakfaaaGreatDoorCDs
import Derived.Test.YthjbhdmjfakfaaaGreatDoorC10s
set_option linter.unusedVariables false
set_option linter.unusedSimpArgs false
set_option maxRecDepth 100000
namespace Go.Proofs.YthjbhdmjfakfaaaGreatDoor
open Go.KH

/-! ## Lists of steps drawn -/
/-- (*spec.l01Src).l06Steps -/
def b_spec_l01Src_l06Steps : C := (.seq (.ops [q 4 (.mv (.c nils))])
 (.seq (.ops [⟨(some 9), none, .bsl 0 [] []⟩, q 5 (.mv (.t 9))])
 (.seq (.ops [q 6 (.mv (.c (i64 0)))])
 (.seq (.seq (.ops [q 10 (.mv (.t 0)), q 11 (.mv (.t 1)), q 12 (.bin .add (.t 11) (.c (i64 3))), ⟨(some 13), none, .call (.c (.func (.func 43) #[] #[])) [(.t 10), (.t 12)]⟩, q 7 (.mv (.t 13))])
 (.block 0 (.loop (.seq (.seq (.ops [q 14 (.mv (.t 7)), q 15 (.bin .gtr (.t 14) (.c (i64 0)))])
 (.cond (.t 15) .skip (.exit 0)))
 (.seq (.block 1 (.seq (.ops [q 18 (.mv (.t 0)), q 19 (.mv (.t 1)), ⟨(some 20), none, .call (.c (.func (.func 183) #[] #[])) [(.t 18), (.t 19)]⟩, ⟨(some 8), none, .alloc [(i64 0), (i64 0), (i64 0), (str [])]⟩, ⟨none, none, .st 4 (.t 8) (.t 20)⟩])
 (.seq (.seq (.ops [q 21 (.mv (.t 0)), ⟨(some 22), none, .call (.c (.func (.func 48) #[] #[])) [(.t 21), (.c (i64 5))]⟩])
 (.cond (.t 22) (.seq (.ops [q 23 (.mv (.t 6)), q 24 (.bin .add (.t 23) (.c (i64 1))), q 25 (.mv (.t 0)), ⟨(some 26), none, .call (.c (.func (.func 43) #[] #[])) [(.t 25), (.c (i64 3))]⟩, q 27 (.bin .add (.t 24) (.t 26)), q 6 (.mv (.t 27))])
 (.ops [q 28 (.mv (.t 6)), q 29 (.build [(i64 0), (i64 0), (i64 0), (str [])] [(0, 1, (.c (i64 5))), (2, 1, (.t 28))]), ⟨none, none, .st 4 (.t 8) (.t 29)⟩])) .skip))
 (.seq (.dops true (.tk (q 31 (.mv (.t 5))) (.tk (q 33 (.ld true 4 (.t 8))) (.tk (q 36 (.mv (.t 1))) (.alt (⟨(some 30), none, .bsl 0 [] []⟩) (.alt (⟨(some 32), none, .app 4 40 (.t 30) (.t 31)⟩) (.sq (⟨(some 34), none, .bsl 1 [(i64 0), (i64 0), (i64 0), (str [])] [(0, 4, (.t 33))]⟩) (.lt (⟨(some 35), none, .app 4 40 (.t 32) (.t 34)⟩) (.sq (⟨(some 37), none, .call (.c (.func (.func 63) #[] #[])) [(.t 35), (.t 36)]⟩) (.tk (q 38 (.bin .eql (.t 37) (.c (i64 0)))) .nil)))) (⟨(some 34), none, .bsl 1 [(i64 0), (i64 0), (i64 0), (str [])] [(0, 4, (.t 33))]⟩) (.sq (⟨(some 32), none, .app 4 40 (.t 30) (.t 31)⟩) (.lt (⟨(some 35), none, .app 4 40 (.t 32) (.t 34)⟩) (.sq (⟨(some 37), none, .call (.c (.func (.func 63) #[] #[])) [(.t 35), (.t 36)]⟩) (.tk (q 38 (.bin .eql (.t 37) (.c (i64 0)))) .nil))))) (⟨(some 34), none, .bsl 1 [(i64 0), (i64 0), (i64 0), (str [])] [(0, 4, (.t 33))]⟩) (.sq (⟨(some 30), none, .bsl 0 [] []⟩) (.sq (⟨(some 32), none, .app 4 40 (.t 30) (.t 31)⟩) (.lt (⟨(some 35), none, .app 4 40 (.t 32) (.t 34)⟩) (.sq (⟨(some 37), none, .call (.c (.func (.func 63) #[] #[])) [(.t 35), (.t 36)]⟩) (.tk (q 38 (.bin .eql (.t 37) (.c (i64 0)))) .nil))))))))))
 (.cond (.t 38) (.ops [q 39 (.mv (.t 5)), q 40 (.ld true 4 (.t 8)), ⟨(some 41), none, .bsl 1 [(i64 0), (i64 0), (i64 0), (str [])] [(0, 4, (.t 40))]⟩, ⟨(some 42), none, .app 4 40 (.t 39) (.t 41)⟩, q 5 (.mv (.t 42))]) .skip)))))
 (.ops [q 16 (.mv (.t 7)), q 17 (.bin .sub (.t 16) (.c (i64 1))), q 7 (.mv (.t 17))]))))))
 (.seq (.ops [q 43 (.mv (.t 5)), q 4 (.mv (.t 43))])
 .ret)))))
theorem w_spec_l01Src_l06Steps {args : List Value} {h : H} {Q : Value → H → Prop} (hl : args.length ≤ 44) (hk : wpc Tryz.prog b_spec_l01Src_l06Steps (retw [.tmp 4] Q) (argsFr args) h) : AC Tryz.prog 100 args h Q :=
  AC.of_wpc mixedOrders Tryz.func100 (by kernel_rfl) (by kernel_rfl : prepF Tryz.prog Tryz.f100 = some ⟨44, [.tmp 4], b_spec_l01Src_l06Steps⟩) hl hk

set_option maxHeartbeats 1600000 in
theorem src_stepsC {h : H} {b : Nat} {v : Value} {l : List UInt8} {blocks : Int} (hs : Src v l h b) (hb : 0 ≤ blocks ∧ blocks ≤ 100) : AC Tryz.prog 100 [ptr b 0, i64 blocks] h fun r h' => (∃ L : List UStep, (∀ s ∈ L, okd s) ∧ (L.length ≤ 20 ∧ (L = [] ∨ codeOf L blocks = 0)) ∧ Own h h' r 4 (L.map UStep.cells)) ∧ Drew v l b h h' := by
  have hS : ∀ x, x = b → h.get x ≠ none := fun x e => by subst e; exact hs.known
  have hkn := hs.sl.known
  have hw3 : IntKind.i64.wrap (blocks + 3) = blocks + 3 := wrap_i64 (by omega) (by omega)
  refine w_spec_l01Src_l06Steps (by simp) ?_
  unfold b_spec_l01Src_l06Steps
  simp -implicitDefEqProofs only [go_sem]
  intro b0 hb0 n0
  simp -implicitDefEqProofs only [go_sem, hw3]
  have e0 := (Ext.refl h).set n0 ⟨[], 0⟩
  refine AC_of (src_n (hs.ext e0) (by omega)) ?_
  rintro _ h1 - ⟨⟨k, rfl, k0, k1, -⟩, d1⟩
  have hk := k1 (by omega)
  obtain ⟨k, rfl⟩ : ∃ n : Nat, k = n := ⟨k.toNat, by omega⟩
  have q0 : b0 ≠ b := fun e => by subst e; exact hs.known n0
  simp -implicitDefEqProofs only [go_sem]
  refine loopW_of (fun m f h' => ∃ (acc : List UStep) (lab : Int) (u : Value), f 0 = ptr b 0 ∧ f 1 = i64 blocks ∧ f 5 = u ∧ f 6 = i64 lab ∧ f 7 = i64 m ∧ (0 ≤ lab ∧ lab + 3 * m ≤ 1000) ∧ (∀ s ∈ acc, okd s) ∧ (acc.length ≤ 20 ∧ (acc = [] ∨ codeOf acc blocks = 0)) ∧ Own h h' u 4 (acc.map UStep.cells) ∧ Drew v l b h h') k
    ⟨[], 0, sl b0 0 0 0, by simp -implicitDefEqProofs only [go_sem], by simp -implicitDefEqProofs only [go_sem], by simp -implicitDefEqProofs only [go_sem], by simp -implicitDefEqProofs only [go_sem], by simp -implicitDefEqProofs only [go_sem], by omega, by simp, ⟨by simp, .inl rfl⟩, .inr ⟨b0, 0, 0, rfl, Nat.le_refl _, by rw [d1.1.1, H.set_base]; exact hb0, n0, d1.1.2.1 b0 _ q0 (H.set_get_same _ _ _), by simp, Wid.nil 4⟩, (Drew.of_ext hs e0).trans d1⟩ ?_
  clear d1 hk k1 k0
  rintro m f h' ⟨acc, lab, u, f0, f1, f5, f6, f7, hlab, hok, ⟨hlen, hcode⟩, ho, D⟩
  obtain ⟨au, cu, rfl⟩ := ho.shape
  rw [List.length_map] at ho f5
  skip
  by_cases hm : 0 < m
  rotate_left
  · have : m = 0 := by omega
    subst this
    simp -implicitDefEqProofs only [go_sem, f0, f1, f5, f6, f7, show ¬ (0 : Int) < ((0 : Nat) : Int) by decide, f0, f1, f5, f6, f7]
    exact ⟨⟨acc, hok, ⟨hlen, hcode⟩, ho⟩, D⟩
  simp -implicitDefEqProofs only [go_sem, f0, f1, f5, f6, f7, show (0 : Int) < (m : Int) by omega, f0, f1, f5, f6, f7]
  refine AC_of (src_step D.2 (by unfold in64; omega)) ?_
  rintro _ h2 - ⟨⟨x, hx, rfl⟩, d2⟩
  have D2 := D.trans d2
  simp -implicitDefEqProofs only [go_sem, f0, f1, f5, f6, f7]
  intro b8 hb8 n8
  simp -implicitDefEqProofs only [go_sem, hb8, f0, f1, f5, f6, f7]
  have e8 := (Ext.refl h2).set n8 ⟨x.cells, 4⟩
  have D3 := D2.ext e8
  have q8 : b8 ≠ b := fun e => by subst e; exact D2.2.known n8
  have n8h := D2.1.nones b8 n8
  have hne := own_ne (ho.keepS d2.1 hS) n8
  have o2 := (ho.keepS d2.1 hS).ext e8
  refine AC_of (src_one D3.2 (by omega)) ?_
  rintro _ h3 - ⟨⟨t, rfl⟩, d3⟩
  have D4 := D3.trans d3
  have o3 := o2.keepS d3.1 hS
  have g3 := d3.1.2.1 b8 _ q8 (H.set_get_same _ _ _)
  have hb3 : h3.base ≤ b8 := by rw [d3.1.1, H.set_base]; exact hb8
  refine wpc_cutT (fun f' h4 => ∃ (y : UStep) (lab' : Int), f' 0 = ptr b 0 ∧ f' 1 = i64 blocks ∧ f' 5 = .slice au acc.length cu ∧ f' 6 = i64 lab' ∧ f' 7 = i64 m ∧ f' 8 = ptr b8 0 ∧ okd y ∧ (0 ≤ lab' ∧ lab' + 3 * (m - 1 : Nat) ≤ 1000) ∧ h4.get b8 = some ⟨y.cells, 4⟩ ∧ h4.base ≤ b8 ∧ Own h h4 (.slice au acc.length cu) 4 (acc.map UStep.cells) ∧ Drew v l b h h4) ?_ ?_
  · cases t
    · simp -implicitDefEqProofs only [go_sem, f0, f1, f5, f6, f7]
      exact ⟨x, lab, rfl, hx, by omega, g3, hb3, o3, D4⟩
    · simp -implicitDefEqProofs only [go_sem, wrap_i64 (show -(9223372036854775808 : Int) ≤ (lab + 1) by omega) (show (lab + 1) < 9223372036854775808 by omega), f0, f1, f5, f6, f7]
      refine AC_of (src_n D4.2 (by omega)) ?_
      rintro _ h4 - ⟨⟨q, rfl, q0', q1, -⟩, d4⟩
      have hq := q1 (by omega)
      have g4 := d4.1.2.1 b8 _ q8 g3
      have hb4 : h4.base ≤ b8 := by rw [d4.1.1]; exact hb3
      simp -implicitDefEqProofs only [go_sem, stc_get g4, hb4, wrap_i64 (show -(9223372036854775808 : Int) ≤ (lab + 1 + q) by omega) (show (lab + 1 + q) < 9223372036854775808 by omega), f0, f1, f5, f6, f7]
      exact ⟨⟨5, 0, lab + 1 + q, []⟩, lab + 1 + q, rfl, okd_of (by unfold in64; omega) (by unfold in64; omega) (by unfold in64; omega) (by simp), by omega, rfl, own_setNe (o3.keepS d4.1 hS) hne _, Drew.set (D4.trans d4) n8h hs _⟩
  clear g3 hb3 o3 D4 o2 D3 e8 f0 f1 f5 f6 f7
  skip
  rintro f4 h4 ⟨y, lab', f0, f1, f5, f6, f7, f8, hy, hlab', g8, hb8', o4, D4⟩
  have hcl : (acc.map UStep.cells).length = acc.length := by simp
  have wac : Wid 4 (acc.map UStep.cells) := Wid.map fun _ => rfl
  have w1c : (acc.map UStep.cells).flatten.all Value.oneCell' = true := steps_one acc
  have sac : Sl h4 (.slice au acc.length cu) 4 (acc.map UStep.cells) := o4.sl
  refine wpc_cut (fun f' h5 => ∃ t : Bool, f' 0 = ptr b 0 ∧ f' 1 = i64 blocks ∧ f' 5 = .slice au acc.length cu ∧ f' 6 = i64 lab' ∧ f' 7 = i64 m ∧ f' 8 = ptr b8 0 ∧ f' 38 = .bool t ∧ Ext h4 h5 ∧ (t = true → acc.length ≤ 19 ∧ codeOf (acc ++ [y]) blocks = 0)) ?_ ?_
  · have hfin : ∀ {c : Int}, c = codeOf (acc ++ [y]) blocks → decide (c = 0) = true → acc.length ≤ 19 ∧ codeOf (acc ++ [y]) blocks = 0 := fun e ht => by
      subst e
      have := (code_zero (of_decide_eq_true ht)).1.1
      exact ⟨by simp at this; omega, of_decide_eq_true ht⟩
    skip
    simp -implicitDefEqProofs only [go_sem, ldc_get g8, f0, f1, f5, f6, f7, f0, f1, f5, f6, f7, f8]
    refine ⟨?_, ?_⟩
    · intro b30 hb30 n30
      refine ⟨Sub.set (Sub.refl _) n30 _, ?_⟩
      have hsrc := src0 n30 sac wac (by decide)
      have e30 := (Ext.refl h4).set n30 ⟨[], 0⟩
      simp -implicitDefEqProofs only [go_sem, hsrc, f0, f1, f5, f6, f7, f0, f1, f5, f6, f7, f8]
      refine ⟨?_, ?_⟩
      · refine app0 hb30 n30 rfl wac w1c (by rw [hcl]; omega) ?_
        intro v32 hA eA oA
        obtain ⟨a32, c32, rfl⟩ := oA.shape
        refine ⟨eA.2, ?_⟩
        simp -implicitDefEqProofs only [go_sem, f0, f1, f5, f6, f7, f0, f1, f5, f6, f7, f8]
        intro b34 hb34 n34
        refine ⟨(eA.set n34 _).2, ?_⟩
        simp -implicitDefEqProofs only [go_sem, f0, f1, f5, f6, f7, f0, f1, f5, f6, f7, f8]
        refine appW_own (h0 := h4) (rows := acc.map UStep.cells) (new := [y.cells]) (eA.set n34 _) (oA.ext ((Ext.refl _).set n34 _)) (by simp -implicitDefEqProofs only [go_sem, f0, f1, f5, f6, f7, f0, f1, f5, f6, f7, f8]; rfl) (by intro r hr; simp at hr; subst hr; rfl) rfl (by rw [hcl]; simp; omega) ?_
        intro v35 hB eB oB _
        obtain ⟨a35, c35, rfl⟩ := oB.shape
        have sB : Sl hB (.slice a35 (acc.map UStep.cells ++ [y.cells]).length c35) 4 ((acc ++ [y]).map UStep.cells) := by simpa using oB.sl
        simp -implicitDefEqProofs only [go_sem, f0, f1, f5, f6, f7, f0, f1, f5, f6, f7, f8]
        refine (specStepsCode_pc (l := acc ++ [y]) sB (by simp; omega)).use ?_
        simp -implicitDefEqProofs only [go_sem, f0, f1, f5, f6, f7, f0, f1, f5, f6, f7, f8]
        exact ⟨_, rfl, eB, fun ht => hfin rfl ht⟩
      · intro b34 hb34 n34
        have e34 := e30.set n34 ⟨y.cells, 4⟩
        refine ⟨e34.2, ?_⟩
        have hsrc2 := (sac.ext e34).src wac (by decide)
        simp only [hcl] at hsrc2
        simp -implicitDefEqProofs only [go_sem, hsrc2, f0, f1, f5, f6, f7, f0, f1, f5, f6, f7, f8]
        have z3430 : b30 ≠ b34 := fun e => by rw [← e, H.set_get_same] at n34; cases n34
        refine appW_own (h0 := h4) (rows := []) (new := acc.map UStep.cells) e34 (.inr ⟨b30, 0, 0, rfl, Nat.le_refl _, by simp only [H.set_base]; exact hb30, n30, by rw [H.set_get_ne _ _ _ _ z3430]; exact H.set_get_same _ _ _, by simp, Wid.nil 4⟩) (by rw [hcl]) wac w1c (by rw [hcl]; simp; omega) ?_
        intro v32 hA eA oA hoth
        obtain ⟨a32, c32, rfl⟩ := oA.shape
        refine ⟨eA.2, ?_⟩
        have g34 := hoth b34 _ (H.set_get_same _ _ _) (by intro c' k' m' e; simp only [sl, Value.slice.injEq, Option.some.injEq, Addr.mk.injEq] at e; rw [← e.1.1]; exact z3430.symm)
        simp -implicitDefEqProofs only [go_sem, ldc_get g34, f0, f1, f5, f6, f7, f0, f1, f5, f6, f7, f8]
        refine appW_own (h0 := h4) (rows := acc.map UStep.cells) (new := [y.cells]) eA (by simpa using oA) (by simp -implicitDefEqProofs only [go_sem, f0, f1, f5, f6, f7, f0, f1, f5, f6, f7, f8]; rfl) (by intro r hr; simp at hr; subst hr; rfl) rfl (by rw [hcl]; simp; omega) ?_
        intro v35 hB eB oB _
        obtain ⟨a35, c35, rfl⟩ := oB.shape
        have sB : Sl hB (.slice a35 (acc.map UStep.cells ++ [y.cells]).length c35) 4 ((acc ++ [y]).map UStep.cells) := by simpa using oB.sl
        simp -implicitDefEqProofs only [go_sem, f0, f1, f5, f6, f7, f0, f1, f5, f6, f7, f8]
        refine (specStepsCode_pc (l := acc ++ [y]) sB (by simp; omega)).use ?_
        simp -implicitDefEqProofs only [go_sem, f0, f1, f5, f6, f7, f0, f1, f5, f6, f7, f8]
        exact ⟨_, rfl, eB, fun ht => hfin rfl ht⟩
    · intro b34 hb34 n34
      have e34 := (Ext.refl h4).set n34 ⟨y.cells, 4⟩
      refine ⟨e34.2, ?_⟩
      simp -implicitDefEqProofs only [go_sem, f0, f1, f5, f6, f7, f0, f1, f5, f6, f7, f8]
      intro b30 hb30 n30
      have e30 := e34.set n30 ⟨[], 0⟩
      refine ⟨e30.2, ?_⟩
      have hsrc := src0 n30 (sac.ext e34) wac (by decide)
      simp only [hcl] at hsrc
      simp -implicitDefEqProofs only [go_sem, hsrc, f0, f1, f5, f6, f7, f0, f1, f5, f6, f7, f8]
      · refine app0 hb30 n30 (by rw [hcl]) wac w1c (by rw [hcl]; omega) ?_
        intro v32 hA eA oA
        obtain ⟨a32, c32, rfl⟩ := oA.shape
        have eA4 := e34.trans eA
        refine ⟨eA4.2, ?_⟩
        have g34 := eA.2.g b34 _ (H.set_get_same _ _ _)
        simp -implicitDefEqProofs only [go_sem, ldc_get g34, f0, f1, f5, f6, f7, f0, f1, f5, f6, f7, f8]
        refine appW_own (h0 := h4) (rows := acc.map UStep.cells) (new := [y.cells]) eA4 (oA.back e34) (by simp -implicitDefEqProofs only [go_sem, f0, f1, f5, f6, f7, f0, f1, f5, f6, f7, f8]; rfl) (by intro r hr; simp at hr; subst hr; rfl) rfl (by rw [hcl]; simp; omega) ?_
        intro v35 hB eB oB _
        obtain ⟨a35, c35, rfl⟩ := oB.shape
        have sB : Sl hB (.slice a35 (acc.map UStep.cells ++ [y.cells]).length c35) 4 ((acc ++ [y]).map UStep.cells) := by simpa using oB.sl
        simp -implicitDefEqProofs only [go_sem, f0, f1, f5, f6, f7, f0, f1, f5, f6, f7, f8]
        refine (specStepsCode_pc (l := acc ++ [y]) sB (by simp; omega)).use ?_
        simp -implicitDefEqProofs only [go_sem, f0, f1, f5, f6, f7, f0, f1, f5, f6, f7, f8]
        exact ⟨_, rfl, eB, fun ht => hfin rfl ht⟩
  clear f0 f1 f5 f6 f7 f8
  rintro f5' h5 ⟨t, f0, f1, f5, f6, f7, f8, f38, e5, ht⟩
  have hm1 : IntKind.i64.wrap ((m : Int) - 1) = ((m - 1 : Nat) : Int) := by rw [wrap_i64 (by omega) (by omega)]; omega
  have D5 := D4.ext e5
  have o5 := o4.ext e5
  cases t
  · simp -implicitDefEqProofs only [go_sem, f0, f1, f5, f6, f7, f8, f38, hm1, f0, f1, f5, f6, f7, f0, f1, f5, f6, f7, f8]
    exact ⟨m - 1, by omega, _, Ext.refl _, acc, lab', _, rfl, rfl, rfl, hlab', hok, ⟨hlen, hcode⟩, o5, D5⟩
  · have g5 := e5.2.g b8 _ g8
    simp -implicitDefEqProofs only [go_sem, f0, f1, f5, f6, f7, f8, f38, ldc_get g5, f0, f1, f5, f6, f7, f0, f1, f5, f6, f7, f8]
    intro bx hbx nx
    have D6 := D5.ext ((Ext.refl h5).set nx ⟨y.cells, 4⟩)
    simp -implicitDefEqProofs only [go_sem, f0, f1, f5, f6, f7, f8, f38, f0, f1, f5, f6, f7, f0, f1, f5, f6, f7, f8]
    refine appW_keep (h0 := h) (rows := acc.map UStep.cells) (new := [y.cells]) (fun c hc => D6.1.nones c hc) (o5.ext ((Ext.refl _).set nx _)) (by simp -implicitDefEqProofs only [go_sem, f0, f1, f5, f6, f7, f0, f1, f5, f6, f7, f8]; rfl) (by intro r hr; simp at hr; subst hr; rfl) rfl (by simp; omega) ?_
    intro v' h6 k6 o6
    simp -implicitDefEqProofs only [go_sem, f0, f1, f5, f6, f7, f8, f38, hm1, f0, f1, f5, f6, f7, f0, f1, f5, f6, f7, f8]
    exact ⟨m - 1, by omega, _, Ext.refl _, acc ++ [y], lab', _, rfl, rfl, rfl, hlab', fun s hs => by
      rcases List.mem_append.1 hs with h | h
      · exact hok s h
      · simp only [List.mem_singleton] at h; subst h; exact hy, ⟨by simp; have := (ht rfl).1; omega, .inr (ht rfl).2⟩, by simpa using o6, ⟨Keep.own D6.1 k6, Src.keepM D6.2 k6 hs.known hkn⟩⟩
theorem src_steps {h : H} {b : Nat} {v : Value} {l : List UInt8} {blocks : Int} (hs : Src v l h b) (hb : 0 ≤ blocks ∧ blocks ≤ 100) : AC Tryz.prog 100 [ptr b 0, i64 blocks] h fun r h' => (∃ L : List UStep, (∀ s ∈ L, okd s) ∧ L.length ≤ 20 ∧ Own h h' r 4 (L.map UStep.cells)) ∧ Drew v l b h h' :=
  AC_of (src_stepsC hs hb) fun r h' _ ⟨⟨L, a, b, c⟩, d⟩ => ⟨⟨L, a, b.1, c⟩, d⟩
end Go.Proofs.YthjbhdmjfakfaaaGreatDoor
