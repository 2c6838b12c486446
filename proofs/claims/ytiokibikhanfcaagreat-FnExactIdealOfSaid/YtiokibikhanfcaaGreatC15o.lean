/- A helper of this seat's claims (contracts of the functions): what it shows is shown for every input that its statements name, on no other condition. -/
import Derived.Test.YtiokibikhanfcaaGreatC14z
import Derived.Test.YtiokibikhanfcaaGreatC15h
import Derived.Test.YtiokibikhanfcaaGreatC05
set_option linter.unusedVariables false
set_option linter.unusedSimpArgs false
set_option maxRecDepth 100000
namespace Go.Proofs.YtiokibikhanfcaaGreat
open Go.KH

/-! ## The ideal of a machine -/
noncomputable def idealM (m : UMach) (s : UState) : UIdeal := ⟨s.phase, s.tries, s.need, s.stash, s.held.length, if s.phase = 5 then (movesM m s).length - s.done else 0, s.digest, if s.phase = 5 then viewM m s else baseOf m, logOf m s⟩
noncomputable def idealMOut (m : UMach) : UIdealOut := match stM m with | some s => (if rightOut m = true then ⟨idealM m s, [], [], 0⟩ else illOut 1) | none => illOut 1
abbrev idCells (m : UMach) (s : UState) (vb vl : Value) : List Value := [i64 s.phase, i64 s.tries, i64 s.need, i64 s.stash, i64 s.held.length, i64 0, str s.digest, vb, vl]
def IdBox (m : UMach) (s : UState) (hS h2 : H) (b5 : Nat) : Prop := ∃ vb vl, h2.get b5 = some ⟨idCells m s vb vl, 9⟩ ∧ (∀ x, Fre hS (h2.set b5 x) vb 1 (strs (baseOf m))) ∧ (∀ x, Fre hS (h2.set b5 x) vl 4 ((logOf m s).map UStep.cells)) ∧ Dj vb vl ∧ Known h2 vl ∧ blk vl ≠ some b5 ∧ hS.get b5 = none ∧ h2.base ≤ b5 ∧ Ext hS h2
theorem set_id2 {h : H} {b : Nat} (x y : Ob) : (h.set b x).set b y = h.set b y := by rw [H.set_set]
theorem idealMOut_small (m : UMach) : (idealMOut m).ideal.base.length ≤ 8 ∧ (idealMOut m).ideal.steps.length ≤ 20 ∧ (idealMOut m).reply = [] := by
  unfold idealMOut
  split
  · split
    · rename_i s hs h
      obtain ⟨s', hs', hf, hok, _⟩ := right_of h
      rw [hs] at hs'
      cases hs'
      have hb := (baseOf_len hf).1
      refine ⟨?_, logOf_len m hok, rfl⟩
      simp only [idealM]
      split
      · rw [viewM_len]; exact hb
      · exact hb
    · simp [illOut, ideal0]
  · simp [illOut, ideal0]
/-- impl.idealOf -/
def b_impl_idealOf : C := (.seq (.ops [⟨(some 1), none, .box (.t 0)⟩, ⟨(some 2), none, .alloc [(i64 0), (i64 0), (i64 0), (i64 0), (i64 0), (i64 0), (str []), nils, nils]⟩])
 (.seq (.ops [q 7 (.ld true 3 (.t 1)), ⟨(some 8), none, .call (.c (.func (.func 44) #[] #[])) [(.t 7)]⟩, q 6 (.mv (.t 8)), q 9 (.ext 0 (.t 6)), q 10 (.ext 1 (.t 6)), ⟨(some 3), none, .alloc [(i64 0), (i64 0), (i64 0), (i64 0), (i64 0), (str []), nils, nils]⟩, ⟨none, none, .st 8 (.t 3) (.t 9)⟩, q 4 (.mv (.t 10))])
 (.seq (.dopx (.tk (q 11 (.fld 0 (.t 3))) (.tk (q 12 (.ld false 1 (.t 11))) (.tk (q 13 (.fld 1 (.t 3))) (.tk (q 14 (.ld false 1 (.t 13))) (.tk (q 15 (.fld 2 (.t 3))) (.tk (q 16 (.ld false 1 (.t 15))) (.tk (q 17 (.fld 3 (.t 3))) (.tk (q 18 (.ld false 1 (.t 17))) (.tk (q 19 (.fld 6 (.t 3))) (.tk (q 20 (.ld false 1 (.t 19))) (.tk (q 22 (.fld 5 (.t 3))) (.tk (q 23 (.ld false 1 (.t 22))) (.tk (q 24 (.ld true 3 (.t 1))) (.tk (q 26 (.ld true 3 (.t 1))) (.tk (q 27 (.ld true 8 (.t 3))) (.alt (⟨(some 21), none, .call (.c (.func (.func 135) #[] #[])) [(.t 20)]⟩) (.alt (⟨(some 25), none, .call (.c (.func (.func 53) #[] #[])) [(.t 24)]⟩) (.alt (⟨(some 28), none, .call (.c (.func (.func 88) #[] #[])) [(.t 26), (.t 27)]⟩) (.tk (q 29 (.build [(i64 0), (i64 0), (i64 0), (i64 0), (i64 0), (i64 0), (str []), nils, nils] [(0, 1, (.t 12)), (1, 1, (.t 14)), (2, 1, (.t 16)), (3, 1, (.t 18)), (4, 1, (.t 21)), (6, 1, (.t 23)), (7, 1, (.t 25)), (8, 1, (.t 28))])) (.sq (⟨(some 5), none, .alloc [(i64 0), (i64 0), (i64 0), (i64 0), (i64 0), (i64 0), (str []), nils, nils]⟩) (.lt (⟨none, none, .st 9 (.t 5) (.t 29)⟩) .nil))) (⟨(some 5), none, .alloc [(i64 0), (i64 0), (i64 0), (i64 0), (i64 0), (i64 0), (str []), nils, nils]⟩) (.sq (⟨(some 28), none, .call (.c (.func (.func 88) #[] #[])) [(.t 26), (.t 27)]⟩) (.tk (q 29 (.build [(i64 0), (i64 0), (i64 0), (i64 0), (i64 0), (i64 0), (str []), nils, nils] [(0, 1, (.t 12)), (1, 1, (.t 14)), (2, 1, (.t 16)), (3, 1, (.t 18)), (4, 1, (.t 21)), (6, 1, (.t 23)), (7, 1, (.t 25)), (8, 1, (.t 28))])) (.lt (⟨none, none, .st 9 (.t 5) (.t 29)⟩) .nil)))) (⟨(some 5), none, .alloc [(i64 0), (i64 0), (i64 0), (i64 0), (i64 0), (i64 0), (str []), nils, nils]⟩) (.sq (⟨(some 25), none, .call (.c (.func (.func 53) #[] #[])) [(.t 24)]⟩) (.sq (⟨(some 28), none, .call (.c (.func (.func 88) #[] #[])) [(.t 26), (.t 27)]⟩) (.tk (q 29 (.build [(i64 0), (i64 0), (i64 0), (i64 0), (i64 0), (i64 0), (str []), nils, nils] [(0, 1, (.t 12)), (1, 1, (.t 14)), (2, 1, (.t 16)), (3, 1, (.t 18)), (4, 1, (.t 21)), (6, 1, (.t 23)), (7, 1, (.t 25)), (8, 1, (.t 28))])) (.lt (⟨none, none, .st 9 (.t 5) (.t 29)⟩) .nil))))) (⟨(some 5), none, .alloc [(i64 0), (i64 0), (i64 0), (i64 0), (i64 0), (i64 0), (str []), nils, nils]⟩) (.sq (⟨(some 21), none, .call (.c (.func (.func 135) #[] #[])) [(.t 20)]⟩) (.sq (⟨(some 25), none, .call (.c (.func (.func 53) #[] #[])) [(.t 24)]⟩) (.sq (⟨(some 28), none, .call (.c (.func (.func 88) #[] #[])) [(.t 26), (.t 27)]⟩) (.tk (q 29 (.build [(i64 0), (i64 0), (i64 0), (i64 0), (i64 0), (i64 0), (str []), nils, nils] [(0, 1, (.t 12)), (1, 1, (.t 14)), (2, 1, (.t 16)), (3, 1, (.t 18)), (4, 1, (.t 21)), (6, 1, (.t 23)), (7, 1, (.t 25)), (8, 1, (.t 28))])) (.lt (⟨none, none, .st 9 (.t 5) (.t 29)⟩) .nil))))))))))))))))))))))
 (.seq (.seq (.ops [q 30 (.fld 0 (.t 3)), q 31 (.ld false 1 (.t 30)), q 32 (.bin .eql (.t 31) (.c (i64 5)))])
 (.cond (.t 32) (.dopx (.tk (q 33 (.ld true 3 (.t 1))) (.tk (q 35 (.ld true 3 (.t 1))) (.tk (q 36 (.ld true 8 (.t 3))) (.tk (q 39 (.fld 4 (.t 3))) (.tk (q 40 (.ld false 1 (.t 39))) (.sq (⟨(some 34), none, .call (.c (.func (.func 66) #[] #[])) [(.t 33)]⟩) (.tk (q 42 (.fld 7 (.t 5))) (.sq (⟨(some 37), none, .call (.c (.func (.func 45) #[] #[])) [(.t 35), (.t 36)]⟩) (.sq (⟨(some 38), none, .call (.c (.func (.func 98) #[] #[])) [(.t 37)]⟩) (.tk (q 41 (.bin .sub (.t 38) (.t 40))) (.sq (⟨none, none, .st 1 (.t 42) (.t 34)⟩) (.tk (q 43 (.fld 5 (.t 5))) (.lt (⟨none, none, .st 1 (.t 43) (.t 41)⟩) .nil)))))))))))))) .skip))
 (.seq (.ops [q 44 (.ld true 9 (.t 5)), ⟨none, none, .st 9 (.t 2) (.t 44)⟩])
 .ret)))))
theorem w_impl_idealOf {args : List Value} {h : H} {Q : Value → H → Prop} (hl : args.length ≤ 45) (hk : wpc Tryz.prog b_impl_idealOf (retw [.cell 2 true 9] Q) (argsFr args) h) : AC Tryz.prog 69 args h Q :=
  AC.of_wpcx mixedOrders Tryz.func69 (by kernel_rfl) (by kernel_rfl : prepFx Tryz.prog Tryz.f69 = some ⟨45, [.cell 2 true 9], b_impl_idealOf⟩) hl hk

set_option maxHeartbeats 3200000 in
theorem idealOf_ac {h : H} {cs : List Value} {m : UMach} {s : UState} (hv : RepR h (spMach m) cs) (hs : m.flash.fin1) (hst : stM m = some s) (hi : imageOk (baseOf m)) (hsd : soundM m s) : AC Tryz.prog 69 [.agg cs.toArray] h fun r h' => Ext h h' ∧ ∃ cs', r = .agg cs'.toArray ∧ RepF h h' (spIdeal (idealM m s)) cs' := by
  have hv0 := hv
  obtain ⟨hf, hok⟩ := stM_ok hst
  have h20 := logOf_len m hok
  have hbl := baseOf_len hf
  obtain ⟨vs, vd, rfl, fr⟩ := mach_r.1 hv
  have o4 := fr.1.one
  have o5 := fr.2.one
  have c4 : vcl vs = [vs] := fr.1.vcl
  have c5 : vcl vd = [vd] := fr.2.vcl
  skip
  refine w_impl_idealOf (by simp) ?_
  unfold b_impl_idealOf
  refine wpc_cut2 (fun f1 h1 => ∃ b1 b2 b3 c3, f1 1 = ptr b1 0 ∧ f1 2 = ptr b2 0 ∧ f1 3 = ptr b3 0 ∧ h1.get b1 = some ⟨[i64 m.blocks, vs, vd], 3⟩ ∧ h1.get b2 = some ⟨[i64 0, i64 0, i64 0, i64 0, i64 0, i64 0, str [], nils, nils], 9⟩ ∧ h1.get b3 = some ⟨c3, 8⟩ ∧ StR h1 c3 s ∧ h1.base ≤ b2 ∧ h.get b2 = none ∧ Ext h h1) ?_ ?_
  · simp -implicitDefEqProofs only [go_sem, o4, o5, c4, c5]
    intro b1 hb_b1 n_b1
    simp -implicitDefEqProofs only [go_sem, o4, o5, c4, c5, hb_b1]
    intro b2 hb_b2 m0_b2
    obtain ⟨z_b2_b1, y_b2_b1, n_b2⟩ := fne m0_b2
    simp only [H.set_base] at hb_b2
    simp -implicitDefEqProofs only [go_sem, o4, o5, c4, c5, hb_b1, hb_b2, z_b2_b1, y_b2_b1]
    refine AC_of (stateOf_ac (hv0.ext (((Ext.refl _).set' n_b1 _).set' n_b2 _)) hs) ?_
    rintro _ h2 - ⟨e2, cs2, rfl, F2⟩
    have l2 := F2.r.len
    have t2 := take_len l2
    have o2 := F2.r.one
    have g1 := e2.2.g b1 _ (by simp -implicitDefEqProofs only [go_sem, o4, o5, c4, c5, hb_b1, hb_b2, z_b2_b1, y_b2_b1]; rfl)
    have g2 := e2.2.g b2 _ (by simp -implicitDefEqProofs only [go_sem, o4, o5, c4, c5, hb_b1, hb_b2, z_b2_b1, y_b2_b1]; rfl)
    have n2 := n_b2
    have hbb : h2.base ≤ b2 := by rw [e2.1]; simp only [H.set_base]; exact hb_b2
    have E2 := ((((Ext.refl _).set' n_b1 _).set' n_b2 _)).trans e2
    skip
    simp -implicitDefEqProofs only [go_sem, l2, t2, o2, o4, o5, c4, c5]
    intro b3 hb3 n3
    have e3 := (Ext.refl h2).set n3 ⟨cs2, 8⟩
    rw [hst] at F2
    simp only [Option.getD_some] at F2
    have z13 : b1 ≠ b3 := fun e => by rw [← e, g1] at n3; cases n3
    have z23 : b2 ≠ b3 := fun e => by rw [← e, g2] at n3; cases n3
    simp -implicitDefEqProofs only [go_sem, l2, t2, o2, hb3, o4, o5, c4, c5]
    exact ⟨b1, b2, b3, cs2, rfl, rfl, rfl, by rw [if_neg z13]; exact g1, by rw [if_neg z23]; exact g2, by rw [if_pos rfl], F2.r.ext e3, hbb, n2, E2.trans e3⟩
  rintro f1 hS ⟨b1, b2, b3, c3, q1, q2, q3, g1, g2, g3, SR, hb2, n2, E1⟩
  have hst0 := SR
  obtain ⟨uh, um, rfl, sh, sm⟩ := SR
  have o6 := sh.vcl
  have o7 := sm.vcl
  have o8 := sh.one
  have o9 := sm.one
  have hvS := hv0.ext E1
  skip
  refine wpc_cut (fun f2 h2 => ∃ b5, f2 1 = ptr b1 0 ∧ f2 2 = ptr b2 0 ∧ f2 3 = ptr b3 0 ∧ f2 5 = ptr b5 0 ∧ IdBox m s hS h2 b5) ?_ ?_
  · simp -implicitDefEqProofs only [go_sem, o4, o5, c4, c5, o6, o7, o8, o9]
    refine dopX_of hS (Sub.refl _) ?_
    simp -implicitDefEqProofs only [go_sem, q1, q2, q3, ldc_get g1, ldc_get g3, o4, o5, c4, c5, o6, o7, o8, o9]
    refine ⟨?_, ?_⟩
    · refine (sizeInts_pc sh).use ?_
      simp -implicitDefEqProofs only [go_sem, Sub.refl, o4, o5, c4, c5, o6, o7, o8, o9]
      refine ⟨?_, ?_⟩
      · refine AC_of (base_ac hvS hf) ?_
        rintro vb h5 - ⟨e5, ow⟩
        refine ⟨e5.2, ?_⟩
        simp -implicitDefEqProofs only [go_sem, ow.sl.vcl, o4, o5, c4, c5, o6, o7, o8, o9]
        refine ⟨?_, ?_⟩
        · refine AC_of (log_ac (hvS.ext e5) hf (hst0.ext e5) hok) ?_
          rintro vl h6 - ⟨e6, f6⟩
          refine ⟨(e5.trans e6).2, ?_⟩
          have v1 := ow.sl.vcl
          have v2 := f6.sl.vcl
          have w1 := ow.sl.one
          have w2 := f6.sl.one
          simp -implicitDefEqProofs only [go_sem, v1, v2, o4, o5, c4, c5, o6, o7, o8, o9]
          intro b5 hb5 n5
          refine ⟨((e5.trans e6).set n5 _).2, ?_⟩
          simp -implicitDefEqProofs only [go_sem, hb5, w1, w2, v1, v2, q1, q2, q3, o4, o5, c4, c5, o6, o7, o8, o9]
          exact ⟨b5, rfl, vb, vl, by rw [H.set_get_same], fun x => by rw [set_id2]; exact ((ow.ext e6).ext ((Ext.refl _).set n5 _)).fre, fun x => by rw [set_id2]; exact (f6.ext ((Ext.refl _).set n5 _)).back e5, Dj.of ow.fre.known f6.new, (f6.ext ((Ext.refl _).set n5 _)).known, (fun hb => f6.known b5 hb n5), (e5.trans e6).none n5, hb5, (e5.trans e6).set n5 _⟩
        · intro b5 hb5 n5
          have e5b := (Ext.refl h5).set n5 ⟨[i64 0, i64 0, i64 0, i64 0, i64 0, i64 0, str [], nils, nils], 9⟩
          have z := e5.trans e5b
          refine ⟨z.2, ?_⟩
          simp -implicitDefEqProofs only [go_sem, o4, o5, c4, c5, o6, o7, o8, o9]
          refine AC_of (log_ac (hvS.ext z) hf (hst0.ext z) hok) ?_
          rintro vl h6 - ⟨e6, f6⟩
          refine ⟨(z.trans e6).2, ?_⟩
          have g5 := e6.2.g b5 _ (H.set_get_same _ _ _)
          have hb5' : h6.base ≤ b5 := by rw [e6.1, H.set_base]; exact hb5
          have v1 := ow.sl.vcl
          have v2 := f6.sl.vcl
          have w1 := ow.sl.one
          have w2 := f6.sl.one
          have nob : ob vb ≠ some b5 := fun hb => by obtain ⟨_, _, y, hg⟩ := ow.ob_new hb; rw [n5] at hg; cases hg
          simp -implicitDefEqProofs only [go_sem, v1, v2, w1, w2, hb5', stc_get g5, q1, q2, q3, o4, o5, c4, c5, o6, o7, o8, o9]
          exact ⟨b5, rfl, vb, vl, by rw [H.set_get_same], fun x => by rw [set_id2]; exact (((ow.ext e5b).ext e6).setOb nob _).fre, fun x => by rw [set_id2]; exact (f6.set (H.set_get_same _ _ _) _).back z, Dj.of (ow.ext e5b).fre.known f6.new, (f6.set (H.set_get_same _ _ _) _).known, (fun hb => by have := f6.new b5 hb; rw [H.set_get_same] at this; cases this), e5.none n5, hb5', (z.trans e6).set' (e5.none n5) _⟩
      · intro b5 hb5 n5
        have z := (Ext.refl hS).set n5 ⟨[i64 0, i64 0, i64 0, i64 0, i64 0, i64 0, str [], nils, nils], 9⟩
        refine ⟨z.2, ?_⟩
        simp -implicitDefEqProofs only [go_sem, o4, o5, c4, c5, o6, o7, o8, o9]
        refine AC_of (base_ac (hvS.ext z) hf) ?_
        rintro vb h5 - ⟨e5, ow⟩
        refine ⟨(z.trans e5).2, ?_⟩
        simp -implicitDefEqProofs only [go_sem, ow.sl.vcl, o4, o5, c4, c5, o6, o7, o8, o9]
        refine AC_of (log_ac (hvS.ext (z.trans e5)) hf (hst0.ext (z.trans e5)) hok) ?_
        rintro vl h6 - ⟨e6, f6⟩
        refine ⟨((z.trans e5).trans e6).2, ?_⟩
        have g50 := e5.2.g b5 _ (H.set_get_same _ _ _)
        have g5 := e6.2.g b5 _ g50
        have hb5' : h6.base ≤ b5 := by rw [e6.1, e5.1, H.set_base]; exact hb5
        have v1 := ow.sl.vcl
        have v2 := f6.sl.vcl
        have w1 := ow.sl.one
        have w2 := f6.sl.one
        simp -implicitDefEqProofs only [go_sem, v1, v2, w1, w2, hb5', stc_get g5, q1, q2, q3, o4, o5, c4, c5, o6, o7, o8, o9]
        exact ⟨b5, rfl, vb, vl, by rw [H.set_get_same], fun x => by rw [set_id2]; exact (((ow.ext e6).set0 (by rw [H.set_get_same]; simp) _).back z).fre, fun x => by rw [set_id2]; exact (f6.set g50 _).back (z.trans e5), Dj.of ow.fre.known f6.new, (f6.set g50 _).known, (fun hb => by have := f6.new b5 hb; rw [g50] at this; cases this), n5, hb5', ((z.trans e5).trans e6).set' n5 _⟩
    · intro b5 hb5 n5
      have z := (Ext.refl hS).set n5 ⟨[i64 0, i64 0, i64 0, i64 0, i64 0, i64 0, str [], nils, nils], 9⟩
      refine ⟨z.2, ?_⟩
      simp -implicitDefEqProofs only [go_sem, o4, o5, c4, c5, o6, o7, o8, o9]
      refine (sizeInts_pc (sh.ext z)).use ?_
      refine ⟨z.2, ?_⟩
      simp -implicitDefEqProofs only [go_sem, o4, o5, c4, c5, o6, o7, o8, o9]
      refine AC_of (base_ac (hvS.ext z) hf) ?_
      rintro vb h5 - ⟨e5, ow⟩
      refine ⟨(z.trans e5).2, ?_⟩
      simp -implicitDefEqProofs only [go_sem, ow.sl.vcl, o4, o5, c4, c5, o6, o7, o8, o9]
      refine AC_of (log_ac (hvS.ext (z.trans e5)) hf (hst0.ext (z.trans e5)) hok) ?_
      rintro vl h6 - ⟨e6, f6⟩
      refine ⟨((z.trans e5).trans e6).2, ?_⟩
      have g50 := e5.2.g b5 _ (H.set_get_same _ _ _)
      have g5 := e6.2.g b5 _ g50
      have hb5' : h6.base ≤ b5 := by rw [e6.1, e5.1, H.set_base]; exact hb5
      have v1 := ow.sl.vcl
      have v2 := f6.sl.vcl
      have w1 := ow.sl.one
      have w2 := f6.sl.one
      simp -implicitDefEqProofs only [go_sem, v1, v2, w1, w2, hb5', stc_get g5, q1, q2, q3, o4, o5, c4, c5, o6, o7, o8, o9]
      exact ⟨b5, rfl, vb, vl, by rw [H.set_get_same], fun x => by rw [set_id2]; exact (((ow.ext e6).set0 (by rw [H.set_get_same]; simp) _).back z).fre, fun x => by rw [set_id2]; exact (f6.set g50 _).back (z.trans e5), Dj.of ow.fre.known f6.new, (f6.set g50 _).known, (fun hb => by have := f6.new b5 hb; rw [g50] at this; cases this), n5, hb5', ((z.trans e5).trans e6).set' n5 _⟩
  rintro f2 h2 ⟨b5, r1, r2, r3, r5, vb, vl, g5, fb, fl, dj, kl, nbl, n5, hb5, e2⟩
  have E2 := E1.trans e2
  have G1 := e2.2.g b1 _ g1
  have G2 := e2.2.g b2 _ g2
  have G3 := e2.2.g b3 _ g3
  have hb22 : h2.base ≤ b2 := by rw [e2.1]; exact hb2
  have fb0 : Fre hS h2 vb 1 (strs (baseOf m)) := by have := fb ⟨idCells m s vb vl, 9⟩; rwa [H.set_id g5] at this
  have fl0 : Fre hS h2 vl 4 ((logOf m s).map UStep.cells) := by have := fl ⟨idCells m s vb vl, 9⟩; rwa [H.set_id g5] at this
  have n51 : b1 ≠ b5 := fun e => by rw [e, n5] at g1; cases g1
  have n52 : b2 ≠ b5 := fun e => by rw [e, n5] at g2; cases g2
  have n53 : b3 ≠ b5 := fun e => by rw [e, n5] at g3; cases g3
  have w1 := fb0.sl.one
  have w2 := fl0.sl.one
  have u1 := fb0.sl.vcl
  have u2 := fl0.sl.vcl
  by_cases p5 : s.phase = 5
  rotate_left
  · have hid : idealM m s = ⟨s.phase, s.tries, s.need, s.stash, s.held.length, 0, s.digest, baseOf m, logOf m s⟩ := by unfold idealM; rw [if_neg p5, if_neg p5]
    rw [hid]
    simp -implicitDefEqProofs only [go_sem, r1, r2, r3, r5, ldc_get G3, eq_false p5, ldc_get g5, stc_get G2, hb22, w1, w2, u1, u2, o4, o5, c4, c5, o6, o7, o8, o9]
    exact ⟨E2.set' n2 _, _, rfl, ideal_f.2 ⟨vb, vl, rfl, (fb0.set g2 _).back E1, (fl0.set g2 _).back E1, dj⟩⟩
  have fo : Fold m s := Fold.of hf hok hi hsd (by omega)
  have hmo : movesOf m s = movesM m s := by unfold movesOf; rw [if_pos fo.code]
  have hid : idealM m s = ⟨s.phase, s.tries, s.need, s.stash, s.held.length, (movesM m s).length - s.done, s.digest, viewM m s, logOf m s⟩ := by unfold idealM; rw [if_pos p5, if_pos p5]
  rw [hid]
  have h28 := moves_28 fo.code
  have hdl := fo.done
  have hdn := ok_done hok
  simp -implicitDefEqProofs only [go_sem, r1, r2, r3, r5, ldc_get G3, eq_true p5, o4, o5, c4, c5, o6, o7, o8, o9]
  refine dopX_of (but h2 b5) (but_sub _ _) ?_
  have B1 : (but h2 b5).get b1 = some ⟨[i64 m.blocks, vs, vd], 3⟩ := by rw [but_get n51]; exact G1
  have B3 : (but h2 b5).get b3 = some ⟨s.cells uh um, 8⟩ := by rw [but_get n53]; exact G3
  simp -implicitDefEqProofs only [go_sem, r1, r2, r3, r5, ldc_get B1, ldc_get B3, o4, o5, c4, c5, o6, o7, o8, o9]
  refine AC_of (view_ac (hv0.ext E2) hs hst hi hsd) ?_
  rintro vi h3 - ⟨e3, f3⟩
  have kp3 : Keep (fun x => x = b5) h2 h3 := e3.keep _
  refine ⟨but_keep kp3, ?_⟩
  have x1 := f3.sl.vcl
  have x2 := f3.sl.one
  simp -implicitDefEqProofs only [go_sem, x1, r5, o4, o5, c4, c5, o6, o7, o8, o9]
  refine AC_of (moves_ac (hv0.ext (E2.trans e3)) hf (hst0.ext (e2.trans e3)) hok) ?_
  rintro vm h4 - ⟨e4, f4⟩
  rw [hmo] at f4
  have e34 := e3.trans e4
  have kp4 : Keep (fun x => x = b5) h2 h4 := e34.keep _
  refine ⟨but_keep kp4, ?_⟩
  simp -implicitDefEqProofs only [go_sem, f4.sl.vcl, o4, o5, c4, c5, o6, o7, o8, o9]
  refine (sizeMove_pc f4.sl).use ?_
  refine ⟨but_keep kp4, ?_⟩
  have g54 := e34.2.g b5 _ g5
  have hb54 : h4.base ≤ b5 := by rw [e34.1]; exact hb5
  have lm : ((movesM m s).map UMove.cells).length = (movesM m s).length := by simp
  simp -implicitDefEqProofs only [go_sem, lm, stc_get g54, hb54, x1, x2, wrap_i64 (show -(9223372036854775808 : Int) ≤ (((movesM m s).length : Int) - s.done) by omega) (show (((movesM m s).length : Int) - s.done) < 9223372036854775808 by omega), o4, o5, c4, c5, o6, o7, o8, o9]
  refine ⟨but_keep (kp4.set (.inl rfl) _), ?_⟩
  have g25 := e34.2.g b2 _ G2
  have hb25 : h4.base ≤ b2 := by rw [e34.1]; exact hb22
  have vlE : Fre hS h4 vl 4 ((logOf m s).map UStep.cells) := fl0.ext e34
  have z25 : (b2 = b5) = False := eq_false n52
  have z52 : (b5 = b2) = False := eq_false (Ne.symm n52)
  simp -implicitDefEqProofs only [go_sem, r2, r5, hb54, x1, x2, u1, u2, w2, z25, z52, stc_get g25, hb25, o4, o5, c4, c5, o6, o7, o8, o9]
  exact ⟨((E2.trans e34).set' n2 _).set' (E1.none n5) _, _, rfl, ideal_f.2 ⟨vi, vl, rfl, (((f3.ext e4).set G2 _).set g5 _).back E2, ((vlE.set g2 _).setNe nbl _).back E1, (Dj.of kl f3.new).symm⟩⟩
/-- impl.IdealOf -/
def b_impl_IdealOf : C := (.seq (.ops [⟨(some 1), none, .box (.t 0)⟩, ⟨(some 2), none, .alloc [(i64 0), (i64 0), (i64 0), (i64 0), (i64 0), (i64 0), (str []), nils, nils, (str []), nils, (i64 0)]⟩])
 (.seq (.seq (.ops [q 3 (.ld true 3 (.t 1)), ⟨(some 4), none, .call (.c (.func (.func 52) #[] #[])) [(.t 3)]⟩, q 5 (.un .not (.t 4))])
 (.cond (.t 5) (.seq (.ops [q 6 (.build [(i64 0), (i64 0), (i64 0), (i64 0), (i64 0), (i64 0), (str []), nils, nils, (str []), nils, (i64 0)] [(11, 1, (.c (i64 1)))]), ⟨none, none, .st 12 (.t 2) (.t 6)⟩])
 .ret) .skip))
 (.seq (.ops [q 7 (.ld true 3 (.t 1)), ⟨(some 8), none, .call (.c (.func (.func 69) #[] #[])) [(.t 7)]⟩, q 9 (.build [(i64 0), (i64 0), (i64 0), (i64 0), (i64 0), (i64 0), (str []), nils, nils, (str []), nils, (i64 0)] [(0, 9, (.t 8))]), ⟨none, none, .st 12 (.t 2) (.t 9)⟩])
 .ret)))
theorem w_impl_IdealOf {args : List Value} {h : H} {Q : Value → H → Prop} (hl : args.length ≤ 10) (hk : wpc Tryz.prog b_impl_IdealOf (retw [.cell 2 true 12] Q) (argsFr args) h) : AC Tryz.prog 36 args h Q :=
  AC.of_wpc mixedOrders Tryz.func36 (by kernel_rfl) (by kernel_rfl : prepF Tryz.prog Tryz.f36 = some ⟨10, [.cell 2 true 12], b_impl_IdealOf⟩) hl hk

theorem implIdealOf_ac {h : H} {cs : List Value} {m : UMach} (hv : RepR h (spMach m) cs) (hs : m.flash.fin1) : AC Tryz.prog 36 [.agg cs.toArray] h fun r h' => Ext h h' ∧ ∃ cs', r = .agg cs'.toArray ∧ RepF h h' (spIdealOut (idealMOut m)) cs' := by
  have l1 := hv.len
  simp only [List.length_cons, List.length_nil, Nat.reduceAdd] at l1
  have t1 := take_len l1
  have o1 := hv.one
  have bad : rightOut m = false → idealMOut m = illOut 1 := fun h => by
    unfold idealMOut
    split
    · rw [if_neg (by rw [h]; simp)]
    · rfl
  skip
  refine w_impl_IdealOf (by simp) ?_
  unfold b_impl_IdealOf
  simp -implicitDefEqProofs only [go_sem, l1, t1, o1]
  intro b1 hb_b1 n_b1
  simp -implicitDefEqProofs only [go_sem, l1, t1, o1, hb_b1]
  intro b2 hb_b2 m0_b2
  obtain ⟨z_b2_b1, y_b2_b1, n_b2⟩ := fne m0_b2
  simp only [H.set_base] at hb_b2
  simp -implicitDefEqProofs only [go_sem, l1, t1, o1, hb_b1, hb_b2, z_b2_b1, y_b2_b1]
  refine (isMachine_pc (hv.ext (((Ext.refl _).set' n_b1 _).set' n_b2 _)) hs).use ?_
  cases hR : rightOut m with
  | false =>
    rw [bad hR]
    simp -implicitDefEqProofs only [go_sem, l1, t1, o1, hb_b1, hb_b2, z_b2_b1, y_b2_b1]
    exact ⟨(((Ext.refl _).set' n_b1 _).set' n_b2 _), _, rfl, ill_f _ _ 1⟩
  | true =>
    obtain ⟨s, hst, hf, hok, hi, hsd⟩ := right_of hR
    have e : idealMOut m = ⟨idealM m s, [], [], 0⟩ := by unfold idealMOut; rw [hst]; simp only; rw [if_pos hR]
    rw [e]
    simp -implicitDefEqProofs only [go_sem, l1, t1, o1, hb_b1, hb_b2, z_b2_b1, y_b2_b1]
    refine AC_of (idealOf_ac (hv.ext (((Ext.refl _).set' n_b1 _).set' n_b2 _)) hs hst hi hsd) ?_
    rintro _ h3 - ⟨e3, cs3, rfl, F3⟩
    obtain ⟨vb, vl, rfl, f1, f2, dj⟩ := ideal_f.1 F3
    have g2 := e3.2.g b2 _ (by simp -implicitDefEqProofs only [go_sem, l1, t1, o1, hb_b1, hb_b2, z_b2_b1, y_b2_b1]; rfl)
    have hbb := e3.1
    simp only [H.set_base] at hbb
    have w1 := f1.sl.one
    have w2 := f2.sl.one
    have u1 := f1.sl.vcl
    have u2 := f2.sl.vcl
    simp -implicitDefEqProofs only [go_sem, w1, w2, u1, u2, stc_get g2, hbb, l1, t1, o1, hb_b1, hb_b2, z_b2_b1, y_b2_b1]
    exact ⟨(((((Ext.refl _).set' n_b1 _).set' n_b2 _)).trans e3).set' n_b2 _, _, rfl, idealOut_f.2 ⟨vb, vl, nils, rfl, (f1.set (b := b2) (H.set_get_same _ _ _) _).back (((Ext.refl _).set' n_b1 _).set' n_b2 _), (f2.set (b := b2) (H.set_get_same _ _ _) _).back (((Ext.refl _).set' n_b1 _).set' n_b2 _), .inl ⟨none, 0, rfl, rfl⟩, dj, (fun _ _ h => by cases h), (fun _ _ h => by cases h)⟩⟩
/-- spec.IdealOf -/
def b_spec_IdealOf : C := (.seq (.ops [⟨(some 1), none, .box (.t 0)⟩, ⟨(some 2), none, .alloc [(i64 0), (i64 0), (i64 0), (i64 0), (i64 0), (i64 0), (str []), nils, nils, (str []), nils, (i64 0)]⟩])
 (.seq (.seq (.ops [q 6 (.ld true 3 (.t 1)), ⟨(some 7), none, .call (.c (.func (.func 49) #[] #[])) [(.t 6)]⟩, q 8 (.un .not (.t 7))])
 (.cond (.t 8) (.seq (.ops [⟨(some 9), none, .call (.c (.func (.func 67) #[] #[])) [(.c (i64 1))]⟩, ⟨none, none, .st 12 (.t 2) (.t 9)⟩])
 .ret) .skip))
 (.seq (.ops [q 11 (.ld true 3 (.t 1)), ⟨(some 12), none, .call (.c (.func (.func 41) #[] #[])) [(.t 11)]⟩, q 10 (.mv (.t 12)), q 13 (.ext 0 (.t 10)), q 14 (.ext 1 (.t 10)), ⟨(some 3), none, .alloc [(i64 0), (i64 0), (i64 0), (i64 0), (i64 0), (str []), nils, nils]⟩, ⟨none, none, .st 8 (.t 3) (.t 13)⟩, q 4 (.mv (.t 14))])
 (.seq (.dops true (.tk (q 15 (.fld 0 (.t 3))) (.tk (q 16 (.ld false 1 (.t 15))) (.tk (q 17 (.fld 1 (.t 3))) (.tk (q 18 (.ld false 1 (.t 17))) (.tk (q 19 (.fld 2 (.t 3))) (.tk (q 20 (.ld false 1 (.t 19))) (.tk (q 21 (.fld 3 (.t 3))) (.tk (q 22 (.ld false 1 (.t 21))) (.tk (q 23 (.fld 6 (.t 3))) (.tk (q 24 (.ld false 1 (.t 23))) (.tk (q 25 (.len (.t 24))) (.tk (q 26 (.fld 5 (.t 3))) (.tk (q 27 (.ld false 1 (.t 26))) (.tk (q 28 (.ld true 3 (.t 1))) (.tk (q 30 (.ld true 3 (.t 1))) (.tk (q 31 (.ld true 8 (.t 3))) (.alt (⟨(some 29), none, .call (.c (.func (.func 51) #[] #[])) [(.t 28)]⟩) (.alt (⟨(some 32), none, .call (.c (.func (.func 68) #[] #[])) [(.t 30), (.t 31)]⟩) (.tk (q 33 (.build [(i64 0), (i64 0), (i64 0), (i64 0), (i64 0), (i64 0), (str []), nils, nils] [(0, 1, (.t 16)), (1, 1, (.t 18)), (2, 1, (.t 20)), (3, 1, (.t 22)), (4, 1, (.t 25)), (6, 1, (.t 27)), (7, 1, (.t 29)), (8, 1, (.t 32))])) (.sq (⟨(some 5), none, .alloc [(i64 0), (i64 0), (i64 0), (i64 0), (i64 0), (i64 0), (str []), nils, nils]⟩) (.lt (⟨none, none, .st 9 (.t 5) (.t 33)⟩) .nil))) (⟨(some 5), none, .alloc [(i64 0), (i64 0), (i64 0), (i64 0), (i64 0), (i64 0), (str []), nils, nils]⟩) (.sq (⟨(some 32), none, .call (.c (.func (.func 68) #[] #[])) [(.t 30), (.t 31)]⟩) (.tk (q 33 (.build [(i64 0), (i64 0), (i64 0), (i64 0), (i64 0), (i64 0), (str []), nils, nils] [(0, 1, (.t 16)), (1, 1, (.t 18)), (2, 1, (.t 20)), (3, 1, (.t 22)), (4, 1, (.t 25)), (6, 1, (.t 27)), (7, 1, (.t 29)), (8, 1, (.t 32))])) (.lt (⟨none, none, .st 9 (.t 5) (.t 33)⟩) .nil)))) (⟨(some 5), none, .alloc [(i64 0), (i64 0), (i64 0), (i64 0), (i64 0), (i64 0), (str []), nils, nils]⟩) (.sq (⟨(some 29), none, .call (.c (.func (.func 51) #[] #[])) [(.t 28)]⟩) (.sq (⟨(some 32), none, .call (.c (.func (.func 68) #[] #[])) [(.t 30), (.t 31)]⟩) (.tk (q 33 (.build [(i64 0), (i64 0), (i64 0), (i64 0), (i64 0), (i64 0), (str []), nils, nils] [(0, 1, (.t 16)), (1, 1, (.t 18)), (2, 1, (.t 20)), (3, 1, (.t 22)), (4, 1, (.t 25)), (6, 1, (.t 27)), (7, 1, (.t 29)), (8, 1, (.t 32))])) (.lt (⟨none, none, .st 9 (.t 5) (.t 33)⟩) .nil))))))))))))))))))))))
 (.seq (.seq (.ops [q 34 (.fld 0 (.t 3)), q 35 (.ld false 1 (.t 34)), q 36 (.bin .eql (.t 35) (.c (i64 5)))])
 (.cond (.t 36) (.seq (.ops [q 37 (.ld true 3 (.t 1)), q 38 (.ld true 8 (.t 3)), ⟨(some 39), none, .call (.c (.func (.func 65) #[] #[])) [(.t 37), (.t 38)]⟩, q 40 (.fld 7 (.t 5)), ⟨none, none, .st 1 (.t 40) (.t 39)⟩])
 (.dops true (.tk (q 41 (.ld true 3 (.t 1))) (.tk (q 42 (.ld true 8 (.t 3))) (.tk (q 45 (.fld 4 (.t 3))) (.tk (q 46 (.ld false 1 (.t 45))) (.sq (⟨(some 43), none, .call (.c (.func (.func 42) #[] #[])) [(.t 41), (.t 42)]⟩) (.tk (q 44 (.len (.t 43))) (.tk (q 47 (.bin .sub (.t 44) (.t 46))) (.tk (q 48 (.fld 5 (.t 5))) (.lt (⟨none, none, .st 1 (.t 48) (.t 47)⟩) .nil))))))))))) .skip))
 (.seq (.ops [q 49 (.ld true 9 (.t 5)), q 50 (.build [(i64 0), (i64 0), (i64 0), (i64 0), (i64 0), (i64 0), (str []), nils, nils, (str []), nils, (i64 0)] [(0, 9, (.t 49))]), ⟨none, none, .st 12 (.t 2) (.t 50)⟩])
 .ret))))))
theorem w_spec_IdealOf {args : List Value} {h : H} {Q : Value → H → Prop} (hl : args.length ≤ 51) (hk : wpc Tryz.prog b_spec_IdealOf (retw [.cell 2 true 12] Q) (argsFr args) h) : AC Tryz.prog 35 args h Q :=
  AC.of_wpc mixedOrders Tryz.func35 (by kernel_rfl) (by kernel_rfl : prepF Tryz.prog Tryz.f35 = some ⟨51, [.cell 2 true 12], b_spec_IdealOf⟩) hl hk

set_option maxHeartbeats 3200000 in
theorem specIdealOf_ac {h : H} {cs : List Value} {m : UMach} (hv : RepR h (spMach m) cs) (hs : m.flash.fin1) : AC Tryz.prog 35 [.agg cs.toArray] h fun r h' => Ext h h' ∧ ∃ cs', r = .agg cs'.toArray ∧ RepF h h' (spIdealOut (idealMOut m)) cs' := by
  have hv0 := hv
  obtain ⟨vs, vd, rfl, fr⟩ := mach_r.1 hv
  have o4 := fr.1.one
  have o5 := fr.2.one
  have c4 : vcl vs = [vs] := fr.1.vcl
  have c5 : vcl vd = [vd] := fr.2.vcl
  have bad : rightOut m = false → idealMOut m = illOut 1 := fun h => by
    unfold idealMOut
    split
    · rw [if_neg (by rw [h]; simp)]
    · rfl
  skip
  refine w_spec_IdealOf (by simp) ?_
  unfold b_spec_IdealOf
  refine wpc_cut (fun f1 h1 => ∃ b1 b2, f1 1 = ptr b1 0 ∧ f1 2 = ptr b2 0 ∧ h1.get b1 = some ⟨[i64 m.blocks, vs, vd], 3⟩ ∧ h1.get b2 = some ⟨[i64 0, i64 0, i64 0, i64 0, i64 0, i64 0, str [], nils, nils, str [], nils, i64 0], 12⟩ ∧ h1.base ≤ b2 ∧ h.get b2 = none ∧ Ext h h1) ?_ ?_
  · simp -implicitDefEqProofs only [go_sem, o4, o5, c4, c5]
    intro b1 hb_b1 n_b1
    simp -implicitDefEqProofs only [go_sem, o4, o5, c4, c5, hb_b1]
    intro b2 hb_b2 m0_b2
    obtain ⟨z_b2_b1, y_b2_b1, n_b2⟩ := fne m0_b2
    simp only [H.set_base] at hb_b2
    simp -implicitDefEqProofs only [go_sem, o4, o5, c4, c5, hb_b1, hb_b2, z_b2_b1, y_b2_b1]
    exact ⟨b1, b2, rfl, rfl, by simp -implicitDefEqProofs only [go_sem, o4, o5, c4, c5, hb_b1, hb_b2, z_b2_b1, y_b2_b1], by simp -implicitDefEqProofs only [go_sem, o4, o5, c4, c5, hb_b1, hb_b2, z_b2_b1, y_b2_b1], hb_b2, n_b2, (((Ext.refl _).set' n_b1 _).set' n_b2 _)⟩
  skip
  rintro f0 h1 ⟨b1, b2, q1, q2, g1, g2, hb2, n2, E0⟩
  cases hR : rightOut m with
  | false =>
    rw [bad hR]
    simp -implicitDefEqProofs only [go_sem, q1, q2, ldc_get g1, o4, o5, c4, c5]
    refine (specMachineRight_pc (hv0.ext E0) hs).use ?_
    simp -implicitDefEqProofs only [go_sem, hR, o4, o5, c4, c5]
    refine (l15Ill_pc _ _).use ?_
    simp -implicitDefEqProofs only [go_sem, q2, stc_get g2, hb2, o4, o5, c4, c5]
    exact ⟨E0.set' n2 _, _, rfl, ill_f _ _ 1⟩
  | true =>
    obtain ⟨s, hst, hf, hok, hi, hsd⟩ := right_of hR
    have e : idealMOut m = ⟨idealM m s, [], [], 0⟩ := by unfold idealMOut; rw [hst]; simp only; rw [if_pos hR]
    rw [e]
    have h20 := logOf_len m hok
    have hbl := baseOf_len hf
    refine wpc_cut2 (fun f1 hS => ∃ b3 c3, f1 1 = ptr b1 0 ∧ f1 2 = ptr b2 0 ∧ f1 3 = ptr b3 0 ∧ hS.get b3 = some ⟨c3, 8⟩ ∧ StR hS c3 s ∧ Ext h1 hS) ?_ ?_
    · simp -implicitDefEqProofs only [go_sem, q1, q2, ldc_get g1, o4, o5, c4, c5]
      refine (specMachineRight_pc (hv0.ext E0) hs).use ?_
      simp -implicitDefEqProofs only [go_sem, hR, q1, ldc_get g1, o4, o5, c4, c5]
      refine AC_of (l13State_ac (hv0.ext E0) hs) ?_
      rintro _ h2 - ⟨e2, cs2, rfl, F2⟩
      have l2 := F2.r.len
      have t2 := take_len l2
      have o2 := F2.r.one
      rw [hst] at F2
      simp only [Option.getD_some] at F2
      simp -implicitDefEqProofs only [go_sem, l2, t2, o2, q1, q2, o4, o5, c4, c5]
      intro b3 hb3 n3
      have e3 := (Ext.refl h2).set n3 ⟨cs2, 8⟩
      simp -implicitDefEqProofs only [go_sem, l2, t2, o2, hb3, q1, q2, o4, o5, c4, c5]
      exact ⟨b3, cs2, rfl, by rw [if_pos rfl], F2.r.ext e3, e2.trans e3⟩
    rintro f1 hS ⟨b3, c3, q1, q2, q3, g3, SR, e1⟩
    have E1 := E0.trans e1
    have g1 := e1.2.g b1 _ g1
    have g2 := e1.2.g b2 _ g2
    have hb2 : hS.base ≤ b2 := by rw [e1.1]; exact hb2
    have hst0 := SR
    obtain ⟨uh, um, rfl, sh, sm⟩ := SR
    have o6 := sh.vcl
    have o7 := sm.vcl
    have o8 := sh.one
    have o9 := sm.one
    have lh : (ints s.held).length = s.held.length := by simp
    have hsh := sh.shape
    rw [lh] at hsh
    obtain ⟨ah, ch, rfl⟩ := hsh
    have hvS := hv0.ext E1
    skip
    refine wpc_cut (fun f2 h2 => ∃ b5, f2 1 = ptr b1 0 ∧ f2 2 = ptr b2 0 ∧ f2 3 = ptr b3 0 ∧ f2 5 = ptr b5 0 ∧ IdBox m s hS h2 b5) ?_ ?_
    · simp -implicitDefEqProofs only [go_sem, q1, q2, q3, ldc_get g1, ldc_get g3, o4, o5, c4, c5, o6, o7, o8, o9]
      refine ⟨?_, ?_⟩
      · refine AC_of (l13Base_ac hvS hf) ?_
        rintro vb h5 - ⟨e5, ow⟩
        refine ⟨e5.2, ?_⟩
        simp -implicitDefEqProofs only [go_sem, ow.sl.vcl, o4, o5, c4, c5, o6, o7, o8, o9]
        refine ⟨?_, ?_⟩
        · refine AC_of (l13Log_ac (hvS.ext e5) hf (hst0.ext e5) hok) ?_
          rintro vl h6 - ⟨e6, f6⟩
          refine ⟨(e5.trans e6).2, ?_⟩
          have v1 := ow.sl.vcl
          have v2 := f6.sl.vcl
          have w1 := ow.sl.one
          have w2 := f6.sl.one
          simp -implicitDefEqProofs only [go_sem, v1, v2, o4, o5, c4, c5, o6, o7, o8, o9]
          intro b5 hb5 n5
          refine ⟨((e5.trans e6).set n5 _).2, ?_⟩
          simp -implicitDefEqProofs only [go_sem, hb5, w1, w2, v1, v2, q1, q2, q3, o4, o5, c4, c5, o6, o7, o8, o9]
          exact ⟨b5, rfl, vb, vl, by rw [H.set_get_same], fun x => by rw [set_id2]; exact ((ow.ext e6).ext ((Ext.refl _).set n5 _)).fre, fun x => by rw [set_id2]; exact (f6.ext ((Ext.refl _).set n5 _)).back e5, Dj.of ow.fre.known f6.new, (f6.ext ((Ext.refl _).set n5 _)).known, (fun hb => f6.known b5 hb n5), (e5.trans e6).none n5, hb5, (e5.trans e6).set n5 _⟩
        · intro b5 hb5 n5
          have e5b := (Ext.refl h5).set n5 ⟨[i64 0, i64 0, i64 0, i64 0, i64 0, i64 0, str [], nils, nils], 9⟩
          have z := e5.trans e5b
          refine ⟨z.2, ?_⟩
          simp -implicitDefEqProofs only [go_sem, o4, o5, c4, c5, o6, o7, o8, o9]
          refine AC_of (l13Log_ac (hvS.ext z) hf (hst0.ext z) hok) ?_
          rintro vl h6 - ⟨e6, f6⟩
          refine ⟨(z.trans e6).2, ?_⟩
          have g5 := e6.2.g b5 _ (H.set_get_same _ _ _)
          have hb5' : h6.base ≤ b5 := by rw [e6.1, H.set_base]; exact hb5
          have v1 := ow.sl.vcl
          have v2 := f6.sl.vcl
          have w1 := ow.sl.one
          have w2 := f6.sl.one
          have nob : ob vb ≠ some b5 := fun hb => by obtain ⟨_, _, y, hg⟩ := ow.ob_new hb; rw [n5] at hg; cases hg
          simp -implicitDefEqProofs only [go_sem, v1, v2, w1, w2, hb5', stc_get g5, q1, q2, q3, o4, o5, c4, c5, o6, o7, o8, o9]
          exact ⟨b5, rfl, vb, vl, by rw [H.set_get_same], fun x => by rw [set_id2]; exact (((ow.ext e5b).ext e6).setOb nob _).fre, fun x => by rw [set_id2]; exact (f6.set (H.set_get_same _ _ _) _).back z, Dj.of (ow.ext e5b).fre.known f6.new, (f6.set (H.set_get_same _ _ _) _).known, (fun hb => by have := f6.new b5 hb; rw [H.set_get_same] at this; cases this), e5.none n5, hb5', (z.trans e6).set' (e5.none n5) _⟩
      · intro b5 hb5 n5
        have z := (Ext.refl hS).set n5 ⟨[i64 0, i64 0, i64 0, i64 0, i64 0, i64 0, str [], nils, nils], 9⟩
        refine ⟨z.2, ?_⟩
        simp -implicitDefEqProofs only [go_sem, o4, o5, c4, c5, o6, o7, o8, o9]
        refine AC_of (l13Base_ac (hvS.ext z) hf) ?_
        rintro vb h5 - ⟨e5, ow⟩
        refine ⟨(z.trans e5).2, ?_⟩
        simp -implicitDefEqProofs only [go_sem, ow.sl.vcl, o4, o5, c4, c5, o6, o7, o8, o9]
        refine AC_of (l13Log_ac (hvS.ext (z.trans e5)) hf (hst0.ext (z.trans e5)) hok) ?_
        rintro vl h6 - ⟨e6, f6⟩
        refine ⟨((z.trans e5).trans e6).2, ?_⟩
        have g50 := e5.2.g b5 _ (H.set_get_same _ _ _)
        have g5 := e6.2.g b5 _ g50
        have hb5' : h6.base ≤ b5 := by rw [e6.1, e5.1, H.set_base]; exact hb5
        have v1 := ow.sl.vcl
        have v2 := f6.sl.vcl
        have w1 := ow.sl.one
        have w2 := f6.sl.one
        simp -implicitDefEqProofs only [go_sem, v1, v2, w1, w2, hb5', stc_get g5, q1, q2, q3, o4, o5, c4, c5, o6, o7, o8, o9]
        exact ⟨b5, rfl, vb, vl, by rw [H.set_get_same], fun x => by rw [set_id2]; exact (((ow.ext e6).set0 (by rw [H.set_get_same]; simp) _).back z).fre, fun x => by rw [set_id2]; exact (f6.set g50 _).back (z.trans e5), Dj.of ow.fre.known f6.new, (f6.set g50 _).known, (fun hb => by have := f6.new b5 hb; rw [g50] at this; cases this), n5, hb5', ((z.trans e5).trans e6).set' n5 _⟩
    rintro f2 h2 ⟨b5, r1, r2, r3, r5, vb, vl, g5, fb, fl, dj, kl, nbl, n5, hb5, e2⟩
    have E2 := E1.trans e2
    have G1 := e2.2.g b1 _ g1
    have G2 := e2.2.g b2 _ g2
    have G3 := e2.2.g b3 _ g3
    have hb22 : h2.base ≤ b2 := by rw [e2.1]; exact hb2
    have fb0 : Fre hS h2 vb 1 (strs (baseOf m)) := by have := fb ⟨idCells m s vb vl, 9⟩; rwa [H.set_id g5] at this
    have fl0 : Fre hS h2 vl 4 ((logOf m s).map UStep.cells) := by have := fl ⟨idCells m s vb vl, 9⟩; rwa [H.set_id g5] at this
    have n51 : b1 ≠ b5 := fun e => by rw [e, n5] at g1; cases g1
    have n52 : b2 ≠ b5 := fun e => by rw [e, n5] at g2; cases g2
    have n53 : b3 ≠ b5 := fun e => by rw [e, n5] at g3; cases g3
    have w1 := fb0.sl.one
    have w2 := fl0.sl.one
    have u1 := fb0.sl.vcl
    have u2 := fl0.sl.vcl
    have nlD : ∀ v, Dj v nils := fun v _ _ h => by cases h
    by_cases p5 : s.phase = 5
    rotate_left
    · have hid : idealM m s = ⟨s.phase, s.tries, s.need, s.stash, s.held.length, 0, s.digest, baseOf m, logOf m s⟩ := by unfold idealM; rw [if_neg p5, if_neg p5]
      rw [hid]
      simp -implicitDefEqProofs only [go_sem, r1, r2, r3, r5, ldc_get G3, eq_false p5, ldc_get g5, stc_get G2, hb22, w1, w2, u1, u2, o4, o5, c4, c5, o6, o7, o8, o9]
      exact ⟨E2.set' n2 _, _, rfl, idealOut_f.2 ⟨vb, vl, nils, rfl, (fb0.set g2 _).back E1, (fl0.set g2 _).back E1, .inl ⟨none, 0, rfl, rfl⟩, dj, nlD _, nlD _⟩⟩
    have fo : Fold m s := Fold.of hf hok hi hsd (by omega)
    have hmo : movesOf m s = movesM m s := by unfold movesOf; rw [if_pos fo.code]
    have hid : idealM m s = ⟨s.phase, s.tries, s.need, s.stash, s.held.length, (movesM m s).length - s.done, s.digest, viewM m s, logOf m s⟩ := by unfold idealM; rw [if_pos p5, if_pos p5]
    rw [hid]
    have h28 := moves_28 fo.code
    have hdl := fo.done
    have hdn := ok_done hok
    have z25 : (b2 = b5) = False := eq_false n52
    have z52 : (b5 = b2) = False := eq_false (Ne.symm n52)
    have z15 : (b1 = b5) = False := eq_false n51
    have z35 : (b3 = b5) = False := eq_false n53
    simp -implicitDefEqProofs only [go_sem, r1, r2, r3, r5, ldc_get G1, ldc_get G3, eq_true p5, o4, o5, c4, c5, o6, o7, o8, o9]
    refine AC_of (l14View_ac (hv0.ext E2) hf (hst0.ext e2) hok hi hsd) ?_
    rintro vi h3 - ⟨e3, f3⟩
    have x1 := f3.sl.vcl
    have x2 := f3.sl.one
    have g53 := e3.2.g b5 _ g5
    have hb53 : h3.base ≤ b5 := by rw [e3.1]; exact hb5
    have G13 := e3.2.g b1 _ G1
    have G33 := e3.2.g b3 _ G3
    simp -implicitDefEqProofs only [go_sem, r1, r3, r5, x1, x2, stc_get g53, hb53, ldc_get G13, ldc_get G33, z15, z35, o4, o5, c4, c5, o6, o7, o8, o9]
    generalize hX : h3.set b5 ⟨_, _⟩ = h4
    have g54 : h4.get b5 = some ⟨[i64 s.phase, i64 s.tries, i64 s.need, i64 s.stash, i64 s.held.length, i64 0, str s.digest, vi, vl], 9⟩ := by rw [← hX, H.set_get_same]
    have hb54 : h4.base ≤ b5 := by rw [← hX]; exact hb53
    have e14 : Ext h1 h4 := by rw [← hX]; exact ((e1.trans e2).trans e3).set' (e1.none n5) _
    have eS4 : Ext hS h4 := by rw [← hX]; exact (e2.trans e3).set' n5 _
    have E4 := E0.trans e14
    have G24 := eS4.2.g b2 _ g2
    have hb24 : h4.base ≤ b2 := by rw [eS4.1]; exact hb2
    have fv4 : Fre hS h4 vi 1 (strs (viewM m s)) := by rw [← hX]; exact (f3.set g5 _).back e2
    have fl4 : Fre hS h4 vl 4 ((logOf m s).map UStep.cells) := by rw [← hX]; exact (fl0.ext e3).setNe nbl _
    have djv : Dj vi vl := (Dj.of kl f3.new).symm
    have nbv : blk vi ≠ some b5 := fun hb => by have := f3.new b5 hb; rw [g5] at this; cases this
    refine AC_of (l14Moves_ac (hv0.ext E4) hf (hst0.ext eS4) hok) ?_
    rintro vm h5 - ⟨e5, o5'⟩
    rw [hmo] at o5'
    have lm : ((movesM m s).map UMove.cells).length = (movesM m s).length := by simp
    have hsm := o5'.shape
    rw [lm] at hsm
    obtain ⟨am, cm, rfl⟩ := hsm
    have g55 := e5.2.g b5 _ g54
    have hb55 : h5.base ≤ b5 := by rw [e5.1]; exact hb54
    have g25 := e5.2.g b2 _ G24
    have hb25 : h5.base ≤ b2 := by rw [e5.1]; exact hb24
    refine ⟨e5.2, ?_⟩
    simp -implicitDefEqProofs only [go_sem, lm, r2, r5, stc_get g55, hb55, x1, x2, u2, w2, z25, z52, stc_get g25, hb25, wrap_i64 (show -(9223372036854775808 : Int) ≤ (((movesM m s).length : Int) - s.done) by omega) (show (((movesM m s).length : Int) - s.done) < 9223372036854775808 by omega), o4, o5, c4, c5, o6, o7, o8, o9]
    exact ⟨((E4.trans e5).set' n2 _).set' (E1.none n5) _, _, rfl, idealOut_f.2 ⟨vi, vl, nils, rfl, (((fv4.ext e5).set g2 _).setNe nbv _).back E1, (((fl4.ext e5).set g2 _).setNe nbl _).back E1, .inl ⟨none, 0, rfl, rfl⟩, djv, nlD _, nlD _⟩⟩
end Go.Proofs.YtiokibikhanfcaaGreat
