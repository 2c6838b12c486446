/- A helper of this seat's claims (contracts of the functions): what it shows is shown for every input that its statements name, on no other condition. -/
import Derived.Test.YtiokibikhanfcaaGreatC14b
import Derived.Test.YtiokibikhanfcaaGreatC14n
set_option linter.unusedVariables false
set_option linter.unusedSimpArgs false
set_option maxRecDepth 100000
namespace Go.Proofs.YtiokibikhanfcaaGreat
open Go.KH

/-! ## A machine that is started -/
theorem saveActs_ok {m : UMach} {s : UState} (hf : machFit m) (hok : stateOk s) : ∀ a ∈ saveActs m s, actOk m.flash.sec.length a := metaActs_ok (mach_two hf) (by have := stateB_46 hok; omega)
theorem noteR_len {t : List UInt8} {n : Int} {p : Int × List UInt8} (h : noteR t n = some p) : p.2.length = 8 := by
  unfold noteR at h
  split at h
  · simp only at h
    split at h
    · rename_i hc
      simp only [Option.some.injEq] at h
      rw [← h]
      simp only
      exact hc.2.2.2.2.2
    · cases h
  · cases h
theorem sync_ok (n : Nat) : actOk n ⟨true, 0, []⟩ := fun h => by cases h
theorem bootActs_ok {m : UMach} {s : UState} (hf : machFit m) (hok : stateOk s) : ∀ a ∈ bootActs m s, actOk m.flash.sec.length a := by
  have h27 := hf.2.2
  have hb := hf.1
  have hL := (stateOk_log hok).2.2.2
  intro a ha
  unfold bootActs at ha
  split at ha
  · have hw : ∀ a ∈ wipes m (s.mine.drop (loadAt m s)), actOk m.flash.sec.length a := fun a ha => by
      unfold wipes at ha
      obtain ⟨x, hx, rfl⟩ := List.mem_map.1 ha
      have := hL x (List.mem_of_mem_drop (List.mem_filter.1 hx).1)
      exact fun _ => ⟨by unfold wipe; simp only; omega, by unfold wipe; simp⟩
    unfold loadActs syncs at ha
    split at ha
    · rcases List.mem_append.1 ha with ha | ha
      · exact hw a ha
      · rw [List.mem_singleton.1 ha]; exact sync_ok _
    · exact hw a ha
  · split at ha
    · rename_i p3
      exact saveActs_ok hf (ok_retry hok p3) a ha
    · split at ha
      · rename_i p4
        split at ha
        · exact saveActs_ok hf (ok_idle hok) a ha
        · rename_i ht
          exact saveActs_ok hf (ok_less hok p4 ht) a ha
      · split at ha
        · rename_i p5
          unfold noteActs at ha
          split at ha
          · rename_i p hp
            split at ha
            · cases ha
            · rename_i hc
              have d40 : ¬ s.done = 40 := fun h => hc (.inl h)
              have hh : hasAt m p.1 := Classical.byContradiction fun h => hc (.inr h)
              rcases List.mem_append.1 ha with ha | ha
              · rcases List.mem_cons.1 ha with rfl | ha
                · have := noteR_len hp
                  unfold hasAt at hh
                  exact fun _ => ⟨by simp only; omega, by simp only; omega⟩
                · rw [List.mem_singleton.1 ha]; exact sync_ok _
              · exact saveActs_ok hf (ok_more hok p5 d40) a ha
          · cases ha
        · cases ha
def bootM (m : UMach) (s : UState) : UMach := ⟨m.blocks, actsDo m.flash (bootActs m s)⟩
def bootOut (m : UMach) : UMach × Int := match stM m with | some s => (bootM m s, 0) | none => (mach0, 1)
theorem fin1_fin {f : UFlash} (h : f.fin1) : f.fin := by
  have := h.1
  have := h.2
  have e := show maxLen = 9223372036854775807 from rfl
  unfold UFlash.fin
  omega
theorem bootM_ok {m : UMach} {s : UState} (hf : machFit m) (hok : stateOk s) : flashOk (bootM m s).flash := actsDo_ok _ hf.2.1 (bootActs_ok hf hok)
theorem bootOut_fin1 (m : UMach) : (bootOut m).1.flash.fin1 := by
  unfold bootOut
  cases hst : stM m with
  | none => exact ⟨by simp [mach0], by simp [mach0]⟩
  | some s =>
    have h3 := flashOk_small (bootM_ok (stM_ok hst).1 (stM_ok hst).2)
    exact ⟨by simp only; omega, by simp only; omega⟩
/-- impl.Boot -/
def b_impl_Boot : C := (.seq (.ops [⟨(some 1), none, .box (.t 0)⟩, ⟨(some 2), none, .alloc [(i64 0), nils, nils, (i64 0)]⟩])
 (.seq (.ops [q 6 (.ld true 3 (.t 1)), ⟨(some 7), none, .call (.c (.func (.func 44) #[] #[])) [(.t 6)]⟩, q 5 (.mv (.t 7)), q 8 (.ext 0 (.t 5)), q 9 (.ext 1 (.t 5)), ⟨(some 3), none, .alloc [(i64 0), (i64 0), (i64 0), (i64 0), (i64 0), (str []), nils, nils]⟩, ⟨none, none, .st 8 (.t 3) (.t 8)⟩, q 4 (.mv (.t 9))])
 (.seq (.seq (.ops [q 10 (.mv (.t 4)), q 11 (.un .not (.t 10))])
 (.cond (.t 11) (.seq (.ops [q 12 (.build [(i64 0), nils, nils, (i64 0)] [(3, 1, (.c (i64 1)))]), ⟨none, none, .st 4 (.t 2) (.t 12)⟩])
 .ret) .skip))
 (.seq (.dops true (.tk (q 13 (.fld 0 (.t 1))) (.tk (q 14 (.ld false 1 (.t 13))) (.tk (q 15 (.fld 1 (.t 1))) (.tk (q 16 (.ld true 2 (.t 15))) (.tk (q 17 (.ld true 3 (.t 1))) (.tk (q 18 (.ld true 8 (.t 3))) (.sq (⟨(some 19), none, .call (.c (.func (.func 60) #[] #[])) [(.t 17), (.t 18)]⟩) (.sq (⟨(some 20), none, .call (.c (.func (.func 59) #[] #[])) [(.t 16), (.t 19)]⟩) (.tk (q 21 (.build [(i64 0), nils, nils] [(0, 1, (.t 14)), (1, 2, (.t 20))])) (.tk (q 22 (.build [(i64 0), nils, nils, (i64 0)] [(0, 3, (.t 21))])) (.lt (⟨none, none, .st 4 (.t 2) (.t 22)⟩) .nil))))))))))))
 .ret))))
theorem w_impl_Boot {args : List Value} {h : H} {Q : Value → H → Prop} (hl : args.length ≤ 23) (hk : wpc Tryz.prog b_impl_Boot (retw [.cell 2 true 4] Q) (argsFr args) h) : AC Tryz.prog 24 args h Q :=
  AC.of_wpc mixedOrders Tryz.func24 (by kernel_rfl) (by kernel_rfl : prepF Tryz.prog Tryz.f24 = some ⟨23, [.cell 2 true 4], b_impl_Boot⟩) hl hk

set_option maxHeartbeats 1600000 in
theorem implBoot_ac {h : H} {cs : List Value} {m : UMach} (hv : RepR h (spMach m) cs) (hs : m.flash.fin1) : AC Tryz.prog 24 [.agg cs.toArray] h fun r h' => Ext h h' ∧ ∃ cs', r = .agg cs'.toArray ∧ RepF h h' (spMachO (bootOut m)) cs' := by
  have hv0 := hv
  obtain ⟨vs, vd, rfl, fr⟩ := mach_r.1 hv
  have o4 := fr.1.one
  have o5 := fr.2.one
  have c4 : vcl vs = [vs] := fr.1.vcl
  have c5 : vcl vd = [vd] := fr.2.vcl
  unfold bootOut
  skip
  refine w_impl_Boot (by simp) ?_
  unfold b_impl_Boot
  simp -implicitDefEqProofs only [go_sem, o4, o5, c4, c5]
  intro b1 hb_b1 n_b1
  simp -implicitDefEqProofs only [go_sem, o4, o5, c4, c5, hb_b1]
  intro b2 hb_b2 m0_b2
  obtain ⟨z_b2_b1, y_b2_b1, n_b2⟩ := fne m0_b2
  simp only [H.set_base] at hb_b2
  simp -implicitDefEqProofs only [go_sem, o4, o5, c4, c5, hb_b1, hb_b2, z_b2_b1, y_b2_b1]
  refine AC_of (stateOf_ac (hv0.ext (((Ext.refl _).set' n_b1 _).set' n_b2 _)) hs) ?_
  rintro _ h2 - ⟨e2, cs2, rfl, F2⟩
  have l2 := F2.r.len
  have t2 := take_len l2
  have o2 := F2.r.one
  have g1 := e2.2.g b1 _ (by simp -implicitDefEqProofs only [go_sem, o4, o5, c4, c5, hb_b1, hb_b2, z_b2_b1, y_b2_b1]; rfl)
  have g2 := e2.2.g b2 _ (by simp -implicitDefEqProofs only [go_sem, o4, o5, c4, c5, hb_b1, hb_b2, z_b2_b1, y_b2_b1]; rfl)
  have n2 := n_b2
  have hbb : h2.base ≤ b2 := by rw [e2.1]; simp only [H.set_base]; exact hb_b2
  have E2 := ((((Ext.refl _).set' n_b1 _).set' n_b2 _)).trans e2
  skip
  simp -implicitDefEqProofs only [go_sem, l2, t2, o2, o4, o5, c4, c5]
  intro b3 hb3 n3
  have z31 : (b1 = b3) = False := eq_false fun e => by rw [← e, g1] at n3; cases n3
  have z32 : (b2 = b3) = False := eq_false fun e => by rw [← e, g2] at n3; cases n3
  have y32 : (b3 = b2) = False := eq_false fun e => (of_eq_false z32) e.symm
  have e3 := (Ext.refl h2).set n3 ⟨cs2, 8⟩
  have E3 := E2.trans e3
  have G1 := e3.2.g b1 _ g1
  have G2 := e3.2.g b2 _ g2
  cases hst : stM m with
  | none =>
    simp -implicitDefEqProofs only [go_sem, l2, t2, o2, hb3, z32, y32, stc_get g2, hbb, Option.isSome_none, o4, o5, c4, c5]
    exact ⟨(E2.set' n2 _).set' (E2.none n3) _, _, rfl, mach0_f _ _ _⟩
  | some s =>
    rw [hst] at F2
    simp only [Option.getD_some] at F2
    have hok := stM_ok hst
    have h25 := bootActs_len m hok.2
    simp -implicitDefEqProofs only [go_sem, l2, t2, o2, hb3, z31, ldc_get g1, Option.isSome_some, o4, o5, c4, c5]
    generalize hH : h2.set b3 ⟨cs2, 8⟩ = hS at e3 E3 G1 G2 ⊢
    refine AC_of (bootActs_ac (hv0.ext E3) hok.1 (F2.r.ext e3) hok.2) ?_
    rintro v6 h6 - ⟨e6, ow⟩
    have E6 := E3.trans e6
    simp -implicitDefEqProofs only [go_sem, e6.2, ow.sl.vcl, o4, o5, c4, c5]
    refine AC_of (acted_ac (fr.ext E6) ow.sl hok.1.2.1 (bootActs_ok hok.1 hok.2) (by omega)) ?_
    rintro _ h7 - ⟨e7, us, ud, rfl, f7⟩
    have p1 := f7.1.sl.one
    have p2 := f7.2.1.sl.one
    have g27 := (e6.trans e7).2.g b2 _ G2
    have hb7 : h7.base ≤ b2 := by rw [(e3.trans (e6.trans e7)).1]; exact hbb
    simp -implicitDefEqProofs only [go_sem, (e6.trans e7).2, p1, p2, stc_get g27, hb7, o4, o5, c4, c5]
    exact ⟨(E6.trans e7).set' n2 _, _, rfl, machO_f.2 ⟨us, ud, rfl, FlF.back (FlF.set f7 (e6.2.g b2 _ G2) _) E6⟩⟩
/-- spec.Boot -/
def b_spec_Boot : C := (.seq (.ops [⟨(some 1), none, .box (.t 0)⟩, ⟨(some 2), none, .alloc [(i64 0), nils, nils, (i64 0)]⟩])
 (.seq (.ops [q 6 (.ld true 3 (.t 1)), ⟨(some 7), none, .call (.c (.func (.func 41) #[] #[])) [(.t 6)]⟩, q 5 (.mv (.t 7)), q 8 (.ext 0 (.t 5)), q 9 (.ext 1 (.t 5)), ⟨(some 3), none, .alloc [(i64 0), (i64 0), (i64 0), (i64 0), (i64 0), (str []), nils, nils]⟩, ⟨none, none, .st 8 (.t 3) (.t 8)⟩, q 4 (.mv (.t 9))])
 (.seq (.seq (.ops [q 10 (.mv (.t 4)), q 11 (.un .not (.t 10))])
 (.cond (.t 11) (.seq (.ops [q 12 (.build [(i64 0), nils, nils, (i64 0)] [(3, 1, (.c (i64 1)))]), ⟨none, none, .st 4 (.t 2) (.t 12)⟩])
 .ret) .skip))
 (.seq (.dops true (.tk (q 13 (.fld 0 (.t 1))) (.tk (q 14 (.ld false 1 (.t 13))) (.tk (q 15 (.fld 1 (.t 1))) (.tk (q 16 (.ld true 2 (.t 15))) (.tk (q 17 (.ld true 3 (.t 1))) (.tk (q 18 (.ld true 8 (.t 3))) (.sq (⟨(some 19), none, .call (.c (.func (.func 58) #[] #[])) [(.t 17), (.t 18)]⟩) (.sq (⟨(some 20), none, .call (.c (.func (.func 57) #[] #[])) [(.t 16), (.t 19)]⟩) (.tk (q 21 (.part true 0 2 (.t 20))) (.tk (q 22 (.build [(i64 0), nils, nils] [(0, 1, (.t 14)), (1, 2, (.t 21))])) (.tk (q 23 (.build [(i64 0), nils, nils, (i64 0)] [(0, 3, (.t 22))])) (.lt (⟨none, none, .st 4 (.t 2) (.t 23)⟩) .nil)))))))))))))
 .ret))))
theorem w_spec_Boot {args : List Value} {h : H} {Q : Value → H → Prop} (hl : args.length ≤ 24) (hk : wpc Tryz.prog b_spec_Boot (retw [.cell 2 true 4] Q) (argsFr args) h) : AC Tryz.prog 23 args h Q :=
  AC.of_wpc mixedOrders Tryz.func23 (by kernel_rfl) (by kernel_rfl : prepF Tryz.prog Tryz.f23 = some ⟨24, [.cell 2 true 4], b_spec_Boot⟩) hl hk

set_option maxHeartbeats 1600000 in
theorem specBoot_ac {h : H} {cs : List Value} {m : UMach} (hv : RepR h (spMach m) cs) (hs : m.flash.fin1) : AC Tryz.prog 23 [.agg cs.toArray] h fun r h' => Ext h h' ∧ ∃ cs', r = .agg cs'.toArray ∧ RepF h h' (spMachO (bootOut m)) cs' := by
  have hv0 := hv
  obtain ⟨vs, vd, rfl, fr⟩ := mach_r.1 hv
  have o4 := fr.1.one
  have o5 := fr.2.one
  have c4 : vcl vs = [vs] := fr.1.vcl
  have c5 : vcl vd = [vd] := fr.2.vcl
  unfold bootOut
  skip
  refine w_spec_Boot (by simp) ?_
  unfold b_spec_Boot
  simp -implicitDefEqProofs only [go_sem, o4, o5, c4, c5]
  intro b1 hb_b1 n_b1
  simp -implicitDefEqProofs only [go_sem, o4, o5, c4, c5, hb_b1]
  intro b2 hb_b2 m0_b2
  obtain ⟨z_b2_b1, y_b2_b1, n_b2⟩ := fne m0_b2
  simp only [H.set_base] at hb_b2
  simp -implicitDefEqProofs only [go_sem, o4, o5, c4, c5, hb_b1, hb_b2, z_b2_b1, y_b2_b1]
  refine AC_of (l13State_ac (hv0.ext (((Ext.refl _).set' n_b1 _).set' n_b2 _)) hs) ?_
  rintro _ h2 - ⟨e2, cs2, rfl, F2⟩
  have l2 := F2.r.len
  have t2 := take_len l2
  have o2 := F2.r.one
  have g1 := e2.2.g b1 _ (by simp -implicitDefEqProofs only [go_sem, o4, o5, c4, c5, hb_b1, hb_b2, z_b2_b1, y_b2_b1]; rfl)
  have g2 := e2.2.g b2 _ (by simp -implicitDefEqProofs only [go_sem, o4, o5, c4, c5, hb_b1, hb_b2, z_b2_b1, y_b2_b1]; rfl)
  have n2 := n_b2
  have hbb : h2.base ≤ b2 := by rw [e2.1]; simp only [H.set_base]; exact hb_b2
  have E2 := ((((Ext.refl _).set' n_b1 _).set' n_b2 _)).trans e2
  skip
  simp -implicitDefEqProofs only [go_sem, l2, t2, o2, o4, o5, c4, c5]
  intro b3 hb3 n3
  have z31 : (b1 = b3) = False := eq_false fun e => by rw [← e, g1] at n3; cases n3
  have z32 : (b2 = b3) = False := eq_false fun e => by rw [← e, g2] at n3; cases n3
  have y32 : (b3 = b2) = False := eq_false fun e => (of_eq_false z32) e.symm
  have e3 := (Ext.refl h2).set n3 ⟨cs2, 8⟩
  have E3 := E2.trans e3
  have G1 := e3.2.g b1 _ g1
  have G2 := e3.2.g b2 _ g2
  cases hst : stM m with
  | none =>
    simp -implicitDefEqProofs only [go_sem, l2, t2, o2, hb3, z32, y32, stc_get g2, hbb, Option.isSome_none, o4, o5, c4, c5]
    exact ⟨(E2.set' n2 _).set' (E2.none n3) _, _, rfl, mach0_f _ _ _⟩
  | some s =>
    rw [hst] at F2
    simp only [Option.getD_some] at F2
    have hok := stM_ok hst
    have h25 := bootActs_len m hok.2
    simp -implicitDefEqProofs only [go_sem, l2, t2, o2, hb3, z31, ldc_get g1, Option.isSome_some, o4, o5, c4, c5]
    generalize hH : h2.set b3 ⟨cs2, 8⟩ = hS at e3 E3 G1 G2 ⊢
    refine AC_of (l14Boot_ac (hv0.ext E3) hok.1 (F2.r.ext e3) hok.2) ?_
    rintro v6 h6 - ⟨e6, ow⟩
    have E6 := E3.trans e6
    simp -implicitDefEqProofs only [go_sem, e6.2, ow.sl.vcl, o4, o5, c4, c5]
    refine AC_of (l04Do_ac (fr.ext E6) ow.sl hok.1.2.1 (bootActs_ok hok.1 hok.2) (by omega)) ?_
    rintro _ h7 - ⟨e7, us, ud, rfl, f7⟩
    have p1 := f7.1.sl.one
    have p2 := f7.2.1.sl.one
    have g27 := (e6.trans e7).2.g b2 _ G2
    have hb7 : h7.base ≤ b2 := by rw [(e3.trans (e6.trans e7)).1]; exact hbb
    simp -implicitDefEqProofs only [go_sem, (e6.trans e7).2, p1, p2, stc_get g27, hb7, o4, o5, c4, c5]
    exact ⟨(E6.trans e7).set' n2 _, _, rfl, machO_f.2 ⟨us, ud, rfl, FlF.back (FlF.set f7 (e6.2.g b2 _ G2) _) E6⟩⟩
end Go.Proofs.YtiokibikhanfcaaGreat
