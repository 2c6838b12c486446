/- A helper of this seat's claims (contracts of the functions): what it shows is shown for every input that its statements name, on no other condition. -/
import Derived.Test.YtiokibikhanfcaaGreatC13l
import Derived.Test.YtiokibikhanfcaaGreatC04k
import Derived.Test.YtiokibikhanfcaaGreatC12i
import Derived.Test.YtiokibikhanfcaaGreatC13b
set_option linter.unusedVariables false
set_option linter.unusedSimpArgs false
set_option maxRecDepth 100000
namespace Go.Proofs.YtiokibikhanfcaaGreat
open Go.KH

/-! ## What a boot does -/
def saveActs (m : UMach) (s : UState) : List UAct := metaActsOf m.flash (stateB s)
def isFull (m : UMach) (n : Int) : Bool := decide (areaOf m n ≠ [])
def wipe (m : UMach) (n : Int) : UAct := ⟨false, 3 + m.blocks + n, []⟩
def wipes (m : UMach) (l : List Int) : List UAct := (l.filter (isFull m)).map (wipe m)
def syncs (l : List UAct) : List UAct := if 0 < l.length then l ++ [⟨true, 0, []⟩] else l
def loadAt (m : UMach) (s : UState) : Nat := (s.stash + kept (logOf m s)).toNat
def loadActs (m : UMach) (s : UState) : List UAct := syncs (wipes m (s.mine.drop (loadAt m s)))
def hasAt (m : UMach) (n : Int) : Prop := 0 ≤ n ∧ n ≤ (m.flash.sec.length : Int) - 1
instance (m : UMach) (n : Int) : Decidable (hasAt m n) := by unfold hasAt; infer_instance
def noteActs (m : UMach) (s : UState) : List UAct :=
  match noteR (flashGet m.flash 2) s.done with
  | some p => if s.done = 40 ∨ ¬ hasAt m p.1 then [] else [⟨false, p.1, p.2⟩, ⟨true, 0, []⟩] ++ saveActs m { s with done := s.done + 1 }
  | none => []
def bootActs (m : UMach) (s : UState) : List UAct :=
  if s.phase = 2 then loadActs m s
  else if s.phase = 3 then saveActs m { s with phase := 4, tries := 2 }
  else if s.phase = 4 then (if s.tries = 0 then saveActs m ⟨1, 0, 0, 0, 0, [], s.held, []⟩ else saveActs m { s with tries := s.tries - 1 })
  else if s.phase = 5 then noteActs m s else []
def bootActsOut (m : UMach) : List UAct := match stM m with | some s => bootActs m s | none => []
theorem wipes_step {m : UMach} {l : List Int} {k : Nat} (hk : k < l.length) : wipes m (l.take (k + 1)) = wipes m (l.take k) ++ if areaOf m l[k] ≠ [] then [wipe m l[k]] else [] := by
  unfold wipes
  rw [List.take_succ_eq_append_getElem hk, List.filter_append, List.map_append]
  by_cases h : areaOf m l[k] = []
  · simp [isFull, h]
  · simp [isFull, h]
theorem wipes_len (m : UMach) (l : List Int) : (wipes m l).length ≤ l.length := by unfold wipes; rw [List.length_map]; exact List.length_filter_le _ _
theorem saveActs_len (m : UMach) (s : UState) : (saveActs m s).length ≤ 2 := metaActs_len _ _
theorem bootActs_len (m : UMach) {s : UState} (hok : stateOk s) : (bootActs m s).length ≤ 25 := by
  have h24 := (stateOk_log hok).2.2.1
  unfold bootActs
  split
  · unfold loadActs syncs
    have := wipes_len m (s.mine.drop (loadAt m s))
    rw [List.length_drop] at this
    split
    · simp only [List.length_append, List.length_cons, List.length_nil]; omega
    · omega
  · split
    · have := saveActs_len m { s with phase := 4, tries := 2 }; omega
    · split
      · split
        · have := saveActs_len m ⟨1, 0, 0, 0, 0, [], s.held, []⟩; omega
        · have := saveActs_len m { s with tries := s.tries - 1 }; omega
      · split
        · unfold noteActs
          split
          · split
            · simp
            · have := saveActs_len m { s with done := s.done + 1 }
              simp only [List.length_append, List.length_cons, List.length_nil]; omega
          · simp
        · simp
theorem loadAt_le {m : UMach} {s : UState} (hok : stateOk s) : (loadAt m s ≤ s.mine.length ∧ (loadAt m s : Int) = s.stash + kept (logOf m s)) ∧ 0 ≤ s.stash + kept (logOf m s) ∧ s.stash + kept (logOf m s) ≤ s.mine.length := by
  have h1 := kept_le (logOf m s)
  have h2 := stateOk_stash hok
  have h3 := stateOk_log hok
  have h4 := scanN_len (areasOf m (s.mine.drop s.stash.toNat)) 0
  have h5 : (logOf m s).length ≤ s.mine.length - s.stash.toNat := by
    unfold logOf
    unfold areasOf at h4 ⊢
    rw [List.length_map, List.length_drop] at h4
    exact h4
  unfold loadAt
  omega
theorem ok_retry {s : UState} (h : stateOk s) (p : s.phase = 3) : stateOk { s with phase := 4, tries := 2 } := by
  have h5 := h.2.2.2.2
  rw [if_neg (by omega)] at h5
  refine ⟨by simp, h.2.1, h.2.2.1, h.2.2.2.1, ?_⟩
  simp only
  rw [if_neg (by omega)]
  refine ⟨h5.1, h5.2.1, h5.2.2.1, h5.2.2.2.1, by omega, by simp, h5.2.2.2.2.2.2.1, ?_⟩
  have := h5.2.2.2.2.2.2.2
  omega
theorem ok_less {s : UState} (h : stateOk s) (p : s.phase = 4) (p2 : ¬ s.tries = 0) : stateOk { s with tries := s.tries - 1 } := by
  have h5 := h.2.2.2.2
  rw [if_neg (by omega)] at h5
  refine ⟨h.1, h.2.1, h.2.2.1, h.2.2.2.1, ?_⟩
  simp only
  rw [if_neg (by omega)]
  exact ⟨h5.1, h5.2.1, h5.2.2.1, h5.2.2.2.1, by omega, by omega, h5.2.2.2.2.2.2.1, h5.2.2.2.2.2.2.2⟩
theorem ok_more {s : UState} (h : stateOk s) (p : s.phase = 5) (p2 : ¬ s.done = 40) : stateOk { s with done := s.done + 1 } := by
  have h5 := h.2.2.2.2
  rw [if_neg (by omega)] at h5
  refine ⟨h.1, h.2.1, h.2.2.1, h.2.2.2.1, ?_⟩
  simp only
  rw [if_neg (by omega)]
  exact ⟨h5.1, h5.2.1, h5.2.2.1, h5.2.2.2.1, h5.2.2.2.2.1, h5.2.2.2.2.2.1, by omega, by omega⟩
theorem ok_idle {s : UState} (h : stateOk s) : stateOk ⟨1, 0, 0, 0, 0, [], s.held, []⟩ := by
  refine ⟨by simp, h.2.1, ?_, (fun x hx => by cases hx), ?_⟩
  · simp [listOk]
  · simp
theorem ok_done {s : UState} (h : stateOk s) : 0 ≤ s.done ∧ s.done ≤ 40 := by
  have h5 := h.2.2.2.2
  split at h5 <;> omega
theorem ok_tries {s : UState} (h : stateOk s) : 0 ≤ s.tries ∧ s.tries ≤ 2 := by
  have h5 := h.2.2.2.2
  split at h5 <;> omega
theorem ok_small {s : UState} (h : stateOk s) : s.small := by
  have h1 := listOk_le h.2.1
  have h2 := listOk_le h.2.2.1
  unfold UState.small
  omega
theorem actC_len (o : Option (Int × List UInt8)) : (actC o).length = 3 := by cases o <;> rfl
theorem actC_one (o : Option (Int × List UInt8)) : (actC o).all Value.oneCell' = true := by cases o <;> rfl
theorem acts_one (l : List UAct) : (l.map UAct.cells).flatten.all Value.oneCell' = true := by
  induction l with
  | nil => rfl
  | cons a l ih => simp only [List.map_cons, List.flatten_cons, List.all_append, ih, Bool.and_true]; rfl
theorem noteR_in {t : List UInt8} {n : Int} {p : Int × List UInt8} (h : noteR t n = some p) : 0 ≤ p.1 ∧ p.1 ≤ 39 := by
  unfold noteR at h
  split at h
  · simp only at h
    split at h
    · rename_i hc
      simp only [Option.some.injEq] at h
      rw [← h]
      simp only
      omega
    · cases h
  · cases h
theorem setSub {h h' : H} {b : Nat} {x : Ob} (e : Ext h h') (g : h.get b = some x) (g' : h'.get b = some x) (z : Ob) : Sub (h.set b z) (h'.set b z) := ⟨fun c ob hc => by
  by_cases hcb : c = b
  · subst hcb; rw [H.set_get_same] at hc ⊢; exact hc
  · rw [H.set_get_ne _ _ _ _ hcb] at hc ⊢; exact e.2.1 c ob hc, e.2.2⟩
theorem mach_two {m : UMach} (hf : machFit m) : 2 ≤ m.flash.sec.length := by have := hf.2.2; have := hf.1; omega
/-- (impl.Machine).save -/
def b_impl_Machine_save : C := (.seq (.ops [⟨(some 2), none, .box (.t 0)⟩, ⟨(some 3), none, .box (.t 1)⟩, q 4 (.mv (.c nils))])
 (.seq (.dops true (.tk (q 5 (.fld 1 (.t 2))) (.tk (q 6 (.ld true 2 (.t 5))) (.tk (q 7 (.ld true 8 (.t 3))) (.sq (⟨(some 8), none, .call (.c (.func (.func 181) #[] #[])) [(.t 7)]⟩) (.sq (⟨(some 9), none, .call (.c (.func (.func 180) #[] #[])) [(.t 6), (.t 8)]⟩) (.tk (q 4 (.mv (.t 9))) .nil)))))))
 .ret))
theorem w_impl_Machine_save {args : List Value} {h : H} {Q : Value → H → Prop} (hl : args.length ≤ 10) (hk : wpc Tryz.prog b_impl_Machine_save (retw [.tmp 4] Q) (argsFr args) h) : AC Tryz.prog 116 args h Q :=
  AC.of_wpc mixedOrders Tryz.func116 (by kernel_rfl) (by kernel_rfl : prepF Tryz.prog Tryz.f116 = some ⟨10, [.tmp 4], b_impl_Machine_save⟩) hl hk

theorem save_ac {h : H} {cs c2 : List Value} {m : UMach} {s : UState} (hv : RepR h (spMach m) cs) (hf : machFit m) (hst : StR h c2 s) (hok : stateOk s) : AC Tryz.prog 116 [.agg cs.toArray, .agg c2.toArray] h fun r h' => Ext h h' ∧ Own h h' r 3 ((saveActs m s).map UAct.cells) := by
  obtain ⟨vs, vd, rfl, fr⟩ := mach_r.1 hv
  obtain ⟨uh, um, rfl, sh, sm⟩ := hst
  have o4 := fr.1.one
  have o5 := fr.2.one
  have c4 : vcl vs = [vs] := fr.1.vcl
  have c5 : vcl vd = [vd] := fr.2.vcl
  have o6 := sh.vcl
  have o7 := sm.vcl
  have o8 := sh.one
  have o9 := sm.one
  have h46 := stateB_46 hok
  skip
  refine w_impl_Machine_save (by simp) ?_
  unfold b_impl_Machine_save
  simp -implicitDefEqProofs only [go_sem, o4, o5, c4, c5, o6, o7, o8, o9]
  intro b2 hb_b2 n_b2
  simp -implicitDefEqProofs only [go_sem, o4, o5, c4, c5, o6, o7, o8, o9, hb_b2]
  intro b3 hb_b3 m0_b3
  obtain ⟨z_b3_b2, y_b3_b2, n_b3⟩ := fne m0_b3
  simp only [H.set_base] at hb_b3
  simp -implicitDefEqProofs only [go_sem, o4, o5, c4, c5, o6, o7, o8, o9, hb_b2, hb_b3, z_b3_b2, y_b3_b2]
  refine (stateBytes_pc s (sh.ext (((Ext.refl _).set' n_b2 _).set' n_b3 _)) (sm.ext (((Ext.refl _).set' n_b2 _).set' n_b3 _)) hok).use ?_
  simp -implicitDefEqProofs only [go_sem, Sub.refl, o4, o5, c4, c5, o6, o7, o8, o9, hb_b2, hb_b3, z_b3_b2, y_b3_b2]
  refine AC_of (metaActs_ac (fr.ext (((Ext.refl _).set' n_b2 _).set' n_b3 _)) hf.2.1 (mach_two hf) (by omega)) ?_
  rintro v5 h5 - ⟨e5, ow⟩
  simp -implicitDefEqProofs only [go_sem, e5.2, ow.sl.vcl, o4, o5, c4, c5, o6, o7, o8, o9, hb_b2, hb_b3, z_b3_b2, y_b3_b2]
  exact ⟨((((Ext.refl _).set' n_b2 _).set' n_b3 _)).trans e5, ow.back (((Ext.refl _).set' n_b2 _).set' n_b3 _)⟩
/-- spec.l14Keep -/
def b_spec_l14Keep : C := (.seq (.ops [⟨(some 2), none, .box (.t 0)⟩, ⟨(some 3), none, .box (.t 1)⟩, q 4 (.mv (.c nils))])
 (.seq (.dops true (.tk (q 5 (.fld 1 (.t 2))) (.tk (q 6 (.ld true 2 (.t 5))) (.tk (q 7 (.ld true 8 (.t 3))) (.sq (⟨(some 8), none, .call (.c (.func (.func 175) #[] #[])) [(.t 7)]⟩) (.sq (⟨(some 9), none, .call (.c (.func (.func 174) #[] #[])) [(.t 6), (.t 8)]⟩) (.tk (q 4 (.mv (.t 9))) .nil)))))))
 .ret))
theorem w_spec_l14Keep {args : List Value} {h : H} {Q : Value → H → Prop} (hl : args.length ≤ 10) (hk : wpc Tryz.prog b_spec_l14Keep (retw [.tmp 4] Q) (argsFr args) h) : AC Tryz.prog 107 args h Q :=
  AC.of_wpc mixedOrders Tryz.func107 (by kernel_rfl) (by kernel_rfl : prepF Tryz.prog Tryz.f107 = some ⟨10, [.tmp 4], b_spec_l14Keep⟩) hl hk

theorem l14Keep_ac {h : H} {cs c2 : List Value} {m : UMach} {s : UState} (hv : RepR h (spMach m) cs) (hf : machFit m) (hst : StR h c2 s) (hok : stateOk s) : AC Tryz.prog 107 [.agg cs.toArray, .agg c2.toArray] h fun r h' => Ext h h' ∧ Own h h' r 3 ((saveActs m s).map UAct.cells) := by
  obtain ⟨vs, vd, rfl, fr⟩ := mach_r.1 hv
  obtain ⟨uh, um, rfl, sh, sm⟩ := hst
  have o4 := fr.1.one
  have o5 := fr.2.one
  have c4 : vcl vs = [vs] := fr.1.vcl
  have c5 : vcl vd = [vd] := fr.2.vcl
  have o6 := sh.vcl
  have o7 := sm.vcl
  have o8 := sh.one
  have o9 := sm.one
  have h46 := stateB_46 hok
  skip
  refine w_spec_l14Keep (by simp) ?_
  unfold b_spec_l14Keep
  simp -implicitDefEqProofs only [go_sem, o4, o5, c4, c5, o6, o7, o8, o9]
  intro b2 hb_b2 n_b2
  simp -implicitDefEqProofs only [go_sem, o4, o5, c4, c5, o6, o7, o8, o9, hb_b2]
  intro b3 hb_b3 m0_b3
  obtain ⟨z_b3_b2, y_b3_b2, n_b3⟩ := fne m0_b3
  simp only [H.set_base] at hb_b3
  simp -implicitDefEqProofs only [go_sem, o4, o5, c4, c5, o6, o7, o8, o9, hb_b2, hb_b3, z_b3_b2, y_b3_b2]
  refine (l12Bytes_pc s (sh.ext (((Ext.refl _).set' n_b2 _).set' n_b3 _)) (sm.ext (((Ext.refl _).set' n_b2 _).set' n_b3 _)) hok).use ?_
  simp -implicitDefEqProofs only [go_sem, Sub.refl, o4, o5, c4, c5, o6, o7, o8, o9, hb_b2, hb_b3, z_b3_b2, y_b3_b2]
  refine AC_of (l04Acts_ac (fr.ext (((Ext.refl _).set' n_b2 _).set' n_b3 _)) hf.2.1 (mach_two hf) (by omega)) ?_
  rintro v5 h5 - ⟨e5, ow⟩
  simp -implicitDefEqProofs only [go_sem, e5.2, ow.sl.vcl, o4, o5, c4, c5, o6, o7, o8, o9, hb_b2, hb_b3, z_b3_b2, y_b3_b2]
  exact ⟨((((Ext.refl _).set' n_b2 _).set' n_b3 _)).trans e5, ow.back (((Ext.refl _).set' n_b2 _).set' n_b3 _)⟩
/-- (impl.Machine).bootActs -/
def b_impl_Machine_bootActs : C := (.seq (.ops [⟨(some 2), none, .box (.t 0)⟩, ⟨(some 3), none, .box (.t 1)⟩, q 4 (.mv (.c nils))])
 (.seq (.seq (.ops [q 9 (.fld 0 (.t 3)), q 10 (.ld false 1 (.t 9))])
 (.block 0 (.seq (.ops [q 12 (.bin .eql (.t 10) (.c (i64 2))), q 11 (.mv (.t 12))])
 (.cond (.t 11) (.seq (.ops [q 5 (.mv (.c nils))])
 (.seq (.seq (.dops true (.tk (q 13 (.fld 7 (.t 3))) (.tk (q 14 (.ld false 1 (.t 13))) (.tk (q 15 (.fld 3 (.t 3))) (.tk (q 16 (.ld false 1 (.t 15))) (.tk (q 17 (.ld true 3 (.t 2))) (.tk (q 18 (.ld true 8 (.t 3))) (.tk (q 24 (.mv (.c (i64 0)))) (.sq (⟨(some 19), none, .call (.c (.func (.func 88) #[] #[])) [(.t 17), (.t 18)]⟩) (.sq (⟨(some 20), none, .call (.c (.func (.func 113) #[] #[])) [(.t 19)]⟩) (.tk (q 21 (.bin .add (.t 16) (.t 20))) (.tk (q 22 (.lsl 1 (.t 14) (some (.t 21)) none)) (.tk (q 23 (.len (.t 22))) .nil)))))))))))))
 (.block 1 (.loop (.seq (.ops [q 25 (.bin .lss (.t 24) (.t 23))])
 (.seq (.cond (.t 25) .skip (.exit 1))
 (.seq (.block 2 (.seq (.ops [q 26 (.idx 1 (.t 22) (.t 24)), q 27 (.ld false 1 (.t 26)), q 7 (.mv (.t 27))])
 (.seq (.ops [q 28 (.ld true 3 (.t 2)), q 29 (.mv (.t 7)), ⟨(some 30), none, .call (.c (.func (.func 114) #[] #[])) [(.t 28), (.t 29)]⟩, q 31 (.bin .neq (.t 30) (.c (str [])))])
 (.cond (.t 31) (.ops [q 32 (.mv (.t 5)), q 33 (.ld true 3 (.t 2)), q 34 (.mv (.t 7)), ⟨(some 35), none, .call (.c (.func (.func 115) #[] #[])) [(.t 33), (.t 34)]⟩, q 36 (.build [(.bool false), (i64 0), (str [])] [(1, 1, (.t 35))]), ⟨(some 37), none, .bsl 1 [(.bool false), (i64 0), (str [])] [(0, 3, (.t 36))]⟩, ⟨(some 38), none, .app 3 32 (.t 32) (.t 37)⟩, q 5 (.mv (.t 38))]) .skip))))
 (.ops [q 39 (.bin .add (.t 24) (.c (i64 1))), q 24 (.mv (.t 39))])))))))
 (.seq (.seq (.ops [q 40 (.mv (.t 5)), q 41 (.len (.t 40)), q 42 (.bin .gtr (.t 41) (.c (i64 0)))])
 (.cond (.t 42) (.ops [q 43 (.mv (.t 5)), q 44 (.build [(.bool false), (i64 0), (str [])] [(0, 1, (.c (.bool true)))]), ⟨(some 45), none, .bsl 1 [(.bool false), (i64 0), (str [])] [(0, 3, (.t 44))]⟩, ⟨(some 46), none, .app 3 32 (.t 43) (.t 45)⟩, q 5 (.mv (.t 46))]) .skip))
 (.seq (.ops [q 47 (.mv (.t 5)), q 4 (.mv (.t 47))])
 .ret)))) (.seq (.ops [q 49 (.bin .eql (.t 10) (.c (i64 3))), q 48 (.mv (.t 49))])
 (.cond (.t 48) (.seq (.ops [q 50 (.fld 0 (.t 3)), ⟨none, none, .st 1 (.t 50) (.c (i64 4))⟩, q 51 (.fld 1 (.t 3)), ⟨none, none, .st 1 (.t 51) (.c (i64 2))⟩])
 (.seq (.ops [q 52 (.ld true 3 (.t 2)), q 53 (.ld true 8 (.t 3)), ⟨(some 54), none, .call (.c (.func (.func 116) #[] #[])) [(.t 52), (.t 53)]⟩, q 4 (.mv (.t 54))])
 .ret)) (.seq (.ops [q 56 (.bin .eql (.t 10) (.c (i64 4))), q 55 (.mv (.t 56))])
 (.cond (.t 55) (.seq (.seq (.ops [q 57 (.fld 1 (.t 3)), q 58 (.ld false 1 (.t 57)), q 59 (.bin .eql (.t 58) (.c (i64 0)))])
 (.cond (.t 59) (.seq (.dops true (.tk (q 60 (.ld true 3 (.t 2))) (.tk (q 61 (.ld true 8 (.t 3))) (.sq (⟨(some 62), none, .call (.c (.func (.func 117) #[] #[])) [(.t 61)]⟩) (.sq (⟨(some 63), none, .call (.c (.func (.func 116) #[] #[])) [(.t 60), (.t 62)]⟩) (.tk (q 4 (.mv (.t 63))) .nil))))))
 .ret) .skip))
 (.seq (.ops [q 64 (.fld 1 (.t 3)), q 65 (.ld false 1 (.t 64)), q 66 (.bin .sub (.t 65) (.c (i64 1))), q 67 (.fld 1 (.t 3)), ⟨none, none, .st 1 (.t 67) (.t 66)⟩])
 (.seq (.ops [q 68 (.ld true 3 (.t 2)), q 69 (.ld true 8 (.t 3)), ⟨(some 70), none, .call (.c (.func (.func 116) #[] #[])) [(.t 68), (.t 69)]⟩, q 4 (.mv (.t 70))])
 .ret))) (.seq (.ops [q 72 (.bin .eql (.t 10) (.c (i64 5))), q 71 (.mv (.t 72))])
 (.cond (.t 71) (.seq (.dops true (.tk (q 73 (.fld 1 (.t 2))) (.tk (q 74 (.ld true 2 (.t 73))) (.tk (q 76 (.fld 4 (.t 3))) (.tk (q 77 (.ld false 1 (.t 76))) (.alt (⟨(some 75), none, .call (.c (.func (.func 99) #[] #[])) [(.t 74), (.c (i64 2))]⟩) (.alt (⟨(some 78), none, .call (.c (.func (.func 118) #[] #[])) [(.t 75), (.t 77)]⟩) (.sq (⟨(some 8), none, .alloc [(.bool false), (i64 0), (str [])]⟩) (.lt (⟨none, none, .st 3 (.t 8) (.t 78)⟩) .nil)) (⟨(some 8), none, .alloc [(.bool false), (i64 0), (str [])]⟩) (.sq (⟨(some 78), none, .call (.c (.func (.func 118) #[] #[])) [(.t 75), (.t 77)]⟩) (.lt (⟨none, none, .st 3 (.t 8) (.t 78)⟩) .nil))) (⟨(some 8), none, .alloc [(.bool false), (i64 0), (str [])]⟩) (.sq (⟨(some 75), none, .call (.c (.func (.func 99) #[] #[])) [(.t 74), (.c (i64 2))]⟩) (.sq (⟨(some 78), none, .call (.c (.func (.func 118) #[] #[])) [(.t 75), (.t 77)]⟩) (.lt (⟨none, none, .st 3 (.t 8) (.t 78)⟩) .nil)))))))))
 (.seq (.seq (.ops [q 79 (.fld 0 (.t 8)), q 80 (.ld false 1 (.t 79)), q 81 (.mv (.t 80)), qg 82 81 false (.fld 4 (.t 3)), qg 83 81 false (.ld false 1 (.t 82)), qg 84 81 false (.bin .eql (.t 83) (.c (i64 40))), q 85 (.pick (.t 81) (.c (.bool true)) (.t 84)), q 86 (.mv (.t 85)), qg 87 86 false (.fld 1 (.t 2)), qg 88 86 false (.ld true 2 (.t 87)), qg 89 86 false (.fld 1 (.t 8)), qg 90 86 false (.ld false 1 (.t 89)), ⟨(some 91), (some (86, false)), .call (.c (.func (.func 119) #[] #[])) [(.t 88), (.t 90)]⟩, qg 92 86 false (.un .not (.t 91)), q 93 (.pick (.t 86) (.c (.bool true)) (.t 92))])
 (.cond (.t 93) (.seq (.ops [q 4 (.mv (.c nils))])
 .ret) .skip))
 (.seq (.ops [q 94 (.fld 4 (.t 3)), q 95 (.ld false 1 (.t 94)), q 96 (.bin .add (.t 95) (.c (i64 1))), q 97 (.fld 4 (.t 3)), ⟨none, none, .st 1 (.t 97) (.t 96)⟩])
 (.seq (.dops true (.tk (q 98 (.ld true 3 (.t 8))) (.tk (q 99 (.build [(.bool false), (i64 0), (str [])] [(0, 1, (.c (.bool true)))])) (.tk (q 101 (.ld true 3 (.t 2))) (.tk (q 102 (.ld true 8 (.t 3))) (.alt (⟨(some 100), none, .bsl 2 [(.bool false), (i64 0), (str []), (.bool false), (i64 0), (str [])] [(0, 3, (.t 98)), (3, 3, (.t 99))]⟩) (.sq (⟨(some 103), none, .call (.c (.func (.func 116) #[] #[])) [(.t 101), (.t 102)]⟩) (.lt (⟨(some 104), none, .app 3 32 (.t 100) (.t 103)⟩) (.tk (q 4 (.mv (.t 104))) .nil))) (⟨(some 103), none, .call (.c (.func (.func 116) #[] #[])) [(.t 101), (.t 102)]⟩) (.sq (⟨(some 100), none, .bsl 2 [(.bool false), (i64 0), (str []), (.bool false), (i64 0), (str [])] [(0, 3, (.t 98)), (3, 3, (.t 99))]⟩) (.lt (⟨(some 104), none, .app 3 32 (.t 100) (.t 103)⟩) (.tk (q 4 (.mv (.t 104))) .nil)))))))))
 .ret)))) .skip))))))))))
 (.seq (.ops [q 4 (.mv (.c nils))])
 .ret)))
theorem w_impl_Machine_bootActs {args : List Value} {h : H} {Q : Value → H → Prop} (hl : args.length ≤ 105) (hk : wpc Tryz.prog b_impl_Machine_bootActs (retw [.tmp 4] Q) (argsFr args) h) : AC Tryz.prog 60 args h Q :=
  AC.of_wpc mixedOrders Tryz.func60 (by kernel_rfl) (by kernel_rfl : prepF Tryz.prog Tryz.f60 = some ⟨105, [.tmp 4], b_impl_Machine_bootActs⟩) hl hk

set_option maxHeartbeats 3200000 in
theorem bootActs_ac {h : H} {cs c2 : List Value} {m : UMach} {s : UState} (hv : RepR h (spMach m) cs) (hf : machFit m) (hst : StR h c2 s) (hok : stateOk s) : AC Tryz.prog 60 [.agg cs.toArray, .agg c2.toArray] h fun r h' => Ext h h' ∧ Own h h' r 3 ((bootActs m s).map UAct.cells) := by
  have hv0 := hv
  have hst0 := hst
  have h20 := logOf_len m hok
  have hL := stateOk_log hok
  have hla := loadAt_le (m := m) hok
  have hdn := ok_done hok
  have htr := ok_tries hok
  have hd := flashOk_small hf.2.1
  have h27 := hf.2.2
  have hb := hf.1
  obtain ⟨vs, vd, rfl, fr⟩ := mach_r.1 hv
  have o4 := fr.1.one
  have o5 := fr.2.one
  have c4 : vcl vs = [vs] := fr.1.vcl
  have c5 : vcl vd = [vd] := fr.2.vcl
  obtain ⟨uh, um, rfl, sh, sm⟩ := hst
  have o6 := sh.vcl
  have o7 := sm.vcl
  have o8 := sh.one
  have o9 := sm.one
  skip
  refine w_impl_Machine_bootActs (by simp) ?_
  unfold b_impl_Machine_bootActs
  refine wpc_cut (fun f1 h1 => ∃ b2 b3, f1 2 = ptr b2 0 ∧ f1 3 = ptr b3 0 ∧ h1.get b2 = some ⟨[i64 m.blocks, vs, vd], 3⟩ ∧ h1.get b3 = some ⟨s.cells uh um, 8⟩ ∧ h1.base ≤ b3 ∧ h.get b3 = none ∧ b2 ≠ b3 ∧ Ext h h1) ?_ ?_
  · simp -implicitDefEqProofs only [go_sem, o4, o5, c4, c5, o6, o7, o8, o9]
    intro b2 hb_b2 n_b2
    simp -implicitDefEqProofs only [go_sem, o4, o5, c4, c5, o6, o7, o8, o9, hb_b2]
    intro b3 hb_b3 m0_b3
    obtain ⟨z_b3_b2, y_b3_b2, n_b3⟩ := fne m0_b3
    simp only [H.set_base] at hb_b3
    simp -implicitDefEqProofs only [go_sem, o4, o5, c4, c5, o6, o7, o8, o9, hb_b2, hb_b3, z_b3_b2, y_b3_b2]
    exact ⟨b2, b3, rfl, rfl, by simp -implicitDefEqProofs only [go_sem, o4, o5, c4, c5, o6, o7, o8, o9, hb_b2, hb_b3, z_b3_b2, y_b3_b2], by simp -implicitDefEqProofs only [go_sem, o4, o5, c4, c5, o6, o7, o8, o9, hb_b2, hb_b3, z_b3_b2, y_b3_b2], hb_b3, n_b3, of_eq_false y_b3_b2, (((Ext.refl _).set' n_b2 _).set' n_b3 _)⟩
  skip
  rintro f1 hS ⟨b2, b3, q2, q3, g2, g3, hb3, n3, hne, E0⟩
  have hvS := hv0.ext E0
  have stS := hst0.ext E0
  have frS := fr.ext E0
  have hne' : (b2 = b3) = False := eq_false hne
  have eT := fun x => E0.set' n3 x
  have back : ∀ {hT h' : H} {r : Value} {l : List UAct}, Ext h hT → Ext hT h' ∧ Own hT h' r 3 (l.map UAct.cells) → Ext h h' ∧ Own h h' r 3 (l.map UAct.cells) := fun e k => ⟨e.trans k.1, k.2.back e⟩
  unfold bootActs
  by_cases p2 : s.phase = 2
  · rw [if_pos p2]
    have P2 := eq_true p2
    obtain ⟨L, hLd⟩ : ∃ L, L = s.mine.drop (loadAt m s) := ⟨_, rfl⟩
    have lL : L.length = s.mine.length - loadAt m s := by rw [hLd]; simp
    have hmem : ∀ x ∈ L, 0 ≤ x ∧ x ≤ 23 := fun x hx => hL.2.2.2 x (by rw [hLd] at hx; exact List.mem_of_mem_drop hx)
    unfold loadActs
    rw [← hLd]
    have l2 : (ints s.mine).length = s.mine.length := by simp
    have hsh := sm.shape
    rw [l2] at hsh
    obtain ⟨am, cm, rfl⟩ := hsh
    have sp := sm.part (show loadAt m s ≤ s.mine.length from hla.1.1) (Nat.le_refl _)
    have hdr : ((ints s.mine).take s.mine.length).drop (loadAt m s) = ints L := by rw [← l2, List.take_length, hLd]; simp
    rw [hdr, ← lL] at sp
    simp -implicitDefEqProofs only [go_sem, q2, q3, ldc_get g2, ldc_get g3, P2, o4, o5, c4, c5, o6, o7, o8, o9]
    refine AC_of (log_ac hvS hf stS hok) ?_
    rintro v5 h5 - ⟨e5, f5⟩
    refine ⟨e5.2, ?_⟩
    simp -implicitDefEqProofs only [go_sem, f5.sl.vcl, o4, o5, c4, c5, o6, o7, o8, o9]
    refine (keptOf_pc f5.sl (by omega)).use ?_
    refine ⟨e5.2, ?_⟩
    simp -implicitDefEqProofs only [go_sem, wrap_i64 (show -(9223372036854775808 : Int) ≤ (s.stash + kept (logOf m s)) by omega) (show (s.stash + kept (logOf m s)) < 9223372036854775808 by omega), show 0 ≤ s.stash + kept (logOf m s) ∧ s.stash + kept (logOf m s) ≤ (s.mine.length : Int) from hla.2, show (s.stash + kept (logOf m s)).toNat = loadAt m s from rfl, ← lL, o4, o5, c4, c5, o6, o7, o8, o9]
    obtain ⟨asl, hasl⟩ : ∃ a, a = (if cm = loadAt m s then am else am.map (·.add (loadAt m s * 1))) := ⟨_, rfl⟩
    obtain ⟨csl, hcsl⟩ : ∃ a, a = cm - loadAt m s := ⟨_, rfl⟩
    rw [← hasl, ← hcsl] at sp ⊢
    have E5 := E0.trans e5
    have G2 := e5.2.g b2 _ g2
    have d1 := sp.ext E5
    obtain ⟨_, _, b, o, e, hcap, r2, r3⟩ := d1
    simp only [Value.slice.injEq, List.length_map] at e r2
    have hv5 := hv0.ext E5
    have sum := hla.2
    refine loopW_of (fun n f h' => ∃ (k : Nat) (w : Value), n + k = L.length ∧ f 2 = ptr b2 0 ∧ f 22 = .slice asl L.length csl ∧ f 23 = i64 L.length ∧ f 24 = i64 k ∧ f 5 = w ∧ Ext h5 h' ∧ Own h5 h' w 3 ((wipes m (L.take k)).map UAct.cells)) L.length
      ⟨0, nils, by simp, by simp -implicitDefEqProofs only [go_sem, q2, o4, o5, c4, c5, o6, o7, o8, o9], by simp -implicitDefEqProofs only [go_sem, o4, o5, c4, c5, o6, o7, o8, o9], by simp -implicitDefEqProofs only [go_sem, o4, o5, c4, c5, o6, o7, o8, o9], by simp -implicitDefEqProofs only [go_sem, o4, o5, c4, c5, o6, o7, o8, o9]; rfl, by simp -implicitDefEqProofs only [go_sem, o4, o5, c4, c5, o6, o7, o8, o9], Ext.refl _, Own.nil _ _ _⟩ ?_
    rintro n f h' ⟨k, w, hn, f2, f22, f23, f24, f5', he, ho⟩
    obtain ⟨aw, cw, rfl⟩ := ho.shape
    rw [List.length_map] at ho f5'
    have wl := wipes_len m (L.take k)
    rw [List.length_take] at wl
    have GG := he.2.g b2 _ G2
    by_cases hk : k < L.length
    · have e1 := ldc_sub he.2 (r3 k [i64 L[k]] (by simp [hk]))
      have hx := hmem _ (List.getElem_mem hk)
      have ws := wipes_step (m := m) hk
      simp -implicitDefEqProofs only [go_sem, f2, f22, f23, f24, f5', Int.ofNat_lt, Int.natCast_nonneg, ldc_get GG, hk, e1, r2, o4, o5, c4, c5, o6, o7, o8, o9]
      refine (area_pc (hv5.ext he) hf hx).use ?_
      by_cases hx0 : areaOf m L[k] = []
      · rw [if_neg (by simpa using hx0), List.append_nil] at ws
        simp -implicitDefEqProofs only [go_sem, f2, f22, f23, f24, f5', hx0, wrap_i64 (show -(9223372036854775808 : Int) ≤ ((k : Int) + 1) by omega) (show ((k : Int) + 1) < 9223372036854775808 by omega), o4, o5, c4, c5, o6, o7, o8, o9]
        exact ⟨n - 1, by omega, h', Ext.refl _, k + 1, _, by omega, rfl, rfl, he, by rw [ws]; exact ho⟩
      · rw [if_pos hx0] at ws
        simp -implicitDefEqProofs only [go_sem, f2, f22, f23, f24, f5', hx0, ldc_get GG, o4, o5, c4, c5, o6, o7, o8, o9]
        refine (areaAt_pc (hv5.ext he) hb (by omega)).use ?_
        simp -implicitDefEqProofs only [go_sem, f2, f22, f23, f24, f5', o4, o5, c4, c5, o6, o7, o8, o9]
        intro b8 hb8 n8
        simp -implicitDefEqProofs only [go_sem, f2, f22, f23, f24, f5', o4, o5, c4, c5, o6, o7, o8, o9]
        refine appW_own (new := [[.bool false, i64 (3 + m.blocks + L[k]), str []]]) (he.set n8 _) (ho.ext ((Ext.refl _).set n8 _)) rfl (by intro r hr; simp at hr; subst hr; rfl) rfl (by rw [List.length_map]; show ((wipes m (L.take k)).length + 1) * 32 ≤ _; omega) ?_
        intro v' h'' he2 ho2 _
        simp -implicitDefEqProofs only [go_sem, f2, f22, f23, f24, wrap_i64 (show -(9223372036854775808 : Int) ≤ ((k : Int) + 1) by omega) (show ((k : Int) + 1) < 9223372036854775808 by omega), o4, o5, c4, c5, o6, o7, o8, o9]
        exact ⟨n - 1, by omega, h'', Ext.refl _, k + 1, v', by omega, rfl, rfl, he2, by rw [ws, List.map_append]; exact ho2⟩
    · have e : k = L.length := by omega
      subst e
      rw [List.take_length] at ho f5' wl
      unfold syncs
      have EH := E5.trans he
      by_cases h0 : 0 < (wipes m L).length
      · rw [if_pos h0]
        simp -implicitDefEqProofs only [go_sem, f2, f22, f23, f24, f5', Nat.lt_irrefl, show (0 : Int) < ((wipes m L).length : Int) by omega, Int.lt_irrefl, o4, o5, c4, c5, o6, o7, o8, o9]
        intro b8 hb8 n8
        simp -implicitDefEqProofs only [go_sem, f5', o4, o5, c4, c5, o6, o7, o8, o9]
        refine appW_own (new := [[.bool true, i64 0, str []]]) (he.set n8 _) (ho.ext ((Ext.refl _).set n8 _)) rfl (by intro r hr; simp at hr; subst hr; rfl) rfl (by rw [List.length_map]; show ((wipes m L).length + 1) * 32 ≤ _; omega) ?_
        intro v' h'' he2 ho2 _
        simp -implicitDefEqProofs only [go_sem, ho2.sl.vcl, o4, o5, c4, c5, o6, o7, o8, o9]
        exact ⟨E5.trans he2, by rw [List.map_append]; exact ho2.back E5⟩
      · rw [if_neg h0]
        simp -implicitDefEqProofs only [go_sem, f2, f22, f23, f24, f5', Nat.lt_irrefl, show ¬ (0 : Int) < ((wipes m L).length : Int) by omega, Int.lt_irrefl, ho.sl.vcl, o4, o5, c4, c5, o6, o7, o8, o9]
        exact ⟨EH, ho.back E5⟩
  rw [if_neg p2]
  have P2 := eq_false p2
  by_cases p3 : s.phase = 3
  · rw [if_pos p3]
    have P3 := eq_true p3
    simp -implicitDefEqProofs only [go_sem, q2, q3, ldc_get g2, ldc_get g3, stc_get g3, hb3, P2, P3, hne', o4, o5, c4, c5, o6, o7, o8, o9]
    refine AC_of (save_ac (s := { s with phase := 4, tries := 2 }) (hv0.ext (eT _)) hf ⟨uh, um, rfl, sh.ext (eT _), sm.ext (eT _)⟩ (ok_retry hok p3)) ?_
    rintro v5 h5 - k5
    simp -implicitDefEqProofs only [go_sem, k5.2.sl.vcl, o4, o5, c4, c5, o6, o7, o8, o9]
    exact back (eT _) k5
  rw [if_neg p3]
  have P3 := eq_false p3
  by_cases p4 : s.phase = 4
  · rw [if_pos p4]
    have P4 := eq_true p4
    simp -implicitDefEqProofs only [go_sem, q2, q3, ldc_get g2, ldc_get g3, stc_get g3, hb3, P2, P3, P4, hne', o4, o5, c4, c5, o6, o7, o8, o9]
    refine Br.of (fun ht => ?_) (fun ht => ?_)
    · rw [if_pos ht]
      simp -implicitDefEqProofs only [go_sem, q2, q3, ldc_get g2, ldc_get g3, o4, o5, c4, c5, o6, o7, o8, o9]
      refine AC_of (stateIdle_ac stS (ok_small hok)) ?_
      rintro _ h5 - ⟨e5, cI, rfl, F5⟩
      refine ⟨e5.2, ?_⟩
      simp -implicitDefEqProofs only [go_sem, F5.r.len, F5.r.one, o4, o5, c4, c5, o6, o7, o8, o9]
      refine AC_of (save_ac (hvS.ext e5) hf F5.r (ok_idle hok)) ?_
      rintro v6 h6 - k6
      refine ⟨(e5.trans k6.1).2, ?_⟩
      simp -implicitDefEqProofs only [go_sem, k6.2.sl.vcl, o4, o5, c4, c5, o6, o7, o8, o9]
      exact back (E0.trans e5) k6
    · rw [if_neg ht]
      simp -implicitDefEqProofs only [go_sem, q2, q3, ldc_get g2, ldc_get g3, stc_get g3, hb3, hne', wrap_i64 (show -(9223372036854775808 : Int) ≤ (s.tries - 1) by omega) (show (s.tries - 1) < 9223372036854775808 by omega), o4, o5, c4, c5, o6, o7, o8, o9]
      refine AC_of (save_ac (s := { s with tries := s.tries - 1 }) (hv0.ext (eT _)) hf ⟨uh, um, rfl, sh.ext (eT _), sm.ext (eT _)⟩ (ok_less hok p4 ht)) ?_
      rintro v5 h5 - k5
      simp -implicitDefEqProofs only [go_sem, k5.2.sl.vcl, o4, o5, c4, c5, o6, o7, o8, o9]
      exact back (eT _) k5
  rw [if_neg p4]
  have P4 := eq_false p4
  by_cases p5 : s.phase = 5
  · rw [if_pos p5]
    simp -implicitDefEqProofs only [go_sem, q2, q3, ldc_get g2, ldc_get g3, stc_get g3, hb3, P2, P3, P4, o4, o5, c4, c5, o6, o7, o8, o9]
    refine Br.of (fun _ => ?_) (fun h => absurd p5 h)
    unfold noteActs
    have al := actC_len (noteR (flashGet m.flash 2) s.done)
    have ao := actC_one (noteR (flashGet m.flash 2) s.done)
    have at_ := take_len al
    have h96 := flashGet_len hf.2.1 2
    refine wpc_cut (fun f3 h3 => ∃ b8, f3 2 = ptr b2 0 ∧ f3 3 = ptr b3 0 ∧ f3 8 = ptr b8 0 ∧ h3.get b8 = some ⟨actC (noteR (flashGet m.flash 2) s.done), 3⟩ ∧ hS.get b8 = none ∧ Ext hS h3) ?_ ?_
    · simp -implicitDefEqProofs only [go_sem, q2, q3, ldc_get g2, ldc_get g3, o4, o5, c4, c5, o6, o7, o8, o9]
      refine ⟨?_, ?_⟩
      · refine (read_pc frS (by omega) (by omega)).use ?_
        simp -implicitDefEqProofs only [go_sem, Sub.refl, o4, o5, c4, c5, o6, o7, o8, o9]
        refine ⟨?_, ?_⟩
        · refine (noteR_pc _ _ _ (by omega)).use ?_
          simp -implicitDefEqProofs only [go_sem, Sub.refl, o4, o5, c4, c5, o6, o7, o8, o9]
          intro b8 hb8 n8
          have e8 := (Ext.refl hS).set n8 ⟨[.bool false, i64 0, str []], 3⟩
          refine ⟨e8.2, ?_⟩
          simp -implicitDefEqProofs only [go_sem, hb8, al, ao, at_, q2, q3, o4, o5, c4, c5, o6, o7, o8, o9]
          exact ⟨b8, rfl, by rw [if_pos rfl], n8, (Ext.refl hS).set n8 _⟩
        · intro b8 hb8 n8
          have e8 := (Ext.refl hS).set n8 ⟨[.bool false, i64 0, str []], 3⟩
          refine ⟨e8.2, ?_⟩
          simp -implicitDefEqProofs only [go_sem, o4, o5, c4, c5, o6, o7, o8, o9]
          refine (noteR_pc _ _ _ (by omega)).use ?_
          refine ⟨e8.2, ?_⟩
          simp -implicitDefEqProofs only [go_sem, hb8, al, ao, at_, q2, q3, o4, o5, c4, c5, o6, o7, o8, o9]
          exact ⟨b8, rfl, by rw [if_pos rfl], n8, (Ext.refl hS).set n8 _⟩
      · intro b8 hb8 n8
        have e8 := (Ext.refl hS).set n8 ⟨[.bool false, i64 0, str []], 3⟩
        refine ⟨e8.2, ?_⟩
        simp -implicitDefEqProofs only [go_sem, o4, o5, c4, c5, o6, o7, o8, o9]
        refine (read_pc (frS.ext e8) (by omega) (by omega)).use ?_
        refine ⟨e8.2, ?_⟩
        simp -implicitDefEqProofs only [go_sem, o4, o5, c4, c5, o6, o7, o8, o9]
        refine (noteR_pc _ _ _ (by omega)).use ?_
        refine ⟨e8.2, ?_⟩
        simp -implicitDefEqProofs only [go_sem, hb8, al, ao, at_, q2, q3, o4, o5, c4, c5, o6, o7, o8, o9]
        exact ⟨b8, rfl, by rw [if_pos rfl], n8, (Ext.refl hS).set n8 _⟩
    rintro f3 h3 ⟨b8, r2, r3, r8, g8, n8, e3⟩
    have G2 := e3.2.g b2 _ g2
    have G3 := e3.2.g b3 _ g3
    have E3 := E0.trans e3
    have hb3' : h3.base ≤ b3 := by rw [e3.1]; exact hb3
    cases hN : noteR (flashGet m.flash 2) s.done with
    | none =>
      rw [hN] at g8
      simp -implicitDefEqProofs only [go_sem, r2, r3, r8, ldc_get g8, ldc_get G3, ldc_get G2, o4, o5, c4, c5, o6, o7, o8, o9]
      exact ⟨E3, Own.nil _ _ _⟩
    | some p =>
      rw [hN] at g8
      simp only
      by_cases d40 : s.done = 40
      · rw [if_pos (.inl d40)]
        simp -implicitDefEqProofs only [go_sem, r2, r3, r8, ldc_get g8, ldc_get G3, ldc_get G2, eq_true d40, o4, o5, c4, c5, o6, o7, o8, o9]
        exact ⟨E3, Own.nil _ _ _⟩
      simp -implicitDefEqProofs only [go_sem, r2, r3, r8, ldc_get g8, ldc_get G3, ldc_get G2, eq_false d40, o4, o5, c4, c5, o6, o7, o8, o9]
      refine (has_pc (frS.ext e3) (by omega)).use ?_
      by_cases hh : 0 ≤ p.1 ∧ p.1 ≤ (m.flash.sec.length : Int) - 1
      rotate_left
      · rw [if_pos (.inr hh)]
        simp -implicitDefEqProofs only [go_sem, hh, o4, o5, c4, c5, o6, o7, o8, o9]
        exact ⟨E3, Own.nil _ _ _⟩
      rw [if_neg (by rintro (h | h); exact d40 h; exact h hh)]
      have b83 : (b8 = b3) = False := eq_false fun e => by rw [e, g3] at n8; cases n8
      have b38 : (b3 = b8) = False := eq_false fun e => (of_eq_false b83) e.symm
      simp -implicitDefEqProofs only [go_sem, hh, r2, r3, r8, ldc_get g8, ldc_get G3, ldc_get G2, stc_get G3, hb3', hne', b83, b38, wrap_i64 (show -(9223372036854775808 : Int) ≤ (s.done + 1) by omega) (show (s.done + 1) < 9223372036854775808 by omega), o4, o5, c4, c5, o6, o7, o8, o9]
      have ET : Ext h (h3.set b3 ⟨[i64 s.phase, i64 s.tries, i64 s.need, i64 s.stash, i64 (s.done + 1), str s.digest, uh, um], 8⟩) := E3.set' n3 _
      generalize hH : h3.set b3 ⟨[i64 s.phase, i64 s.tries, i64 s.need, i64 s.stash, i64 (s.done + 1), str s.digest, uh, um], 8⟩ = hT at ET ⊢
      have sv : ∀ {hX : H}, Ext hT hX → AC Tryz.prog 116 [.agg #[i64 m.blocks, vs, vd], .agg #[i64 s.phase, i64 s.tries, i64 s.need, i64 s.stash, i64 (s.done + 1), str s.digest, uh, um]] hX fun r h' => Ext hX h' ∧ Own hX h' r 3 ((saveActs m { s with done := s.done + 1 }).map UAct.cells) := fun e =>
        save_ac (s := { s with done := s.done + 1 }) (hv0.ext (ET.trans e)) hf ⟨uh, um, rfl, sh.ext (ET.trans e), sm.ext (ET.trans e)⟩ (ok_more hok p5 d40)
      have fin : ∀ {v' : Value} {h'' : H}, Ext hT h'' → Own hT h'' v' 3 (([⟨false, p.1, p.2⟩, ⟨true, 0, []⟩] : List UAct).map UAct.cells ++ (saveActs m { s with done := s.done + 1 }).map UAct.cells) → Ext h h'' ∧ Own h h'' v' 3 ((([⟨false, p.1, p.2⟩, ⟨true, 0, []⟩] : List UAct) ++ saveActs m { s with done := s.done + 1 }).map UAct.cells) := fun e o => ⟨ET.trans e, by rw [List.map_append]; exact o.back ET⟩
      have s2 := saveActs_len m { s with done := s.done + 1 }
      refine ⟨?_, ?_⟩
      · intro b9 hb9 n9
        have e9 := (Ext.refl hT).set n9 ⟨[.bool false, i64 p.1, str p.2, .bool true, i64 0, str []], 6⟩
        refine ⟨e9.2, ?_⟩
        simp -implicitDefEqProofs only [go_sem, o4, o5, c4, c5, o6, o7, o8, o9]
        refine AC_of (sv e9) ?_
        rintro v6 h6 - ⟨e6, o6'⟩
        refine ⟨(e9.trans e6).2, ?_⟩
        simp -implicitDefEqProofs only [go_sem, o6'.sl.src (act_wid _) (by decide), o4, o5, c4, c5, o6, o7, o8, o9]
        refine appW_own (new := (saveActs m { s with done := s.done + 1 }).map UAct.cells) (e9.trans e6) ((own_acts [⟨false, p.1, p.2⟩, ⟨true, 0, []⟩] n9 hb9).ext e6) rfl (act_wid _) (acts_one _) (by simp only [List.length_map, List.length_cons, List.length_nil]; omega) ?_
        intro v' h'' e7 o7' _
        simp -implicitDefEqProofs only [go_sem, o7'.sl.vcl, o4, o5, c4, c5, o6, o7, o8, o9]
        exact fin e7 o7'
      · refine AC_of (sv (Ext.refl _)) ?_
        rintro v6 h6 - ⟨e6, o6'⟩
        refine ⟨e6.2, ?_⟩
        simp -implicitDefEqProofs only [go_sem, o4, o5, c4, c5, o6, o7, o8, o9]
        intro b9 hb9 n9
        refine ⟨(e6.set n9 _).2, ?_⟩
        simp -implicitDefEqProofs only [go_sem, (o6'.ext ((Ext.refl h6).set n9 ⟨[.bool false, i64 p.1, str p.2, .bool true, i64 0, str []], 6⟩)).sl.src (act_wid _) (by decide), o4, o5, c4, c5, o6, o7, o8, o9]
        refine appW_own (new := (saveActs m { s with done := s.done + 1 }).map UAct.cells) (e6.set n9 _) (own_acts [⟨false, p.1, p.2⟩, ⟨true, 0, []⟩] (e6.none n9) hb9) rfl (act_wid _) (acts_one _) (by simp only [List.length_map, List.length_cons, List.length_nil]; omega) ?_
        intro v' h'' e7 o7' _
        simp -implicitDefEqProofs only [go_sem, o7'.sl.vcl, o4, o5, c4, c5, o6, o7, o8, o9]
        exact fin e7 o7'
  rw [if_neg p5]
  simp -implicitDefEqProofs only [go_sem, q2, q3, ldc_get g2, ldc_get g3, p2, p3, p4, p5, o4, o5, c4, c5, o6, o7, o8, o9]
  exact ⟨E0, Own.nil _ _ _⟩
/-- spec.l14BootLoad -/
def b_spec_l14BootLoad : C := (.seq (.ops [⟨(some 2), none, .box (.t 0)⟩, ⟨(some 3), none, .box (.t 1)⟩, q 4 (.mv (.c nils))])
 (.seq (.ops [⟨(some 9), none, .bsl 0 [] []⟩, q 5 (.mv (.t 9))])
 (.seq (.ops [q 10 (.ld true 3 (.t 2)), q 11 (.ld true 8 (.t 3)), ⟨(some 12), none, .call (.c (.func (.func 68) #[] #[])) [(.t 10), (.t 11)]⟩, ⟨(some 13), none, .call (.c (.func (.func 173) #[] #[])) [(.t 12)]⟩, q 6 (.mv (.t 13))])
 (.seq (.seq (.ops [q 14 (.fld 3 (.t 3)), q 15 (.ld false 1 (.t 14)), q 16 (.mv (.t 6)), q 17 (.bin .add (.t 15) (.t 16)), q 7 (.mv (.t 17))])
 (.block 0 (.loop (.seq (.seq (.ops [q 18 (.mv (.t 7)), q 19 (.fld 7 (.t 3)), q 20 (.ld false 1 (.t 19)), q 21 (.len (.t 20)), q 22 (.bin .lss (.t 18) (.t 21))])
 (.cond (.t 22) .skip (.exit 0)))
 (.seq (.block 1 (.seq (.dops true (.tk (q 25 (.ld true 3 (.t 2))) (.tk (q 26 (.fld 7 (.t 3))) (.tk (q 27 (.ld false 1 (.t 26))) (.tk (q 28 (.mv (.t 7))) (.tk (q 29 (.idx 1 (.t 27) (.t 28))) (.tk (q 30 (.ld false 1 (.t 29))) (.sq (⟨(some 31), none, .call (.c (.func (.func 133) #[] #[])) [(.t 25), (.t 30)]⟩) (.tk (q 8 (.mv (.t 31))) .nil)))))))))
 (.seq (.ops [q 32 (.fld 1 (.t 2)), q 33 (.ld true 2 (.t 32)), q 34 (.mv (.t 8)), ⟨(some 35), none, .call (.c (.func (.func 95) #[] #[])) [(.t 33), (.t 34)]⟩, q 36 (.bin .neq (.t 35) (.c (str [])))])
 (.cond (.t 36) (.ops [q 37 (.mv (.t 5)), q 38 (.mv (.t 8)), q 39 (.build [(.bool false), (i64 0), (str [])] [(1, 1, (.t 38))]), ⟨(some 40), none, .bsl 1 [(.bool false), (i64 0), (str [])] [(0, 3, (.t 39))]⟩, ⟨(some 41), none, .app 3 32 (.t 37) (.t 40)⟩, q 5 (.mv (.t 41))]) .skip))))
 (.ops [q 23 (.mv (.t 7)), q 24 (.bin .add (.t 23) (.c (i64 1))), q 7 (.mv (.t 24))]))))))
 (.seq (.seq (.ops [q 42 (.mv (.t 5)), q 43 (.len (.t 42)), q 44 (.bin .gtr (.t 43) (.c (i64 0)))])
 (.cond (.t 44) (.ops [q 45 (.mv (.t 5)), q 46 (.build [(.bool false), (i64 0), (str [])] [(0, 1, (.c (.bool true)))]), ⟨(some 47), none, .bsl 1 [(.bool false), (i64 0), (str [])] [(0, 3, (.t 46))]⟩, ⟨(some 48), none, .app 3 32 (.t 45) (.t 47)⟩, q 5 (.mv (.t 48))]) .skip))
 (.seq (.ops [q 49 (.mv (.t 5)), q 4 (.mv (.t 49))])
 .ret))))))
theorem w_spec_l14BootLoad {args : List Value} {h : H} {Q : Value → H → Prop} (hl : args.length ≤ 50) (hk : wpc Tryz.prog b_spec_l14BootLoad (retw [.tmp 4] Q) (argsFr args) h) : AC Tryz.prog 106 args h Q :=
  AC.of_wpc mixedOrders Tryz.func106 (by kernel_rfl) (by kernel_rfl : prepF Tryz.prog Tryz.f106 = some ⟨50, [.tmp 4], b_spec_l14BootLoad⟩) hl hk

set_option maxHeartbeats 1600000 in
theorem l14BootLoad_ac {h : H} {cs c2 : List Value} {m : UMach} {s : UState} (hv : RepR h (spMach m) cs) (hf : machFit m) (hst : StR h c2 s) (hok : stateOk s) : AC Tryz.prog 106 [.agg cs.toArray, .agg c2.toArray] h fun r h' => Ext h h' ∧ Own h h' r 3 ((loadActs m s).map UAct.cells) := by
  have hv0 := hv
  have hst0 := hst
  have h20 := logOf_len m hok
  have hko : keptOf (logOf m s) = kept (logOf m s) := by unfold keptOf; rw [if_pos h20]
  have hL := stateOk_log hok
  have hla := loadAt_le (m := m) hok
  have hd := flashOk_small hf.2.1
  have h27 := hf.2.2
  have hb := hf.1
  obtain ⟨vs, vd, rfl, fr⟩ := mach_r.1 hv
  have o4 := fr.1.one
  have o5 := fr.2.one
  have c4 : vcl vs = [vs] := fr.1.vcl
  have c5 : vcl vd = [vd] := fr.2.vcl
  obtain ⟨uh, um, rfl, sh, sm⟩ := hst
  have o6 := sh.vcl
  have o7 := sm.vcl
  have o8 := sh.one
  have o9 := sm.one
  obtain ⟨L, hLd⟩ : ∃ L, L = s.mine.drop (loadAt m s) := ⟨_, rfl⟩
  have lL : L.length = s.mine.length - loadAt m s := by rw [hLd]; simp
  have hmem : ∀ x ∈ L, 0 ≤ x ∧ x ≤ 23 := fun x hx => hL.2.2.2 x (by rw [hLd] at hx; exact List.mem_of_mem_drop hx)
  unfold loadActs
  rw [← hLd]
  have l2 : (ints s.mine).length = s.mine.length := by simp
  have hsh := sm.shape
  rw [l2] at hsh
  obtain ⟨am, cm, rfl⟩ := hsh
  skip
  refine w_spec_l14BootLoad (by simp) ?_
  unfold b_spec_l14BootLoad
  simp -implicitDefEqProofs only [go_sem, o4, o5, c4, c5, o6, o7, o8, o9]
  intro b2 hb_b2 n_b2
  simp -implicitDefEqProofs only [go_sem, o4, o5, c4, c5, o6, o7, o8, o9, hb_b2]
  intro b3 hb_b3 m0_b3
  obtain ⟨z_b3_b2, y_b3_b2, n_b3⟩ := fne m0_b3
  simp only [H.set_base] at hb_b3
  have E0 : Ext h ((h.set b2 ⟨[i64 m.blocks, vs, vd], 3⟩).set b3 ⟨s.cells uh (.slice am s.mine.length cm), 8⟩) := (((Ext.refl _).set' n_b2 _).set' n_b3 _)
  have g2 : ((h.set b2 ⟨[i64 m.blocks, vs, vd], 3⟩).set b3 ⟨s.cells uh (.slice am s.mine.length cm), 8⟩).get b2 = some ⟨[i64 m.blocks, vs, vd], 3⟩ := by simp -implicitDefEqProofs only [go_sem, o4, o5, c4, c5, o6, o7, o8, o9, hb_b2, hb_b3, z_b3_b2, y_b3_b2]
  have g3 : ((h.set b2 ⟨[i64 m.blocks, vs, vd], 3⟩).set b3 ⟨s.cells uh (.slice am s.mine.length cm), 8⟩).get b3 = some ⟨s.cells uh (.slice am s.mine.length cm), 8⟩ := by simp -implicitDefEqProofs only [go_sem, o4, o5, c4, c5, o6, o7, o8, o9, hb_b2, hb_b3, z_b3_b2, y_b3_b2]
  simp -implicitDefEqProofs only [go_sem, o4, o5, c4, c5, o6, o7, o8, o9, hb_b2, hb_b3, z_b3_b2, y_b3_b2]
  generalize hH : (h.set b2 ⟨[i64 m.blocks, vs, vd], 3⟩).set b3 ⟨s.cells uh (.slice am s.mine.length cm), 8⟩ = hS at E0 g2 g3 ⊢
  skip
  intro b9 hb9 n9
  have e9 := (Ext.refl hS).set n9 ⟨[], 0⟩
  have G2 := e9.2.g b2 _ g2
  have G3 := e9.2.g b3 _ g3
  simp -implicitDefEqProofs only [go_sem, ldc_get G2, ldc_get G3, o4, o5, c4, c5, o6, o7, o8, o9]
  refine AC_of (l13Log_ac (hv0.ext (E0.trans e9)) hf (hst0.ext (E0.trans e9)) hok) ?_
  rintro v5 h5 - ⟨e5, f5⟩
  have G2 := e5.2.g b2 _ G2
  have G3 := e5.2.g b3 _ G3
  have g9 := e5.2.g b9 _ (H.set_get_same _ _ _)
  have E5 := e9.trans e5
  have hb95 : h5.base ≤ b9 := by rw [E5.1]; exact hb9
  simp -implicitDefEqProofs only [go_sem, f5.sl.vcl, o4, o5, c4, c5, o6, o7, o8, o9]
  refine (specKeptOf_pc f5.sl (by omega)).use ?_
  simp -implicitDefEqProofs only [go_sem, ldc_get G3, hko, wrap_i64 (show -(9223372036854775808 : Int) ≤ (s.stash + kept (logOf m s)) by omega) (show (s.stash + kept (logOf m s)) < 9223372036854775808 by omega), o4, o5, c4, c5, o6, o7, o8, o9]
  have sum := hla.2
  have la := hla.1.2
  have d1 := sm.ext E0
  obtain ⟨_, _, b, o, e, hcap, r2, r3⟩ := d1
  simp only [Value.slice.injEq, List.length_map] at e r2
  refine loopW_of (fun n f h' => ∃ (k : Nat) (w : Value), n + k = L.length ∧ f 2 = ptr b2 0 ∧ f 3 = ptr b3 0 ∧ f 7 = i64 (s.stash + kept (logOf m s) + k) ∧ f 5 = w ∧ Ext hS h' ∧ Own hS h' w 3 ((wipes m (L.take k)).map UAct.cells)) L.length
    ⟨0, sl b9 0 0 0, by simp, by simp -implicitDefEqProofs only [go_sem, o4, o5, c4, c5, o6, o7, o8, o9], by simp -implicitDefEqProofs only [go_sem, o4, o5, c4, c5, o6, o7, o8, o9], by simp -implicitDefEqProofs only [go_sem, o4, o5, c4, c5, o6, o7, o8, o9]; simp, by simp -implicitDefEqProofs only [go_sem, o4, o5, c4, c5, o6, o7, o8, o9], E5, .inr ⟨b9, 0, 0, rfl, Nat.le_refl _, hb95, n9, g9, by simp, Wid.nil 3⟩⟩ ?_
  rintro n f h' ⟨k, w, hn, f2, f3, f7, f5', he, ho⟩
  obtain ⟨aw, cw, rfl⟩ := ho.shape
  rw [List.length_map] at ho f5'
  have wl := wipes_len m (L.take k)
  rw [List.length_take] at wl
  have GG := he.2.g b2 _ g2
  have GH := he.2.g b3 _ g3
  have EH := E0.trans he
  by_cases hk : k < L.length
  · have hk2 : loadAt m s + k < s.mine.length := by omega
    have hge : L[k] = s.mine[loadAt m s + k] := by subst hLd; simp
    have e1 := ldc_sub he.2 (r3 (loadAt m s + k) [i64 L[k]] (by rw [List.getElem?_eq_getElem (by simpa using hk2), List.getElem_map, hge]))
    have hx := hmem _ (List.getElem_mem hk)
    have ws := wipes_step (m := m) hk
    have q1 : s.stash + kept (logOf m s) + (k : Int) < (s.mine.length : Int) := by omega
    have q2 : (s.stash + kept (logOf m s) + (k : Int)).toNat = loadAt m s + k := by omega
    have q3 : (0 : Int) ≤ s.stash + kept (logOf m s) + (k : Int) := by omega
    simp -implicitDefEqProofs only [go_sem, f2, f3, f7, f5', ldc_get GG, ldc_get GH, q1, q2, q3, e1, r2, o4, o5, c4, c5, o6, o7, o8, o9]
    refine (l13Area_pc (hv0.ext EH) hb (by omega)).use ?_
    simp -implicitDefEqProofs only [go_sem, Sub.refl, f2, f3, f7, f5', ldc_get GG, o4, o5, c4, c5, o6, o7, o8, o9]
    refine (l03Get_pc (fr.ext EH) (by omega) (by omega)).use ?_
    have ha : flashGet m.flash (3 + m.blocks + L[k]) = areaOf m L[k] := rfl
    by_cases hx0 : areaOf m L[k] = []
    · rw [if_neg (by simpa using hx0), List.append_nil] at ws
      simp -implicitDefEqProofs only [go_sem, f2, f3, f7, f5', ha, hx0, wrap_i64 (show -(9223372036854775808 : Int) ≤ (s.stash + kept (logOf m s) + (k : Int) + 1) by omega) (show (s.stash + kept (logOf m s) + (k : Int) + 1) < 9223372036854775808 by omega), o4, o5, c4, c5, o6, o7, o8, o9]
      exact ⟨n - 1, by omega, h', Ext.refl _, k + 1, _, by omega, by rw [show s.stash + kept (logOf m s) + ((k + 1 : Nat) : Int) = s.stash + kept (logOf m s) + (k : Int) + 1 by push_cast; omega], rfl, he, by rw [ws]; exact ho⟩
    · rw [if_pos hx0] at ws
      simp -implicitDefEqProofs only [go_sem, f2, f3, f7, f5', ha, hx0, o4, o5, c4, c5, o6, o7, o8, o9]
      intro b8 hb8 n8
      simp -implicitDefEqProofs only [go_sem, f2, f3, f7, f5', o4, o5, c4, c5, o6, o7, o8, o9]
      refine appW_own (new := [[.bool false, i64 (3 + m.blocks + L[k]), str []]]) (he.set n8 _) (ho.ext ((Ext.refl _).set n8 _)) rfl (by intro r hr; simp at hr; subst hr; rfl) rfl (by rw [List.length_map]; show ((wipes m (L.take k)).length + 1) * 32 ≤ _; omega) ?_
      intro v' h'' he2 ho2 _
      simp -implicitDefEqProofs only [go_sem, f2, f3, f7, wrap_i64 (show -(9223372036854775808 : Int) ≤ (s.stash + kept (logOf m s) + (k : Int) + 1) by omega) (show (s.stash + kept (logOf m s) + (k : Int) + 1) < 9223372036854775808 by omega), o4, o5, c4, c5, o6, o7, o8, o9]
      exact ⟨n - 1, by omega, h'', Ext.refl _, k + 1, v', by omega, by rw [show s.stash + kept (logOf m s) + ((k + 1 : Nat) : Int) = s.stash + kept (logOf m s) + (k : Int) + 1 by push_cast; omega], rfl, he2, by rw [ws, List.map_append]; exact ho2⟩
  · have e : k = L.length := by omega
    subst e
    rw [List.take_length] at ho f5' wl
    have q1 : ¬ (s.stash + kept (logOf m s) + (L.length : Int) < (s.mine.length : Int)) := by omega
    unfold syncs
    by_cases h0 : 0 < (wipes m L).length
    · rw [if_pos h0]
      simp -implicitDefEqProofs only [go_sem, f2, f3, f7, f5', ldc_get GH, q1, show (0 : Int) < ((wipes m L).length : Int) by omega, o4, o5, c4, c5, o6, o7, o8, o9]
      intro b8 hb8 n8
      simp -implicitDefEqProofs only [go_sem, f5', o4, o5, c4, c5, o6, o7, o8, o9]
      refine appW_own (new := [[.bool true, i64 0, str []]]) (he.set n8 _) (ho.ext ((Ext.refl _).set n8 _)) rfl (by intro r hr; simp at hr; subst hr; rfl) rfl (by rw [List.length_map]; show ((wipes m L).length + 1) * 32 ≤ _; omega) ?_
      intro v' h'' he2 ho2 _
      simp -implicitDefEqProofs only [go_sem, ho2.sl.vcl, o4, o5, c4, c5, o6, o7, o8, o9]
      exact ⟨E0.trans he2, by rw [List.map_append]; exact ho2.back E0⟩
    · rw [if_neg h0]
      simp -implicitDefEqProofs only [go_sem, f2, f3, f7, f5', ldc_get GH, q1, show ¬ (0 : Int) < ((wipes m L).length : Int) by omega, ho.sl.vcl, o4, o5, c4, c5, o6, o7, o8, o9]
      exact ⟨EH, ho.back E0⟩
/-- spec.l14Boot -/
def b_spec_l14Boot : C := (.seq (.ops [⟨(some 2), none, .box (.t 0)⟩, ⟨(some 3), none, .box (.t 1)⟩, q 4 (.mv (.c nils))])
 (.seq (.ops [q 7 (.ld true 8 (.t 3)), ⟨(some 8), none, .call (.c (.func (.func 105) #[] #[])) [(.t 7)]⟩, ⟨(some 5), none, .alloc [(i64 0), (i64 0), (i64 0), (i64 0), (i64 0), (str []), nils, nils]⟩, ⟨none, none, .st 8 (.t 5) (.t 8)⟩])
 (.seq (.seq (.ops [q 9 (.fld 0 (.t 3)), q 10 (.ld false 1 (.t 9))])
 (.block 0 (.seq (.ops [q 12 (.bin .eql (.t 10) (.c (i64 2))), q 11 (.mv (.t 12))])
 (.cond (.t 11) (.seq (.ops [q 13 (.ld true 3 (.t 2)), q 14 (.ld true 8 (.t 3)), ⟨(some 15), none, .call (.c (.func (.func 106) #[] #[])) [(.t 13), (.t 14)]⟩, q 4 (.mv (.t 15))])
 .ret) (.seq (.ops [q 17 (.bin .eql (.t 10) (.c (i64 3))), q 16 (.mv (.t 17))])
 (.cond (.t 16) (.seq (.ops [q 18 (.fld 0 (.t 5)), ⟨none, none, .st 1 (.t 18) (.c (i64 4))⟩])
 (.seq (.ops [q 19 (.fld 1 (.t 5)), ⟨none, none, .st 1 (.t 19) (.c (i64 2))⟩])
 (.seq (.ops [q 20 (.ld true 3 (.t 2)), q 21 (.ld true 8 (.t 5)), ⟨(some 22), none, .call (.c (.func (.func 107) #[] #[])) [(.t 20), (.t 21)]⟩, q 4 (.mv (.t 22))])
 .ret))) (.seq (.ops [q 24 (.bin .eql (.t 10) (.c (i64 4))), q 23 (.mv (.t 24))])
 (.cond (.t 23) (.seq (.seq (.ops [q 25 (.fld 1 (.t 3)), q 26 (.ld false 1 (.t 25)), q 27 (.bin .eql (.t 26) (.c (i64 0)))])
 (.cond (.t 27) (.seq (.dops true (.tk (q 28 (.ld true 3 (.t 2))) (.tk (q 29 (.ld true 8 (.t 3))) (.sq (⟨(some 30), none, .call (.c (.func (.func 108) #[] #[])) [(.t 29)]⟩) (.sq (⟨(some 31), none, .call (.c (.func (.func 107) #[] #[])) [(.t 28), (.t 30)]⟩) (.tk (q 4 (.mv (.t 31))) .nil))))))
 .ret) .skip))
 (.seq (.ops [q 32 (.fld 1 (.t 3)), q 33 (.ld false 1 (.t 32)), q 34 (.bin .sub (.t 33) (.c (i64 1))), q 35 (.fld 1 (.t 5)), ⟨none, none, .st 1 (.t 35) (.t 34)⟩])
 (.seq (.ops [q 36 (.ld true 3 (.t 2)), q 37 (.ld true 8 (.t 5)), ⟨(some 38), none, .call (.c (.func (.func 107) #[] #[])) [(.t 36), (.t 37)]⟩, q 4 (.mv (.t 38))])
 .ret))) (.seq (.ops [q 40 (.bin .eql (.t 10) (.c (i64 5))), q 39 (.mv (.t 40))])
 (.cond (.t 39) (.seq (.dops true (.tk (q 41 (.fld 1 (.t 2))) (.tk (q 42 (.ld true 2 (.t 41))) (.tk (q 44 (.fld 4 (.t 3))) (.tk (q 45 (.ld false 1 (.t 44))) (.alt (⟨(some 43), none, .call (.c (.func (.func 95) #[] #[])) [(.t 42), (.c (i64 2))]⟩) (.alt (⟨(some 46), none, .call (.c (.func (.func 109) #[] #[])) [(.t 43), (.t 45)]⟩) (.sq (⟨(some 6), none, .alloc [(.bool false), (i64 0), (str [])]⟩) (.lt (⟨none, none, .st 3 (.t 6) (.t 46)⟩) .nil)) (⟨(some 6), none, .alloc [(.bool false), (i64 0), (str [])]⟩) (.sq (⟨(some 46), none, .call (.c (.func (.func 109) #[] #[])) [(.t 43), (.t 45)]⟩) (.lt (⟨none, none, .st 3 (.t 6) (.t 46)⟩) .nil))) (⟨(some 6), none, .alloc [(.bool false), (i64 0), (str [])]⟩) (.sq (⟨(some 43), none, .call (.c (.func (.func 95) #[] #[])) [(.t 42), (.c (i64 2))]⟩) (.sq (⟨(some 46), none, .call (.c (.func (.func 109) #[] #[])) [(.t 43), (.t 45)]⟩) (.lt (⟨none, none, .st 3 (.t 6) (.t 46)⟩) .nil)))))))))
 (.seq (.seq (.ops [q 47 (.fld 0 (.t 6)), q 48 (.ld false 1 (.t 47)), q 49 (.mv (.t 48)), qg 50 49 false (.fld 4 (.t 3)), qg 51 49 false (.ld false 1 (.t 50)), qg 52 49 false (.bin .geq (.t 51) (.c (i64 40))), q 53 (.pick (.t 49) (.c (.bool true)) (.t 52)), q 54 (.mv (.t 53)), qg 55 54 false (.fld 1 (.t 6)), qg 56 54 false (.ld false 1 (.t 55)), qg 57 54 false (.fld 1 (.t 2)), qg 58 54 false (.fld 0 (.t 57)), qg 59 54 false (.ld false 1 (.t 58)), qg 60 54 false (.len (.t 59)), qg 61 54 false (.bin .geq (.t 56) (.t 60)), q 62 (.pick (.t 54) (.c (.bool true)) (.t 61))])
 (.cond (.t 62) (.seq (.ops [⟨(some 63), none, .bsl 0 [] []⟩, q 4 (.mv (.t 63))])
 .ret) .skip))
 (.seq (.ops [q 64 (.fld 4 (.t 3)), q 65 (.ld false 1 (.t 64)), q 66 (.bin .add (.t 65) (.c (i64 1))), q 67 (.fld 4 (.t 5)), ⟨none, none, .st 1 (.t 67) (.t 66)⟩])
 (.seq (.dops true (.tk (q 68 (.ld true 3 (.t 6))) (.tk (q 69 (.build [(.bool false), (i64 0), (str [])] [(0, 1, (.c (.bool true)))])) (.tk (q 71 (.ld true 3 (.t 2))) (.tk (q 72 (.ld true 8 (.t 5))) (.alt (⟨(some 70), none, .bsl 2 [(.bool false), (i64 0), (str []), (.bool false), (i64 0), (str [])] [(0, 3, (.t 68)), (3, 3, (.t 69))]⟩) (.sq (⟨(some 73), none, .call (.c (.func (.func 107) #[] #[])) [(.t 71), (.t 72)]⟩) (.lt (⟨(some 74), none, .app 3 32 (.t 70) (.t 73)⟩) (.tk (q 4 (.mv (.t 74))) .nil))) (⟨(some 73), none, .call (.c (.func (.func 107) #[] #[])) [(.t 71), (.t 72)]⟩) (.sq (⟨(some 70), none, .bsl 2 [(.bool false), (i64 0), (str []), (.bool false), (i64 0), (str [])] [(0, 3, (.t 68)), (3, 3, (.t 69))]⟩) (.lt (⟨(some 74), none, .app 3 32 (.t 70) (.t 73)⟩) (.tk (q 4 (.mv (.t 74))) .nil)))))))))
 .ret)))) .skip))))))))))
 (.seq (.ops [⟨(some 75), none, .bsl 0 [] []⟩, q 4 (.mv (.t 75))])
 .ret))))
theorem w_spec_l14Boot {args : List Value} {h : H} {Q : Value → H → Prop} (hl : args.length ≤ 76) (hk : wpc Tryz.prog b_spec_l14Boot (retw [.tmp 4] Q) (argsFr args) h) : AC Tryz.prog 58 args h Q :=
  AC.of_wpc mixedOrders Tryz.func58 (by kernel_rfl) (by kernel_rfl : prepF Tryz.prog Tryz.f58 = some ⟨76, [.tmp 4], b_spec_l14Boot⟩) hl hk

set_option maxHeartbeats 3200000 in
theorem l14Boot_ac {h : H} {cs c2 : List Value} {m : UMach} {s : UState} (hv : RepR h (spMach m) cs) (hf : machFit m) (hst : StR h c2 s) (hok : stateOk s) : AC Tryz.prog 58 [.agg cs.toArray, .agg c2.toArray] h fun r h' => Ext h h' ∧ Own h h' r 3 ((bootActs m s).map UAct.cells) := by
  have hv0 := hv
  have hst0 := hst
  have h20 := logOf_len m hok
  have hL := stateOk_log hok
  have hla := loadAt_le (m := m) hok
  have hdn := ok_done hok
  have htr := ok_tries hok
  have hd := flashOk_small hf.2.1
  have h27 := hf.2.2
  have hb := hf.1
  obtain ⟨vs, vd, rfl, fr⟩ := mach_r.1 hv
  obtain ⟨a0, c0, a1, c1, rfl, rfl⟩ := fr.shape
  obtain ⟨uh, um, rfl, sh, sm⟩ := hst
  have o6 := sh.vcl
  have o7 := sm.vcl
  have o8 := sh.one
  have o9 := sm.one
  skip
  have mc : ∀ {X : Prop}, X → X := fun x => x
  refine w_spec_l14Boot (by simp) ?_
  unfold b_spec_l14Boot
  refine wpc_cut (fun f1 h1 => ∃ b2 b3, f1 2 = ptr b2 0 ∧ f1 3 = ptr b3 0 ∧ h1.get b2 = some ⟨[i64 m.blocks, .slice a0 m.flash.sec.length c0, .slice a1 m.flash.dirty.length c1], 3⟩ ∧ h1.get b3 = some ⟨s.cells uh um, 8⟩ ∧ Ext h h1) ?_ ?_
  · simp -implicitDefEqProofs only [go_sem, o6, o7, o8, o9]
    intro b2 hb_b2 n_b2
    simp -implicitDefEqProofs only [go_sem, o6, o7, o8, o9, hb_b2]
    intro b3 hb_b3 m0_b3
    obtain ⟨z_b3_b2, y_b3_b2, n_b3⟩ := fne m0_b3
    simp only [H.set_base] at hb_b3
    simp -implicitDefEqProofs only [go_sem, o6, o7, o8, o9, hb_b2, hb_b3, z_b3_b2, y_b3_b2]
    exact ⟨b2, b3, rfl, rfl, by simp -implicitDefEqProofs only [go_sem, o6, o7, o8, o9, hb_b2, hb_b3, z_b3_b2, y_b3_b2], by simp -implicitDefEqProofs only [go_sem, o6, o7, o8, o9, hb_b2, hb_b3, z_b3_b2, y_b3_b2], (((Ext.refl _).set' n_b2 _).set' n_b3 _)⟩
  skip
  rintro f1 h1 ⟨b2, b3, q2, q3, g2, g3, E1⟩
  refine wpc_cut (fun f2 h2 => ∃ b5 vh vm, f2 2 = ptr b2 0 ∧ f2 3 = ptr b3 0 ∧ f2 5 = ptr b5 0 ∧ h2.get b5 = some ⟨s.cells vh vm, 8⟩ ∧ (∀ x, Sl (h2.set b5 x) vh 1 (ints s.held)) ∧ (∀ x, Sl (h2.set b5 x) vm 1 (ints s.mine)) ∧ h2.base ≤ b5 ∧ h1.get b5 = none ∧ Ext h1 h2) ?_ ?_
  · simp -implicitDefEqProofs only [go_sem, q2, q3, ldc_get g3, o6, o7, o8, o9]
    refine AC_of (l12Copy_ac (hst0.ext E1) (ok_small hok)) ?_
    rintro _ h2 - ⟨e2, cI, rfl, F2⟩
    obtain ⟨vh, vm, rfl, w1, w2, dd⟩ := F2
    have k1 := w1.sl.one
    have k2 := w2.sl.one
    have k3 := w1.sl.vcl
    have k4 := w2.sl.vcl
    simp -implicitDefEqProofs only [go_sem, q2, q3, o6, o7, o8, o9]
    intro b5 hb5 n5
    simp -implicitDefEqProofs only [go_sem, k1, k2, k3, k4, hb5, q2, q3, o6, o7, o8, o9]
    exact ⟨b5, vh, vm, rfl, by rw [if_pos rfl], fun x => w1.sl.ext (((Ext.refl _).set' n5 _).set' n5 x), fun x => w2.sl.ext (((Ext.refl _).set' n5 _).set' n5 x), hb5, e2.none n5, e2.set n5 _⟩
  rintro f2 hS ⟨b5, vh, vm, q2, q3, q5, g5, sh, sm, hb5, n5, e2⟩
  have g2 := e2.2.g b2 _ g2
  have g3 := e2.2.g b3 _ g3
  have E0 := E1.trans e2
  have n5h := E1.none n5
  have hvS := hv0.ext E0
  have stS := hst0.ext E0
  have frS := fr.ext E0
  have u6 := (sh ⟨[], 0⟩).vcl
  have u7 := (sm ⟨[], 0⟩).vcl
  have u8 := (sh ⟨[], 0⟩).one
  have u9 := (sm ⟨[], 0⟩).one
  have z25 : (b2 = b5) = False := eq_false fun e => by rw [e] at g2; rw [← e] at n5; rename_i g2o; simp_all
  have z35 : (b3 = b5) = False := eq_false fun e => by rw [e] at g3; rw [← e] at n5; rename_i g3o; simp_all
  have eT := fun x => E0.set' n5h x
  have back : ∀ {hT h' : H} {r : Value} {l : List UAct}, Ext h hT → Ext hT h' ∧ Own hT h' r 3 (l.map UAct.cells) → Ext h h' ∧ Own h h' r 3 (l.map UAct.cells) := fun e k => ⟨e.trans k.1, k.2.back e⟩
  skip
  unfold bootActs
  by_cases p2 : s.phase = 2
  · rw [if_pos p2]
    have P2 := eq_true p2
    simp -implicitDefEqProofs only [go_sem, q2, q3, q5, ldc_get g2, ldc_get g3, P2, o6, o7, o8, o9, z25, z35, u6, u7, u8, u9]
    refine AC_of (l14BootLoad_ac hvS hf stS hok) ?_
    rintro v6 h6 - k6
    simp -implicitDefEqProofs only [go_sem, k6.2.sl.vcl, o6, o7, o8, o9, z25, z35, u6, u7, u8, u9]
    exact back E0 k6
  rw [if_neg p2]
  have P2 := eq_false p2
  by_cases p3 : s.phase = 3
  · rw [if_pos p3]
    have P3 := eq_true p3
    simp -implicitDefEqProofs only [go_sem, q2, q3, q5, ldc_get g2, ldc_get g3, ldc_get g5, stc_get g5, hb5, P2, P3, o6, o7, o8, o9, z25, z35, u6, u7, u8, u9]
    refine AC_of (l14Keep_ac (s := { s with phase := 4, tries := 2 }) (hv0.ext (eT _)) hf ⟨vh, vm, rfl, sh _, sm _⟩ (ok_retry hok p3)) ?_
    rintro v6 h6 - k6
    simp -implicitDefEqProofs only [go_sem, k6.2.sl.vcl, o6, o7, o8, o9, z25, z35, u6, u7, u8, u9]
    exact back (eT _) k6
  rw [if_neg p3]
  have P3 := eq_false p3
  by_cases p4 : s.phase = 4
  · rw [if_pos p4]
    have P4 := eq_true p4
    simp -implicitDefEqProofs only [go_sem, q2, q3, q5, ldc_get g2, ldc_get g3, stc_get g5, ldc_get g5, hb5, P2, P3, P4, o6, o7, o8, o9, z25, z35, u6, u7, u8, u9]
    refine Br.of (fun ht => ?_) (fun ht => ?_)
    · rw [if_pos ht]
      simp -implicitDefEqProofs only [go_sem, q2, q3, q5, ldc_get g2, ldc_get g3, o6, o7, o8, o9, z25, z35, u6, u7, u8, u9]
      refine AC_of (l12Idle_ac stS (ok_small hok)) ?_
      rintro _ h6 - ⟨e6, cI, rfl, F6⟩
      refine ⟨e6.2, ?_⟩
      simp -implicitDefEqProofs only [go_sem, F6.r.len, F6.r.one, o6, o7, o8, o9, z25, z35, u6, u7, u8, u9]
      refine AC_of (l14Keep_ac (hvS.ext e6) hf F6.r (ok_idle hok)) ?_
      rintro v6 h6 - k6
      refine ⟨(e6.trans k6.1).2, ?_⟩
      simp -implicitDefEqProofs only [go_sem, k6.2.sl.vcl, o6, o7, o8, o9, z25, z35, u6, u7, u8, u9]
      exact back (E0.trans e6) k6
    · rw [if_neg ht]
      simp -implicitDefEqProofs only [go_sem, q2, q3, q5, ldc_get g2, ldc_get g3, ldc_get g5, stc_get g5, hb5, wrap_i64 (show -(9223372036854775808 : Int) ≤ (s.tries - 1) by omega) (show (s.tries - 1) < 9223372036854775808 by omega), o6, o7, o8, o9, z25, z35, u6, u7, u8, u9]
      refine AC_of (l14Keep_ac (s := { s with tries := s.tries - 1 }) (hv0.ext (eT _)) hf ⟨vh, vm, rfl, sh _, sm _⟩ (ok_less hok p4 ht)) ?_
      rintro v6 h6 - k6
      simp -implicitDefEqProofs only [go_sem, k6.2.sl.vcl, o6, o7, o8, o9, z25, z35, u6, u7, u8, u9]
      exact back (eT _) k6
  rw [if_neg p4]
  have P4 := eq_false p4
  by_cases p5 : s.phase = 5
  · rw [if_pos p5]
    simp -implicitDefEqProofs only [go_sem, q2, q3, q5, ldc_get g2, ldc_get g3, P2, P3, P4, o6, o7, o8, o9, z25, z35, u6, u7, u8, u9]
    refine Br.of (fun _ => ?_) (fun h => absurd p5 h)
    unfold noteActs
    have hno : noteOut (flashGet m.flash 2) s.done = noteR (flashGet m.flash 2) s.done := by unfold noteOut; rw [if_neg (by have := flashGet_len hf.2.1 2; omega)]
    have al := actC_len (noteR (flashGet m.flash 2) s.done)
    have ao := actC_one (noteR (flashGet m.flash 2) s.done)
    have at_ := take_len al
    have nr : ∀ hX, PC Tryz.prog 109 [str (flashGet m.flash 2), i64 s.done] hX (.agg (actC (noteR (flashGet m.flash 2) s.done)).toArray) := fun hX => by have := specNoteRead_pc hX (flashGet m.flash 2) s.done (by have := flashGet_len hf.2.1 2; omega); rwa [hno] at this
    have h96 := flashGet_len hf.2.1 2
    refine wpc_cut (fun f3 h3 => ∃ b8, f3 2 = ptr b2 0 ∧ f3 3 = ptr b3 0 ∧ f3 5 = ptr b5 0 ∧ f3 6 = ptr b8 0 ∧ h3.get b8 = some ⟨actC (noteR (flashGet m.flash 2) s.done), 3⟩ ∧ hS.get b8 = none ∧ Ext hS h3) ?_ ?_
    · simp -implicitDefEqProofs only [go_sem, q2, q3, q5, ldc_get g2, ldc_get g3, o6, o7, o8, o9, z25, z35, u6, u7, u8, u9]
      refine ⟨?_, ?_⟩
      · refine (l03Get_pc frS (by omega) (by omega)).use ?_
        simp -implicitDefEqProofs only [go_sem, Sub.refl, o6, o7, o8, o9, z25, z35, u6, u7, u8, u9]
        refine ⟨?_, ?_⟩
        · refine (nr _).use ?_
          simp -implicitDefEqProofs only [go_sem, Sub.refl, o6, o7, o8, o9, z25, z35, u6, u7, u8, u9]
          intro b8 hb8 n8
          have e8 := (Ext.refl hS).set n8 ⟨[.bool false, i64 0, str []], 3⟩
          refine ⟨e8.2, ?_⟩
          simp -implicitDefEqProofs only [go_sem, hb8, al, ao, at_, q2, q3, q5, o6, o7, o8, o9, z25, z35, u6, u7, u8, u9]
          exact ⟨b8, rfl, by rw [if_pos rfl], n8, (Ext.refl hS).set n8 _⟩
        · intro b8 hb8 n8
          have e8 := (Ext.refl hS).set n8 ⟨[.bool false, i64 0, str []], 3⟩
          refine ⟨e8.2, ?_⟩
          simp -implicitDefEqProofs only [go_sem, o6, o7, o8, o9, z25, z35, u6, u7, u8, u9]
          refine (nr _).use ?_
          refine ⟨e8.2, ?_⟩
          simp -implicitDefEqProofs only [go_sem, hb8, al, ao, at_, q2, q3, q5, o6, o7, o8, o9, z25, z35, u6, u7, u8, u9]
          exact ⟨b8, rfl, by rw [if_pos rfl], n8, (Ext.refl hS).set n8 _⟩
      · intro b8 hb8 n8
        have e8 := (Ext.refl hS).set n8 ⟨[.bool false, i64 0, str []], 3⟩
        refine ⟨e8.2, ?_⟩
        simp -implicitDefEqProofs only [go_sem, o6, o7, o8, o9, z25, z35, u6, u7, u8, u9]
        refine (l03Get_pc (frS.ext e8) (by omega) (by omega)).use ?_
        refine ⟨e8.2, ?_⟩
        simp -implicitDefEqProofs only [go_sem, o6, o7, o8, o9, z25, z35, u6, u7, u8, u9]
        refine (nr _).use ?_
        refine ⟨e8.2, ?_⟩
        simp -implicitDefEqProofs only [go_sem, hb8, al, ao, at_, q2, q3, q5, o6, o7, o8, o9, z25, z35, u6, u7, u8, u9]
        exact ⟨b8, rfl, by rw [if_pos rfl], n8, (Ext.refl hS).set n8 _⟩
    rintro f3 h3 ⟨b8, r2, r3, r5, r8, g8, n8, e3⟩
    have G2 := e3.2.g b2 _ g2
    have G3 := e3.2.g b3 _ g3
    have G5 := e3.2.g b5 _ g5
    have E3 := E0.trans e3
    have hb5' : h3.base ≤ b5 := by rw [e3.1]; exact hb5
    have nil : ∀ {b9 : Nat}, h3.base ≤ b9 → h3.get b9 = none → Ext h (h3.set b9 ⟨[], 0⟩) ∧ Own h (h3.set b9 ⟨[], 0⟩) (sl b9 0 0 0) 3 [] := fun hb9 n9 => ⟨E3.set n9 _, own_acts [] (E3.none n9) hb9⟩
    cases hN : noteR (flashGet m.flash 2) s.done with
    | none =>
      rw [hN] at g8
      simp -implicitDefEqProofs only [go_sem, r2, r3, r5, r8, ldc_get g8, ldc_get G3, ldc_get G2, o6, o7, o8, o9, z25, z35, u6, u7, u8, u9]
      intro b9 hb9 n9
      simp -implicitDefEqProofs only [go_sem, o6, o7, o8, o9, z25, z35, u6, u7, u8, u9]
      exact nil hb9 n9
    | some p =>
      rw [hN] at g8
      have hp := noteR_in hN
      simp only
      by_cases d40 : s.done = 40
      · rw [if_pos (.inl d40)]
        simp -implicitDefEqProofs only [go_sem, r2, r3, r5, r8, ldc_get g8, ldc_get G3, ldc_get G2, show (s.done ≥ 40) = True from eq_true (by omega), o6, o7, o8, o9, z25, z35, u6, u7, u8, u9]
        intro b9 hb9 n9
        simp -implicitDefEqProofs only [go_sem, o6, o7, o8, o9, z25, z35, u6, u7, u8, u9]
        exact nil hb9 n9
      by_cases hh : p.1 ≥ (m.flash.sec.length : Int)
      · rw [if_pos (.inr (by unfold hasAt; omega))]
        simp -implicitDefEqProofs only [go_sem, r2, r3, r5, r8, ldc_get g8, ldc_get G3, ldc_get G2, show (s.done ≥ 40) = False from eq_false (by omega), eq_true hh, o6, o7, o8, o9, z25, z35, u6, u7, u8, u9]
        intro b9 hb9 n9
        simp -implicitDefEqProofs only [go_sem, o6, o7, o8, o9, z25, z35, u6, u7, u8, u9]
        exact nil hb9 n9
      rw [if_neg (by unfold hasAt; omega)]
      have b85 : (b8 = b5) = False := eq_false fun e => by rw [e, g5] at n8; cases n8
      have b58 : (b5 = b8) = False := eq_false fun e => (of_eq_false b85) e.symm
      simp -implicitDefEqProofs only [go_sem, r2, r3, r5, r8, ldc_get g8, ldc_get G3, ldc_get G2, show (s.done ≥ 40) = False from eq_false (by omega), eq_false hh, stc_get G5, ldc_get G5, hb5', b85, b58, wrap_i64 (show -(9223372036854775808 : Int) ≤ (s.done + 1) by omega) (show (s.done + 1) < 9223372036854775808 by omega), o6, o7, o8, o9, z25, z35, u6, u7, u8, u9]
      have ET : Ext h (h3.set b5 ⟨[i64 s.phase, i64 s.tries, i64 s.need, i64 s.stash, i64 (s.done + 1), str s.digest, vh, vm], 8⟩) := E3.set' n5h _
      have shT : Sl (h3.set b5 ⟨[i64 s.phase, i64 s.tries, i64 s.need, i64 s.stash, i64 (s.done + 1), str s.digest, vh, vm], 8⟩) vh 1 (ints s.held) := (sh _).sub (setSub e3 g5 G5 _)
      have smT : Sl (h3.set b5 ⟨[i64 s.phase, i64 s.tries, i64 s.need, i64 s.stash, i64 (s.done + 1), str s.digest, vh, vm], 8⟩) vm 1 (ints s.mine) := (sm _).sub (setSub e3 g5 G5 _)
      generalize hH : h3.set b5 ⟨[i64 s.phase, i64 s.tries, i64 s.need, i64 s.stash, i64 (s.done + 1), str s.digest, vh, vm], 8⟩ = hT at ET shT smT ⊢
      have sv : ∀ {hX : H}, Ext hT hX → AC Tryz.prog 107 [.agg #[i64 m.blocks, .slice a0 m.flash.sec.length c0, .slice a1 m.flash.dirty.length c1], .agg #[i64 s.phase, i64 s.tries, i64 s.need, i64 s.stash, i64 (s.done + 1), str s.digest, vh, vm]] hX fun r h' => Ext hX h' ∧ Own hX h' r 3 ((saveActs m { s with done := s.done + 1 }).map UAct.cells) := fun e =>
        l14Keep_ac (s := { s with done := s.done + 1 }) (hv0.ext (ET.trans e)) hf ⟨vh, vm, rfl, shT.ext e, smT.ext e⟩ (ok_more hok p5 d40)
      have fin : ∀ {v' : Value} {h'' : H}, Ext hT h'' → Own hT h'' v' 3 (([⟨false, p.1, p.2⟩, ⟨true, 0, []⟩] : List UAct).map UAct.cells ++ (saveActs m { s with done := s.done + 1 }).map UAct.cells) → Ext h h'' ∧ Own h h'' v' 3 ((([⟨false, p.1, p.2⟩, ⟨true, 0, []⟩] : List UAct) ++ saveActs m { s with done := s.done + 1 }).map UAct.cells) := fun e o => ⟨ET.trans e, by rw [List.map_append]; exact o.back ET⟩
      have s2 := saveActs_len m { s with done := s.done + 1 }
      refine ⟨?_, ?_⟩
      · intro b9 hb9 n9
        have e9 := (Ext.refl hT).set n9 ⟨[.bool false, i64 p.1, str p.2, .bool true, i64 0, str []], 6⟩
        refine ⟨e9.2, ?_⟩
        simp -implicitDefEqProofs only [go_sem, o6, o7, o8, o9, z25, z35, u6, u7, u8, u9]
        refine AC_of (sv e9) ?_
        rintro v6 h6 - ⟨e6, o6'⟩
        refine ⟨(e9.trans e6).2, ?_⟩
        simp -implicitDefEqProofs only [go_sem, o6'.sl.src (act_wid _) (by decide), o6, o7, o8, o9, z25, z35, u6, u7, u8, u9]
        refine appW_own (new := (saveActs m { s with done := s.done + 1 }).map UAct.cells) (e9.trans e6) ((own_acts [⟨false, p.1, p.2⟩, ⟨true, 0, []⟩] n9 hb9).ext e6) rfl (act_wid _) (acts_one _) (by simp only [List.length_map, List.length_cons, List.length_nil]; omega) ?_
        intro v' h'' e7 o7' _
        simp -implicitDefEqProofs only [go_sem, o7'.sl.vcl, o6, o7, o8, o9, z25, z35, u6, u7, u8, u9]
        exact fin e7 o7'
      · refine AC_of (sv (Ext.refl _)) ?_
        rintro v6 h6 - ⟨e6, o6'⟩
        refine ⟨e6.2, ?_⟩
        simp -implicitDefEqProofs only [go_sem, o6, o7, o8, o9, z25, z35, u6, u7, u8, u9]
        intro b9 hb9 n9
        refine ⟨(e6.set n9 _).2, ?_⟩
        simp -implicitDefEqProofs only [go_sem, (o6'.ext ((Ext.refl h6).set n9 ⟨[.bool false, i64 p.1, str p.2, .bool true, i64 0, str []], 6⟩)).sl.src (act_wid _) (by decide), o6, o7, o8, o9, z25, z35, u6, u7, u8, u9]
        refine appW_own (new := (saveActs m { s with done := s.done + 1 }).map UAct.cells) (e6.set n9 _) (own_acts [⟨false, p.1, p.2⟩, ⟨true, 0, []⟩] (e6.none n9) hb9) rfl (act_wid _) (acts_one _) (by simp only [List.length_map, List.length_cons, List.length_nil]; omega) ?_
        intro v' h'' e7 o7' _
        simp -implicitDefEqProofs only [go_sem, o7'.sl.vcl, o6, o7, o8, o9, z25, z35, u6, u7, u8, u9]
        exact fin e7 o7'
  rw [if_neg p5]
  simp -implicitDefEqProofs only [go_sem, q2, q3, q5, ldc_get g2, ldc_get g3, p2, p3, p4, p5, o6, o7, o8, o9, z25, z35, u6, u7, u8, u9]
  intro b9 hb9 n9
  simp -implicitDefEqProofs only [go_sem, o6, o7, o8, o9, z25, z35, u6, u7, u8, u9]
  exact ⟨E0.set n9 _, own_acts [] (E0.none n9) hb9⟩
theorem bootActsOut_len (m : UMach) : (bootActsOut m).length ≤ 25 := by
  unfold bootActsOut
  cases hst : stM m with
  | none => simp
  | some s => exact bootActs_len m (stM_ok hst).2
end Go.Proofs.YtiokibikhanfcaaGreat
