/- A helper of this seat's claims (contracts of the functions): what it shows is shown for every input that its statements name, on no other condition. -/
import Derived.Test.YtiokibikhanfcaaGreatC13t
import Derived.Test.YtiokibikhanfcaaGreatMC08
set_option linter.unusedVariables false
set_option linter.unusedSimpArgs false
set_option maxRecDepth 100000
namespace Go.Proofs.YtiokibikhanfcaaGreat
open Go.KH

/-! ## The log of a machine -/
theorem stateOk_log {s : UState} (hok : stateOk s) : s.stash.toNat ≤ s.mine.length ∧ s.mine.length - s.stash.toNat ≤ 20 ∧ s.mine.length ≤ 24 ∧ (∀ x ∈ s.mine, 0 ≤ x ∧ x ≤ 23) := by
  have h5 := hok.2.2.2.2
  have h3 := listOk_le hok.2.2.1
  have hm := fun x hx => listOk_mem hok.2.2.1 x hx
  by_cases p : s.phase = 1
  · rw [if_pos p] at h5
    obtain ⟨_, _, q, _, _, e⟩ := h5
    rw [q, e]
    exact ⟨by simp, by simp, by simp, fun x hx => by cases hx⟩
  · rw [if_neg p] at h5
    exact ⟨by omega, by omega, h3, hm⟩
def areasOf (m : UMach) (l : List Int) : List (List UInt8) := l.map (areaOf m)
def logOf (m : UMach) (s : UState) : List UStep := scanN 0 (areasOf m (s.mine.drop s.stash.toNat))
theorem logOf_len {s : UState} (m : UMach) (hok : stateOk s) : (logOf m s).length ≤ 20 := by
  have h1 := scanN_len (areasOf m (s.mine.drop s.stash.toNat)) 0
  have h2 := (stateOk_log hok).2.1
  unfold areasOf at h1
  rw [List.length_map, List.length_drop] at h1
  unfold logOf areasOf
  omega
theorem areas_ok {m : UMach} {s : UState} (hf : machFit m) (hok : stateOk s) : (areasOf m (s.mine.drop s.stash.toNat)).length ≤ 1000 ∧ ∀ t ∈ areasOf m (s.mine.drop s.stash.toNat), t.length ≤ 1048576 := by
  have h2 := stateOk_log hok
  unfold areasOf
  refine ⟨by rw [List.length_map, List.length_drop]; omega, fun t ht => ?_⟩
  obtain ⟨x, _, rfl⟩ := List.mem_map.1 ht
  have := areaOf_len hf x
  omega
/-- (impl.Machine).log -/
def b_impl_Machine_log : C := (.seq (.ops [⟨(some 2), none, .box (.t 0)⟩, ⟨(some 3), none, .box (.t 1)⟩, q 4 (.mv (.c nils))])
 (.seq (.ops [q 5 (.mv (.c nils))])
 (.seq (.seq (.ops [q 8 (.fld 7 (.t 3)), q 9 (.ld false 1 (.t 8)), q 10 (.fld 3 (.t 3)), q 11 (.ld false 1 (.t 10)), q 12 (.lsl 1 (.t 9) (some (.t 11)) none), q 13 (.len (.t 12)), q 14 (.mv (.c (i64 0)))])
 (.block 0 (.loop (.seq (.ops [q 15 (.bin .lss (.t 14) (.t 13))])
 (.seq (.cond (.t 15) .skip (.exit 0))
 (.seq (.block 1 (.seq (.ops [q 16 (.idx 1 (.t 12) (.t 14)), q 17 (.ld false 1 (.t 16)), q 7 (.mv (.t 17))])
 (.ops [q 18 (.mv (.t 5)), q 19 (.ld true 3 (.t 2)), q 20 (.mv (.t 7)), ⟨(some 21), none, .call (.c (.func (.func 114) #[] #[])) [(.t 19), (.t 20)]⟩, ⟨(some 22), none, .bsl 1 [(str [])] [(0, 1, (.t 21))]⟩, ⟨(some 23), none, .app 1 16 (.t 18) (.t 22)⟩, q 5 (.mv (.t 23))])))
 (.ops [q 24 (.bin .add (.t 14) (.c (i64 1))), q 14 (.mv (.t 24))])))))))
 (.seq (.ops [q 25 (.mv (.t 5)), ⟨(some 26), none, .call (.c (.func (.func 157) #[] #[])) [(.t 25)]⟩, q 4 (.mv (.t 26))])
 .ret))))
theorem w_impl_Machine_log {args : List Value} {h : H} {Q : Value → H → Prop} (hl : args.length ≤ 27) (hk : wpc Tryz.prog b_impl_Machine_log (retw [.tmp 4] Q) (argsFr args) h) : AC Tryz.prog 88 args h Q :=
  AC.of_wpc mixedOrders Tryz.func88 (by kernel_rfl) (by kernel_rfl : prepF Tryz.prog Tryz.f88 = some ⟨27, [.tmp 4], b_impl_Machine_log⟩) hl hk

theorem log_ac {h : H} {cs c2 : List Value} {m : UMach} {s : UState} (hv : RepR h (spMach m) cs) (hf : machFit m) (hst : StR h c2 s) (hok : stateOk s) : AC Tryz.prog 88 [.agg cs.toArray, .agg c2.toArray] h fun r h' => Ext h h' ∧ Fre h h' r 4 ((logOf m s).map UStep.cells) := by
  have hL := stateOk_log hok
  have l1 := hv.len
  simp only [List.length_cons, List.length_nil, Nat.reduceAdd] at l1
  have t1 := take_len l1
  have o1 := hv.one
  have hsz := areas_ok hf hok
  have hs4 := stateOk_stash hok
  unfold logOf
  obtain ⟨L, hLd⟩ : ∃ L, L = s.mine.drop s.stash.toNat := ⟨_, rfl⟩
  have lL : L.length = s.mine.length - s.stash.toNat := by rw [hLd]; simp
  have hmem : ∀ x ∈ L, 0 ≤ x ∧ x ≤ 23 := fun x hx => hL.2.2.2 x (by rw [hLd] at hx; exact List.mem_of_mem_drop hx)
  rw [← hLd] at hsz ⊢
  obtain ⟨uh, um, rfl, sh, sm⟩ := hst
  have o2 := sh.one
  have o3 := sm.one
  have l2 : (ints s.mine).length = s.mine.length := by simp
  have hsh := sm.shape
  rw [l2] at hsh
  obtain ⟨am, cm, rfl⟩ := hsh
  have sp := sm.part (show s.stash.toNat ≤ s.mine.length from hL.1) (Nat.le_refl _)
  have hdr : ((ints s.mine).take s.mine.length).drop s.stash.toNat = ints L := by rw [← l2, List.take_length, hLd]; simp
  rw [hdr, ← lL] at sp
  skip
  refine w_impl_Machine_log (by simp) ?_
  unfold b_impl_Machine_log
  simp -implicitDefEqProofs only [go_sem, l1, t1, o1, o2, o3, l2]
  intro b2 hb_b2 n_b2
  simp -implicitDefEqProofs only [go_sem, l1, t1, o1, o2, o3, l2, hb_b2]
  intro b3 hb_b3 m0_b3
  obtain ⟨z_b3_b2, y_b3_b2, n_b3⟩ := fne m0_b3
  simp only [H.set_base] at hb_b3
  have E0 : Ext h ((h.set b2 ⟨cs, 3⟩).set b3 ⟨s.cells uh (.slice am s.mine.length cm), 8⟩) := (((Ext.refl _).set' n_b2 _).set' n_b3 _)
  simp -implicitDefEqProofs only [go_sem, show 0 ≤ s.stash ∧ s.stash ≤ (s.mine.length : Int) by omega, ← lL, l1, t1, o1, o2, o3, l2, hb_b2, hb_b3, z_b3_b2, y_b3_b2]
  obtain ⟨asl, hasl⟩ : ∃ a, a = (if cm = s.stash.toNat then am else am.map (·.add (s.stash.toNat * 1))) := ⟨_, rfl⟩
  obtain ⟨csl, hcsl⟩ : ∃ a, a = cm - s.stash.toNat := ⟨_, rfl⟩
  rw [← hasl, ← hcsl] at sp ⊢
  have hSv := hv.ext E0
  have g2 : ((h.set b2 ⟨cs, 3⟩).set b3 ⟨s.cells uh (.slice am s.mine.length cm), 8⟩).get b2 = some ⟨cs, 3⟩ := by simp -implicitDefEqProofs only [go_sem, l1, t1, o1, o2, o3, l2, hb_b2, hb_b3, z_b3_b2, y_b3_b2]
  have d1 := (sp.ext E0)
  generalize hH : (h.set b2 ⟨cs, 3⟩).set b3 ⟨s.cells uh (.slice am s.mine.length cm), 8⟩ = hS at E0 hSv g2 d1 ⊢
  skip
  obtain ⟨_, _, b, o, e, hcap, r2, r3⟩ := d1
  simp only [Value.slice.injEq, List.length_map] at e r2
  have step : ∀ k, (hk : k < L.length) → areasOf m (L.take (k + 1)) = areasOf m (L.take k) ++ [areaOf m L[k]] := fun k hk => by
    unfold areasOf; rw [List.take_succ_eq_append_getElem hk, List.map_append]; rfl
  have len : ∀ k, k ≤ L.length → (areasOf m (L.take k)).length = k := fun k hk => by unfold areasOf; rw [List.length_map, List.length_take]; omega
  refine loopW_of (fun n f h' => ∃ (k : Nat) (w : Value), n + k = L.length ∧ f 2 = ptr b2 0 ∧ f 12 = .slice asl L.length csl ∧ f 13 = i64 L.length ∧ f 14 = i64 k ∧ f 5 = w ∧ Ext hS h' ∧ Own hS h' w 1 (strs (areasOf m (L.take k)))) L.length
    ⟨0, nils, by simp, by simp -implicitDefEqProofs only [go_sem, l1, t1, o1, o2, o3, l2], by simp -implicitDefEqProofs only [go_sem, l1, t1, o1, o2, o3, l2], by simp -implicitDefEqProofs only [go_sem, l1, t1, o1, o2, o3, l2], by simp -implicitDefEqProofs only [go_sem, l1, t1, o1, o2, o3, l2]; rfl, by simp -implicitDefEqProofs only [go_sem, l1, t1, o1, o2, o3, l2], Ext.refl _, Own.nil _ _ _⟩ ?_
  rintro n f h' ⟨k, w, hn, f2, f12, f13, f14, f5, he, ho⟩
  obtain ⟨aw, cw, rfl⟩ := ho.shape
  have hle := len k (by omega)
  have hlw : (strs (areasOf m (L.take k))).length = k := by rw [List.length_map]; exact hle
  rw [hlw] at ho f5
  have gg := he.2.g b2 _ g2
  skip
  by_cases hk : k < L.length
  · have e1 := ldc_sub he.2 (r3 k [i64 L[k]] (by simp [hk]))
    have hx := hmem _ (List.getElem_mem hk)
    simp -implicitDefEqProofs only [go_sem, hk, e1, l1, t1, o1, o2, o3, l2, f2, f12, f13, f14, f5, r2, Int.ofNat_lt, Int.natCast_nonneg, ldc_get gg]
    refine (area_pc (hSv.ext he) hf hx).use ?_
    simp -implicitDefEqProofs only [go_sem, l1, t1, o1, o2, o3, l2, f2, f12, f13, f14, f5, r2, Int.ofNat_lt, Int.natCast_nonneg, ldc_get gg]
    intro b7 hb7 n7
    simp -implicitDefEqProofs only [go_sem, l1, t1, o1, o2, o3, l2, f2, f12, f13, f14, f5, r2, Int.ofNat_lt, Int.natCast_nonneg, ldc_get gg]
    refine appW_own (new := [[str (areaOf m L[k])]]) (he.set n7 _) (ho.ext ((Ext.refl _).set n7 _)) rfl (by intro r hr; simp at hr; subst hr; rfl) rfl (by simp; omega) ?_
    intro v' h'' he2 ho2 _
    simp -implicitDefEqProofs only [go_sem, wrap_i64 (show -(9223372036854775808 : Int) ≤ ((k : Int) + 1) by omega) (show ((k : Int) + 1) < 9223372036854775808 by omega), l1, t1, o1, o2, o3, l2, f2, f12, f13, f14, f5, r2, Int.ofNat_lt, Int.natCast_nonneg, ldc_get gg]
    exact ⟨n - 1, by omega, h'', Ext.refl _, k + 1, v', by omega, rfl, rfl, he2, by rw [step k hk]; simpa using ho2⟩
  · have e : k = L.length := by omega
    subst e
    rw [List.take_length] at ho
    simp -implicitDefEqProofs only [go_sem, Nat.lt_irrefl, l1, t1, o1, o2, o3, l2, f2, f12, f13, f14, f5, r2, Int.ofNat_lt, Int.natCast_nonneg, ldc_get gg]
    refine AC_of (scan_ac ho.fre.sl hsz.1 hsz.2) ?_
    rintro v1 h1 - ⟨e1, f1⟩
    simp -implicitDefEqProofs only [go_sem, f1.sl.vcl, l1, t1, o1, o2, o3, l2, f2, f12, f13, f14, f5, r2, Int.ofNat_lt, Int.natCast_nonneg, ldc_get gg]
    exact ⟨(E0.trans he).trans e1, f1.back (E0.trans he)⟩
/-- spec.l13Log -/
def b_spec_l13Log : C := (.seq (.ops [⟨(some 2), none, .box (.t 0)⟩, ⟨(some 3), none, .box (.t 1)⟩, q 4 (.mv (.c nils))])
 (.seq (.ops [⟨(some 7), none, .bsl 0 [] []⟩, q 5 (.mv (.t 7))])
 (.seq (.seq (.ops [q 8 (.fld 3 (.t 3)), q 9 (.ld false 1 (.t 8)), q 6 (.mv (.t 9))])
 (.block 0 (.loop (.seq (.seq (.ops [q 10 (.mv (.t 6)), q 11 (.fld 7 (.t 3)), q 12 (.ld false 1 (.t 11)), q 13 (.len (.t 12)), q 14 (.bin .lss (.t 10) (.t 13))])
 (.cond (.t 14) .skip (.exit 0)))
 (.seq (.block 1 (.dops true (.tk (q 17 (.mv (.t 5))) (.tk (q 18 (.fld 1 (.t 2))) (.tk (q 19 (.ld true 2 (.t 18))) (.tk (q 20 (.ld true 3 (.t 2))) (.tk (q 21 (.fld 7 (.t 3))) (.tk (q 22 (.ld false 1 (.t 21))) (.tk (q 23 (.mv (.t 6))) (.tk (q 24 (.idx 1 (.t 22) (.t 23))) (.tk (q 25 (.ld false 1 (.t 24))) (.sq (⟨(some 26), none, .call (.c (.func (.func 133) #[] #[])) [(.t 20), (.t 25)]⟩) (.sq (⟨(some 27), none, .call (.c (.func (.func 95) #[] #[])) [(.t 19), (.t 26)]⟩) (.sq (⟨(some 28), none, .bsl 1 [(str [])] [(0, 1, (.t 27))]⟩) (.lt (⟨(some 29), none, .app 1 16 (.t 17) (.t 28)⟩) (.tk (q 5 (.mv (.t 29))) .nil))))))))))))))))
 (.ops [q 15 (.mv (.t 6)), q 16 (.bin .add (.t 15) (.c (i64 1))), q 6 (.mv (.t 16))]))))))
 (.seq (.ops [q 30 (.mv (.t 5)), ⟨(some 31), none, .call (.c (.func (.func 134) #[] #[])) [(.t 30)]⟩, q 4 (.mv (.t 31))])
 .ret))))
theorem w_spec_l13Log {args : List Value} {h : H} {Q : Value → H → Prop} (hl : args.length ≤ 32) (hk : wpc Tryz.prog b_spec_l13Log (retw [.tmp 4] Q) (argsFr args) h) : AC Tryz.prog 68 args h Q :=
  AC.of_wpc mixedOrders Tryz.func68 (by kernel_rfl) (by kernel_rfl : prepF Tryz.prog Tryz.f68 = some ⟨32, [.tmp 4], b_spec_l13Log⟩) hl hk

theorem l13Log_ac {h : H} {cs c2 : List Value} {m : UMach} {s : UState} (hv : RepR h (spMach m) cs) (hf : machFit m) (hst : StR h c2 s) (hok : stateOk s) : AC Tryz.prog 68 [.agg cs.toArray, .agg c2.toArray] h fun r h' => Ext h h' ∧ Fre h h' r 4 ((logOf m s).map UStep.cells) := by
  have hL := stateOk_log hok
  have l1 := hv.len
  simp only [List.length_cons, List.length_nil, Nat.reduceAdd] at l1
  have t1 := take_len l1
  have o1 := hv.one
  have hsz := areas_ok hf hok
  have hs4 := stateOk_stash hok
  obtain ⟨vs, vd, hcs, fr⟩ := mach_r.1 hv
  unfold logOf
  obtain ⟨L, hLd⟩ : ∃ L, L = s.mine.drop s.stash.toNat := ⟨_, rfl⟩
  have lL : L.length = s.mine.length - s.stash.toNat := by rw [hLd]; simp
  have hmem : ∀ x ∈ L, 0 ≤ x ∧ x ≤ 23 := fun x hx => hL.2.2.2 x (by rw [hLd] at hx; exact List.mem_of_mem_drop hx)
  rw [← hLd] at hsz ⊢
  obtain ⟨uh, um, rfl, sh, sm⟩ := hst
  have o2 := sh.one
  have o3 := sm.one
  have o4 := fr.1.one
  have o5 := fr.2.one
  have c4 : vcl vs = [vs] := fr.1.vcl
  have c5 : vcl vd = [vd] := fr.2.vcl
  have l2 : (ints s.mine).length = s.mine.length := by simp
  have hsh := sm.shape
  rw [l2] at hsh
  obtain ⟨am, cm, rfl⟩ := hsh
  have hd := flashOk_small hf.2.1
  have h27 := hf.2.2
  have hb := hf.1
  skip
  refine w_spec_l13Log (by simp) ?_
  unfold b_spec_l13Log
  simp -implicitDefEqProofs only [go_sem, l1, t1, o1, o2, o3, o4, o5, l2]
  intro b2 hb_b2 n_b2
  simp -implicitDefEqProofs only [go_sem, l1, t1, o1, o2, o3, o4, o5, l2, hb_b2]
  intro b3 hb_b3 m0_b3
  obtain ⟨z_b3_b2, y_b3_b2, n_b3⟩ := fne m0_b3
  simp only [H.set_base] at hb_b3
  simp -implicitDefEqProofs only [go_sem, l1, t1, o1, o2, o3, o4, o5, l2, hb_b2, hb_b3, z_b3_b2, y_b3_b2]
  have E0 : Ext h ((h.set b2 ⟨cs, 3⟩).set b3 ⟨s.cells uh (.slice am s.mine.length cm), 8⟩) := (((Ext.refl _).set' n_b2 _).set' n_b3 _)
  have hSv := hv.ext E0
  have frS := fr.ext E0
  have d1 := sm.ext E0
  have g2 : ((h.set b2 ⟨cs, 3⟩).set b3 ⟨s.cells uh (.slice am s.mine.length cm), 8⟩).get b2 = some ⟨cs, 3⟩ := by simp -implicitDefEqProofs only [go_sem, l1, t1, o1, o2, o3, o4, o5, l2, hb_b2, hb_b3, z_b3_b2, y_b3_b2]
  have g3 : ((h.set b2 ⟨cs, 3⟩).set b3 ⟨s.cells uh (.slice am s.mine.length cm), 8⟩).get b3 = some ⟨s.cells uh (.slice am s.mine.length cm), 8⟩ := by simp -implicitDefEqProofs only [go_sem, l1, t1, o1, o2, o3, o4, o5, l2, hb_b2, hb_b3, z_b3_b2, y_b3_b2]
  generalize hH : (h.set b2 ⟨cs, 3⟩).set b3 ⟨s.cells uh (.slice am s.mine.length cm), 8⟩ = hS at E0 hSv frS g2 g3 d1 ⊢
  skip
  intro b7 hb7 n7
  obtain ⟨_, _, b, o, e, hcap, r2, r3⟩ := d1
  simp only [Value.slice.injEq, List.length_map] at e r2
  have step : ∀ k, (hk : k < L.length) → areasOf m (L.take (k + 1)) = areasOf m (L.take k) ++ [areaOf m L[k]] := fun k hk => by
    unfold areasOf; rw [List.take_succ_eq_append_getElem hk, List.map_append]; rfl
  have len : ∀ k, k ≤ L.length → (areasOf m (L.take k)).length = k := fun k hk => by unfold areasOf; rw [List.length_map, List.length_take]; omega
  have g7 : (hS.set b7 ⟨[], 0⟩).get b7 = some ⟨[], 0⟩ := H.set_get_same _ _ _
  have e7 := (Ext.refl hS).set n7 ⟨[], 0⟩
  have gg3 := e7.2.g b3 _ g3
  subst hcs
  simp -implicitDefEqProofs only [go_sem, ldc_get gg3, c4, c5, l1, t1, o1, o2, o3, o4, o5, l2]
  refine loopW_of (fun n f h' => ∃ (k : Nat) (w : Value), n + k = L.length ∧ f 2 = ptr b2 0 ∧ f 3 = ptr b3 0 ∧ f 6 = i64 (s.stash + k) ∧ f 5 = w ∧ Ext hS h' ∧ Own hS h' w 1 (strs (areasOf m (L.take k)))) L.length
    ⟨0, sl b7 0 0 0, by simp, by simp -implicitDefEqProofs only [go_sem, l1, t1, o1, o2, o3, o4, o5, l2], by simp -implicitDefEqProofs only [go_sem, l1, t1, o1, o2, o3, o4, o5, l2], by simp -implicitDefEqProofs only [go_sem, l1, t1, o1, o2, o3, o4, o5, l2]; simp, by simp -implicitDefEqProofs only [go_sem, l1, t1, o1, o2, o3, o4, o5, l2], e7, .inr ⟨b7, 0, 0, rfl, Nat.le_refl _, hb7, n7, g7, by simp, Wid.nil 1⟩⟩ ?_
  rintro n f h' ⟨k, w, hn, f2, f3, f6, f5, he, ho⟩
  obtain ⟨aw, cw, rfl⟩ := ho.shape
  have hle := len k (by omega)
  have hlw : (strs (areasOf m (L.take k))).length = k := by rw [List.length_map]; exact hle
  rw [hlw] at ho f5
  have gh2 := he.2.g b2 _ g2
  have gh3 := he.2.g b3 _ g3
  skip
  by_cases hk : k < L.length
  · have hk2 : s.stash.toNat + k < s.mine.length := by omega
    have hge : L[k] = s.mine[s.stash.toNat + k] := by subst hLd; simp
    have e1 := ldc_sub he.2 (r3 (s.stash.toNat + k) [i64 L[k]] (by rw [List.getElem?_eq_getElem (by simpa using hk2), List.getElem_map, hge]))
    have hx := hmem _ (List.getElem_mem hk)
    have q1 : s.stash + (k : Int) < (s.mine.length : Int) := by omega
    have q2 : (s.stash + (k : Int)).toNat = s.stash.toNat + k := by omega
    have q3 : (0 : Int) ≤ s.stash + (k : Int) := by omega
    simp -implicitDefEqProofs only [go_sem, hk, e1, q1, q2, q3, l1, t1, o1, o2, o3, o4, o5, l2, f2, f3, f6, f5, r2, c4, c5, ldc_get gh2, ldc_get gh3]
    refine (l13Area_pc (hSv.ext he) hb (by omega)).use ?_
    simp -implicitDefEqProofs only [go_sem, Sub.refl, l1, t1, o1, o2, o3, o4, o5, l2, f2, f3, f6, f5, r2, c4, c5, ldc_get gh2, ldc_get gh3]
    refine (l03Get_pc (frS.ext he) (by omega) (by omega)).use ?_
    simp -implicitDefEqProofs only [go_sem, Sub.refl, l1, t1, o1, o2, o3, o4, o5, l2, f2, f3, f6, f5, r2, c4, c5, ldc_get gh2, ldc_get gh3]
    intro b8 hb8 n8
    refine ⟨((Ext.refl _).set n8 _).2, ?_⟩
    simp -implicitDefEqProofs only [go_sem, l1, t1, o1, o2, o3, o4, o5, l2, f2, f3, f6, f5, r2, c4, c5, ldc_get gh2, ldc_get gh3]
    refine appW_own (new := [[str (areaOf m L[k])]]) (he.set n8 _) (ho.ext ((Ext.refl _).set n8 _)) rfl (by intro r hr; simp at hr; subst hr; rfl) rfl (by simp; omega) ?_
    intro v' h'' he2 ho2 _
    simp -implicitDefEqProofs only [go_sem, wrap_i64 (show -(9223372036854775808 : Int) ≤ (s.stash + (k : Int) + 1) by omega) (show (s.stash + (k : Int) + 1) < 9223372036854775808 by omega), l1, t1, o1, o2, o3, o4, o5, l2, f2, f3, f6, f5, r2, c4, c5, ldc_get gh2, ldc_get gh3]
    exact ⟨n - 1, by omega, h'', Ext.refl _, k + 1, v', by omega, by rw [show s.stash + ((k + 1 : Nat) : Int) = s.stash + (k : Int) + 1 by push_cast; omega], rfl, he2, by rw [step k hk]; simpa using ho2⟩
  · have e : k = L.length := by omega
    subst e
    rw [List.take_length] at ho
    simp -implicitDefEqProofs only [go_sem, show ¬ (s.stash + (L.length : Int) < (s.mine.length : Int)) by omega, l1, t1, o1, o2, o3, o4, o5, l2, f2, f3, f6, f5, r2, c4, c5, ldc_get gh2, ldc_get gh3]
    refine AC_of (l09Scan_ac ho.fre.sl hsz.1 hsz.2) ?_
    rintro v1 h1 - ⟨e1, f1⟩
    simp -implicitDefEqProofs only [go_sem, f1.sl.vcl, l1, t1, o1, o2, o3, o4, o5, l2, f2, f3, f6, f5, r2, c4, c5, ldc_get gh2, ldc_get gh3]
    exact ⟨(E0.trans he).trans e1, f1.back (E0.trans he)⟩
end Go.Proofs.YtiokibikhanfcaaGreat
