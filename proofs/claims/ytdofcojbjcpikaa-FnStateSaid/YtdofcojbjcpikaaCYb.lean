/- A helper of this seat's claims (contracts of the functions): what it shows is shown for every input that its statements name, on no other condition. -/
import Derived.Test.YtdofcojbjcpikaaCYa
set_option linter.unusedVariables false
set_option linter.unusedSimpArgs false
set_option maxRecDepth 100000
namespace Go.Proofs.Ytdofcojbjcpikaa
open Go.KH

/-- The first of a slice of one's own. -/
def OwnP (h0 h : H) (v : Value) (L rest : List Int) : Prop := ∃ a c, v = .slice a L.length c ∧ Own h0 h (.slice a (L ++ rest).length c) 1 (ints (L ++ rest))
theorem OwnP.nil (h0 h : H) : OwnP h0 h nils [] [] := ⟨none, 0, rfl, Own.nil _ _ _⟩
theorem OwnP.of {h0 h : H} {v : Value} {L : List Int} (o : Own h0 h v 1 (ints L)) : OwnP h0 h v L [] := by
  obtain ⟨a, c, rfl⟩ := o.shape
  rw [ints_len] at o ⊢
  exact ⟨a, c, rfl, by simpa using o⟩
theorem OwnP.sl {h0 h : H} {v : Value} {L rest : List Int} (o : OwnP h0 h v L rest) : Sl h v 1 (ints L) := by
  obtain ⟨a, c, rfl, o⟩ := o
  have := o.sl.take (hi := L.length) (by simp)
  rw [ints, ← List.map_take, List.take_left'] at this
  · exact this
  · rfl
theorem OwnP.ext {h0 h h' : H} {v : Value} {L rest : List Int} (o : OwnP h0 h v L rest) (e : Ext h h') : OwnP h0 h' v L rest := by
  obtain ⟨a, c, rfl, o⟩ := o; exact ⟨a, c, rfl, o.ext e⟩
theorem OwnP.back {h0 h1 h : H} {v : Value} {L rest : List Int} (o : OwnP h1 h v L rest) (e : Ext h0 h1) : OwnP h0 h v L rest := by
  obtain ⟨a, c, rfl, o⟩ := o; exact ⟨a, c, rfl, o.back e⟩
theorem OwnP.ob {h0 h : H} {a : Option Addr} {n c : Nat} {L rest : List Int} (o : OwnP h0 h (.slice a n c) L rest) : n = L.length ∧ Own h0 h (.slice a (L ++ rest).length c) 1 (ints (L ++ rest)) := by
  obtain ⟨a', c', e, o⟩ := o
  simp only [Value.slice.injEq] at e
  obtain ⟨rfl, rfl, rfl⟩ := e
  exact ⟨rfl, o⟩
theorem ob_len (a : Option Addr) (n c m d : Nat) : KH.ob (.slice a n c) = KH.ob (.slice a m d) := by cases a <;> rfl
theorem OwnP.setOb {h0 h : H} {v : Value} {L rest : List Int} (o : OwnP h0 h v L rest) {b : Nat} (hne : KH.ob v ≠ some b) (x : Ob) : OwnP h0 (h.set b x) v L rest := by
  obtain ⟨a, c, rfl, o⟩ := o; exact ⟨a, c, rfl, o.setOb (fun q => hne (by rw [ob_len a _ _ (L ++ rest).length c]; exact q)) x⟩
theorem OwnP.obn {h0 h : H} {v : Value} {L rest : List Int} (o : OwnP h0 h v L rest) {b : Nat} (hn : h0.get b ≠ none ∨ h.get b = none) : KH.ob v ≠ some b := fun e => by
  obtain ⟨a, c, rfl, o⟩ := o
  obtain ⟨q1, q2, z, q3⟩ := o.ob_new (b := b) (by rw [ob_len a _ _ L.length c]; exact e)
  rcases hn with hn | hn
  · exact hn q1
  · rw [hn] at q3; cases q3
theorem OwnP.set0 {h0 h : H} {v : Value} {L rest : List Int} (o : OwnP h0 h v L rest) {b : Nat} (hn : h0.get b ≠ none) (x : Ob) : OwnP h0 (h.set b x) v L rest := o.setOb (o.obn (.inl hn)) x
/-- spec.l05Reserve -/
def b_spec_l05Reserve : C := (.seq (.ops [⟨(some 6), none, .alloc [nils, (i64 0)]⟩])
 (.seq (.ops [q 10 (.mv (.t 0)), q 11 (.mv (.t 1)), ⟨(some 12), none, .call (.c (.func (.func 61) #[] #[])) [(.t 10), (.t 11)]⟩, q 7 (.mv (.t 12))])
 (.seq (.seq (.ops [q 13 (.mv (.t 7)), q 14 (.len (.t 13)), q 15 (.mv (.t 2)), q 16 (.bin .lss (.t 14) (.t 15))])
 (.cond (.t 16) (.seq (.ops [q 17 (.build [nils, (i64 0)] [(1, 1, (.c (i64 11)))]), ⟨none, none, .st 2 (.t 6) (.t 17)⟩])
 .ret) .skip))
 (.seq (.ops [q 18 (.mv (.t 7)), ⟨(some 19), none, .call (.c (.func (.func 62) #[] #[])) [(.t 18)]⟩, q 8 (.mv (.t 19))])
 (.seq (.seq (.ops [q 9 (.mv (.c (i64 0)))])
 (.block 0 (.loop (.seq (.seq (.ops [q 20 (.mv (.t 9)), q 21 (.mv (.t 8)), q 22 (.len (.t 21)), q 23 (.bin .lss (.t 20) (.t 22))])
 (.cond (.t 23) .skip (.exit 0)))
 (.seq (.block 1 (.seq (.ops [q 26 (.mv (.t 8)), q 27 (.mv (.t 9)), q 28 (.idx 2 (.t 26) (.t 27)), q 29 (.fld 1 (.t 28)), q 30 (.ld false 1 (.t 29)), q 31 (.mv (.t 2)), q 32 (.bin .geq (.t 30) (.t 31))])
 (.cond (.t 32) (.seq (.dops true (.tk (q 33 (.mv (.t 8))) (.tk (q 34 (.mv (.t 9))) (.tk (q 35 (.idx 2 (.t 33) (.t 34))) (.tk (q 36 (.fld 0 (.t 35))) (.tk (q 37 (.ld false 1 (.t 36))) (.tk (q 38 (.mv (.t 2))) (.tk (q 44 (.mv (.t 2))) (.sq (⟨(some 39), none, .call (.c (.func (.func 64) #[] #[])) [(.c (i64 1)), (.t 38)]⟩) (.tk (q 40 (.build [(i64 0), (i64 0)] [(0, 1, (.t 37)), (1, 1, (.t 39))])) (.sq (⟨(some 41), none, .bsl 1 [(i64 0), (i64 0)] [(0, 2, (.t 40))]⟩) (.sq (⟨(some 42), none, .call (.c (.func (.func 63) #[] #[])) [(.t 41)]⟩) (.tk (q 43 (.part false 0 1 (.t 42))) (.tk (q 45 (.lsl 1 (.t 43) none (some (.t 44)))) (.tk (q 46 (.build [nils, (i64 0)] [(0, 1, (.t 45))])) (.lt (⟨none, none, .st 2 (.t 6) (.t 46)⟩) .nil))))))))))))))))
 .ret) .skip)))
 (.ops [q 24 (.mv (.t 9)), q 25 (.bin .add (.t 24) (.c (i64 1))), q 9 (.mv (.t 25))]))))))
 (.seq (.ops [q 47 (.mv (.t 7)), q 48 (.mv (.t 2)), q 49 (.lsl 1 (.t 47) none (some (.t 48))), q 50 (.build [nils, (i64 0)] [(0, 1, (.t 49))]), ⟨none, none, .st 2 (.t 6) (.t 50)⟩])
 .ret))))))
theorem w_spec_l05Reserve {args : List Value} {h : H} {Q : Value → H → Prop} (hl : args.length ≤ 51) (hk : wpc Try.prog b_spec_l05Reserve (retw [.cell 6 true 2] Q) (argsFr args) h) : AC Try.prog 55 args h Q :=
  AC.of_wpc mixedOrders Try.func55 (by kernel_rfl) (by kernel_rfl : prepF Try.prog Try.f55 = some ⟨51, [.cell 6 true 2], b_spec_l05Reserve⟩) hl hk

theorem l05Reserve_ac {h : H} {va vb : Value} {a b : List Int} {n : Nat} (ha : Sl h va 1 (ints a)) (hb : Sl h vb 1 (ints b)) (la : a.length ≤ 1048576) (lb : b.length ≤ 1048576) (hn : 1 ≤ n ∧ n ≤ 100) : AC Try.prog 55 [va, vb, i64 n] h fun r h' => (∃ u code L rest, r = .agg #[u, i64 code] ∧ in64 code ∧ (L.length ≤ 24 ∧ rest.length ≤ 24) ∧ OwnP h h' u L rest) ∧ Ext h h' := by
  refine w_spec_l05Reserve (by simp) ?_
  unfold b_spec_l05Reserve
  simp -implicitDefEqProofs only [go_sem]
  intro b6 hb6 n6
  have e6 := (Ext.refl h).set n6 ⟨[nils, i64 0], 2⟩
  have g6 : (h.set b6 ⟨[nils, i64 0], 2⟩).get b6 = some ⟨[nils, i64 0], 2⟩ := H.set_get_same _ _ _
  simp -implicitDefEqProofs only [go_sem]
  generalize hH : h.set b6 ⟨[nils, i64 0], 2⟩ = h1 at e6 g6 ⊢
  refine AC_of (l05Free_ac (ha.ext e6) (hb.ext e6) la lb) ?_
  rintro _ h2 - ⟨oF, e2⟩
  have hok := freeTo_ok a b
  have hl := freeTo_len a b 24
  obtain ⟨F, hF⟩ : ∃ F, freeTo a b 24 = F := ⟨_, rfl⟩
  rw [hF] at oF hok hl
  obtain ⟨af, cf, rfl⟩ := oF.shape
  rw [ints_len] at oF ⊢
  have E2 := e6.trans e2
  have g62 := e2.2.g b6 _ g6
  have hb62 : h2.base ≤ b6 := by rw [E2.1]; exact hb6
  by_cases h1 : F.length < n
  · simp -implicitDefEqProofs only [go_sem, show (F.length : Int) < (n : Int) by omega, hb62, stc_get g62, ldc_get (H.set_get_same _ _ _)]
    exact ⟨⟨nils, 11, [], [], rfl, by unfold in64; omega, by simp, OwnP.nil _ _⟩, E2.set' n6 _⟩
  simp -implicitDefEqProofs only [go_sem, show ¬ ((F.length : Int) < (n : Int)) by omega]
  refine AC_of (l05Runs_ac oF.sl hok) ?_
  rintro _ h3 - ⟨⟨E, hE, hEl, oE⟩, e3⟩
  obtain ⟨ae, ce, rfl⟩ := oE.shape
  have hel : (exts E).length = E.length := by simp
  rw [hel] at oE ⊢
  have E3 := E2.trans e3
  have g63 := e3.2.g b6 _ g62
  have hb63 : h3.base ≤ b6 := by rw [E3.1]; exact hb6
  have oF3 := (oF.back e6).ext e3
  simp -implicitDefEqProofs only [go_sem]
  refine loopW_of (fun m f h' => ∃ (k : Nat), m + k = E.length ∧ h' = h3 ∧ f 2 = i64 n ∧ f 6 = ptr b6 0 ∧ f 7 = .slice af F.length cf ∧ f 8 = .slice ae E.length ce ∧ f 9 = i64 k) E.length
    ⟨0, by simp, rfl, by simp -implicitDefEqProofs only [go_sem], by simp -implicitDefEqProofs only [go_sem], by simp -implicitDefEqProofs only [go_sem], by simp -implicitDefEqProofs only [go_sem], by simp -implicitDefEqProofs only [go_sem]; rfl⟩ ?_
  rintro m f h' ⟨k, hm, rfl, f2, f6, f7, f8, f9⟩
  obtain ⟨a', c', b', o', e', hc', r2, r3⟩ := oE.sl
  simp only [Value.slice.injEq, hel, true_and] at e'
  obtain ⟨rfl, rfl⟩ := e'
  rw [hel] at r2
  by_cases hk : k < E.length
  · obtain ⟨⟨p, q⟩, hpq⟩ : ∃ x, E[k]? = some x := ⟨_, List.getElem?_eq_getElem hk⟩
    have dk := r3 k [i64 p, i64 q] (by simp [hpq])
    have d0 := ldc_part dk 0 1 (by omega)
    have d1 := ldc_part dk 1 1 (by omega)
    simp only [List.drop_zero, List.take_succ_cons, List.take_zero, Nat.add_zero, List.drop_succ_cons] at d0 d1
    obtain ⟨x1, x2, x3⟩ := hE (p, q) (List.mem_of_getElem? hpq)
    simp only at x1 x2 x3
    by_cases hq : (n : Int) ≤ q
    rotate_left
    · simp -implicitDefEqProofs only [go_sem, f2, f6, f7, f8, f9, show (k : Int) < (E.length : Int) by omega, Int.natCast_nonneg, Int.toNat_natCast, r2, d1, hq, wrap_i64 (show -(9223372036854775808 : Int) ≤ ((k : Int) + 1) by omega) (show ((k : Int) + 1) < 9223372036854775808 by omega)]
      exact ⟨m - 1, by omega, _, Ext.refl _, k + 1, by omega, rfl, rfl⟩
    simp -implicitDefEqProofs only [go_sem, f2, f6, f7, f8, f9, show (k : Int) < (E.length : Int) by omega, Int.natCast_nonneg, Int.toNat_natCast, r2, d0, d1, hq]
    refine (l03Max_pc _ 1 (n : Int)).use ?_
    have hmx : (if (n : Int) < 1 then (1 : Int) else (n : Int)) = n := by rw [if_neg (by omega)]
    rw [hmx]
    simp -implicitDefEqProofs only [go_sem, f2, f6]
    intro b41 hb41 n41
    have e41 := (Ext.refl h').set n41 ⟨[i64 p, i64 n], 2⟩
    obtain ⟨p, rfl⟩ : ∃ p' : Nat, p = p' := ⟨p.toNat, by omega⟩
    have s41 : Sl (h'.set b41 ⟨[i64 p, i64 n], 2⟩) (sl b41 0 1 1) 2 (exts [((p : Int), (n : Int))]) := Sl.of_get (c := 1) (z := 2) (rows := exts [((p : Int), (n : Int))]) (H.set_get_same _ _ _) (by simp) (exts_wid _)
    simp -implicitDefEqProofs only [go_sem, e41.2]
    refine AC_of (listOf1_ac s41 (by omega)) ?_
    rintro _ h4 - ⟨⟨u, rfl, oU⟩, e4⟩
    have rl := runTo_len p n 24
    have rl2 : (runTo p n 24).length = n := by omega
    obtain ⟨au, cu, rfl⟩ := oU.shape
    rw [ints_len, rl2] at oU ⊢
    have hcu : n ≤ cu := by
      obtain ⟨_, _, _, _, e, hc', _⟩ := oU.sl
      simp only [Value.slice.injEq] at e
      rw [ints_len, rl2] at hc'
      omega
    have e44 := e41.trans e4
    have g64 := e44.2.g b6 _ g63
    have hb64 : h4.base ≤ b6 := by rw [e44.1]; exact hb63
    simp -implicitDefEqProofs only [go_sem, e44.2, f2, Int.natCast_nonneg, Int.toNat_natCast, show (n : Int) ≤ (cu : Int) by omega, hb64, stc_get g64, ldc_get (H.set_get_same _ _ _), f6]
    refine ⟨⟨_, 0, runTo p n 24, [], rfl, by unfold in64; omega, ⟨by omega, by simp⟩, au, cu, by rw [rl2], ?_⟩, (E3.trans e44).set' n6 _⟩
    have o4 := oU.back (E3.trans e41)
    rw [List.append_nil, rl2]
    exact o4.setOb (fun q => by
      obtain ⟨q1, q2, z, q3⟩ := oU.ob_new q
      rw [e41.2.g b6 _ g63] at q1; cases q1) _
  · obtain rfl : k = E.length := by omega
    have hcf : F.length ≤ cf := by
      obtain ⟨_, _, _, _, e, hc', _⟩ := oF.sl
      simp only [Value.slice.injEq] at e
      rw [ints_len] at hc'
      omega
    simp -implicitDefEqProofs only [go_sem, f2, f6, f7, f8, f9, Int.lt_irrefl, Int.natCast_nonneg, Int.toNat_natCast, show (n : Int) ≤ (cf : Int) by omega, hb63, stc_get g63, ldc_get (H.set_get_same _ _ _)]
    have lt : (F.take n).length = n := by rw [List.length_take]; omega
    refine ⟨⟨_, 0, F.take n, F.drop n, rfl, by unfold in64; omega, ⟨by omega, by rw [List.length_drop]; omega⟩, af, cf, by rw [lt], ?_⟩, E3.set' n6 _⟩
    rw [List.take_append_drop]
    exact oF3.setOb (fun q => by
      obtain ⟨q1, q2, z, q3⟩ := oF.ob_new q
      rw [g6] at q1; cases q1) _
/-- spec.Reserve -/
def b_spec_Reserve : C := (.seq (.ops [⟨(some 6), none, .alloc [nils, (i64 0)]⟩])
 (.seq (.seq (.ops [q 7 (.mv (.t 0)), q 8 (.len (.t 7)), q 9 (.bin .gtr (.t 8) (.c (i64 400))), q 10 (.mv (.t 9)), qg 11 10 false (.mv (.t 1)), qg 12 10 false (.len (.t 11)), qg 13 10 false (.bin .gtr (.t 12) (.c (i64 400))), q 14 (.pick (.t 10) (.c (.bool true)) (.t 13))])
 (.cond (.t 14) (.seq (.ops [q 15 (.build [nils, (i64 0)] [(1, 1, (.c (i64 2)))]), ⟨none, none, .st 2 (.t 6) (.t 15)⟩])
 .ret) .skip))
 (.seq (.seq (.ops [q 16 (.mv (.t 0)), ⟨(some 17), none, .call (.c (.func (.func 32) #[] #[])) [(.t 16)]⟩, q 18 (.un .not (.t 17)), q 19 (.mv (.t 18)), qg 20 19 false (.mv (.t 1)), ⟨(some 21), (some (19, false)), .call (.c (.func (.func 32) #[] #[])) [(.t 20)]⟩, qg 22 19 false (.un .not (.t 21)), q 23 (.pick (.t 19) (.c (.bool true)) (.t 22)), q 24 (.mv (.t 23)), qg 25 24 false (.mv (.t 2)), qg 26 24 false (.bin .lss (.t 25) (.c (i64 0))), q 27 (.pick (.t 24) (.c (.bool true)) (.t 26))])
 (.cond (.t 27) (.seq (.ops [q 28 (.build [nils, (i64 0)] [(1, 1, (.c (i64 1)))]), ⟨none, none, .st 2 (.t 6) (.t 28)⟩])
 .ret) .skip))
 (.seq (.ops [q 29 (.mv (.t 0)), q 30 (.mv (.t 1)), q 31 (.mv (.t 2)), ⟨(some 32), none, .call (.c (.func (.func 55) #[] #[])) [(.t 29), (.t 30), (.t 31)]⟩, ⟨none, none, .st 2 (.t 6) (.t 32)⟩])
 .ret))))
theorem w_spec_Reserve {args : List Value} {h : H} {Q : Value → H → Prop} (hl : args.length ≤ 33) (hk : wpc Try.prog b_spec_Reserve (retw [.cell 6 true 2] Q) (argsFr args) h) : AC Try.prog 35 args h Q :=
  AC.of_wpc mixedOrders Try.func35 (by kernel_rfl) (by kernel_rfl : prepF Try.prog Try.f35 = some ⟨33, [.cell 6 true 2], b_spec_Reserve⟩) hl hk

theorem specReserve_ac {h : H} {va vb : Value} {a b : List Int} {n : Nat} (ha : Sl h va 1 (ints a)) (hb : Sl h vb 1 (ints b)) (la : a.length ≤ 1048576) (lb : b.length ≤ 1048576) (hn : 1 ≤ n ∧ n ≤ 100) : AC Try.prog 35 [va, vb, i64 n] h fun r h' => (∃ u code L rest, r = .agg #[u, i64 code] ∧ in64 code ∧ (L.length ≤ 24 ∧ rest.length ≤ 24) ∧ OwnP h h' u L rest) ∧ Ext h h' := by
  obtain ⟨aa, ca, rfl⟩ := ha.shape
  obtain ⟨ab, cb, rfl⟩ := hb.shape
  rw [ints_len] at ha hb ⊢
  rw [ints_len]
  refine w_spec_Reserve (by simp) ?_
  unfold b_spec_Reserve
  simp -implicitDefEqProofs only [go_sem]
  intro b6 hb6 n6
  have e6 := (Ext.refl h).set n6 ⟨[nils, i64 0], 2⟩
  have g6 : (h.set b6 ⟨[nils, i64 0], 2⟩).get b6 = some ⟨[nils, i64 0], 2⟩ := H.set_get_same _ _ _
  have hb6' : (h.set b6 ⟨[nils, i64 0], 2⟩).base ≤ b6 := hb6
  simp -implicitDefEqProofs only [go_sem]
  generalize hH : h.set b6 ⟨[nils, i64 0], 2⟩ = h1 at e6 g6 hb6' ⊢
  have bad : ∀ c : Int, in64 c → (∃ u code L rest, (Value.agg #[nils, i64 c]) = .agg #[u, i64 code] ∧ in64 code ∧ (L.length ≤ 24 ∧ rest.length ≤ 24) ∧ OwnP h (h1.set b6 ⟨[nils, i64 c], 2⟩) u L rest) ∧ Ext h (h1.set b6 ⟨[nils, i64 c], 2⟩) := fun c hc =>
    ⟨⟨nils, c, [], [], rfl, hc, by simp, OwnP.nil _ _⟩, e6.set' n6 _⟩
  by_cases h1 : 400 < a.length
  · simp -implicitDefEqProofs only [go_sem, show (400 : Int) < (a.length : Int) by omega, hb6', stc_get g6, ldc_get (H.set_get_same _ _ _)]
    exact bad 2 (by unfold in64; omega)
  by_cases h2 : 400 < b.length
  · simp -implicitDefEqProofs only [go_sem, show ¬ (400 : Int) < (a.length : Int) by omega, show (400 : Int) < (b.length : Int) by omega, hb6', stc_get g6, ldc_get (H.set_get_same _ _ _)]
    exact bad 2 (by unfold in64; omega)
  simp -implicitDefEqProofs only [go_sem, show ¬ (400 : Int) < (a.length : Int) by omega, show ¬ (400 : Int) < (b.length : Int) by omega]
  refine (specListRight_pc (ha.ext e6) la).use ?_
  by_cases h3 : listOk a
  rotate_left
  · simp -implicitDefEqProofs only [go_sem, h3, hb6', stc_get g6, ldc_get (H.set_get_same _ _ _)]
    exact bad 1 (by unfold in64; omega)
  simp -implicitDefEqProofs only [go_sem, h3]
  refine (specListRight_pc (hb.ext e6) lb).use ?_
  by_cases h4 : listOk b
  rotate_left
  · simp -implicitDefEqProofs only [go_sem, h4, hb6', stc_get g6, ldc_get (H.set_get_same _ _ _)]
    exact bad 1 (by unfold in64; omega)
  simp -implicitDefEqProofs only [go_sem, h4, show ¬ ((n : Int) < 0) by omega]
  refine AC_of (l05Reserve_ac (ha.ext e6) (hb.ext e6) la lb hn) ?_
  rintro _ h5 - ⟨⟨u, code, L, rest, rfl, q1, q2, oP⟩, e5⟩
  have g65 := e5.2.g b6 _ g6
  have hb65 : h5.base ≤ b6 := by rw [e5.1]; exact hb6'
  have hu := oP.sl.vcl
  have ho := oP.sl.one
  simp -implicitDefEqProofs only [go_sem, hb65, stc_get g65, ldc_get (H.set_get_same _ _ _), hu, ho]
  exact ⟨⟨u, code, L, rest, rfl, q1, q2, (oP.setOb (oP.obn (.inl (by rw [g6]; simp))) _).back e6⟩, (e6.trans e5).set' n6 _⟩
/-- (*spec.l01Src).rising -/
def b_spec_l01Src_rising : C := (.seq (.ops [q 6 (.mv (.c nils))])
 (.seq (.ops [⟨(some 9), none, .bsl 0 [] []⟩, q 7 (.mv (.t 9))])
 (.seq (.seq (.ops [q 8 (.mv (.c (i64 0)))])
 (.block 0 (.loop (.seq (.seq (.ops [q 10 (.mv (.t 8)), q 11 (.mv (.t 1)), q 12 (.bin .lss (.t 10) (.t 11))])
 (.cond (.t 12) .skip (.exit 0)))
 (.seq (.block 1 (.seq (.ops [q 15 (.mv (.t 0)), q 16 (.mv (.t 2)), ⟨(some 17), none, .call (.c (.func (.func 38) #[] #[])) [(.t 15), (.t 16)]⟩])
 (.cond (.t 17) (.ops [q 18 (.mv (.t 7)), q 19 (.mv (.t 8)), ⟨(some 20), none, .bsl 1 [(i64 0)] [(0, 1, (.t 19))]⟩, ⟨(some 21), none, .app 1 8 (.t 18) (.t 20)⟩, q 7 (.mv (.t 21))]) .skip)))
 (.ops [q 13 (.mv (.t 8)), q 14 (.bin .add (.t 13) (.c (i64 1))), q 8 (.mv (.t 14))]))))))
 (.seq (.ops [q 22 (.mv (.t 7)), q 6 (.mv (.t 22))])
 .ret))))
theorem w_spec_l01Src_rising {args : List Value} {h : H} {Q : Value → H → Prop} (hl : args.length ≤ 23) (hk : wpc Try.prog b_spec_l01Src_rising (retw [.tmp 6] Q) (argsFr args) h) : AC Try.prog 34 args h Q :=
  AC.of_wpc mixedOrders Try.func34 (by kernel_rfl) (by kernel_rfl : prepF Try.prog Try.f34 = some ⟨23, [.tmp 6], b_spec_l01Src_rising⟩) hl hk

theorem src_rising {h : H} {b most : Nat} {v : Value} {l : List UInt8} {of : Int} (hs : Src v l h b) (hm : most ≤ 1000) (ho : of < 9223372036854775808) : AC Try.prog 34 [ptr b 0, i64 most, i64 of] h fun r h' => (∃ L : List Int, L.length ≤ most ∧ Own h h' r 1 (ints L)) ∧ Drew v l b h h' := by
  have hS : ∀ x, x = b → h.get x ≠ none := fun x e => by subst e; exact hs.known
  have hkn := hs.sl.known
  refine w_spec_l01Src_rising (by simp) ?_
  unfold b_spec_l01Src_rising
  simp -implicitDefEqProofs only [go_sem]
  intro b0 hb0 n0
  simp -implicitDefEqProofs only [go_sem]
  refine loopW_of (fun m f h' => ∃ (k : Nat) (L : List Int) (u : Value), m + k = most ∧ f 0 = ptr b 0 ∧ f 1 = i64 most ∧ f 2 = i64 of ∧ f 7 = u ∧ f 8 = i64 k ∧ L.length ≤ k ∧ Drew v l b h h' ∧ Own h h' u 1 (ints L)) most
    ⟨0, [], sl b0 0 0 0, by simp, by simp -implicitDefEqProofs only [go_sem], by simp -implicitDefEqProofs only [go_sem], by simp -implicitDefEqProofs only [go_sem], by simp -implicitDefEqProofs only [go_sem], by simp -implicitDefEqProofs only [go_sem]; rfl, by simp, Drew.of_ext hs ((Ext.refl _).set n0 _), .inr ⟨b0, 0, 0, rfl, Nat.le_refl _, hb0, n0, H.set_get_same _ _ _, by simp, Wid.nil 1⟩⟩ ?_
  rintro m f h' ⟨k, L, u, hm', f0, f1, f2, rfl, f8, hL, d, o⟩
  obtain ⟨au, cu, f7⟩ := o.shape
  rw [ints_len] at f7
  rw [f7] at o
  by_cases hk : k < most
  rotate_left
  · simp -implicitDefEqProofs only [go_sem, f0, f1, f2, f7, f8, show ¬ ((k : Int) < (most : Int)) by omega]
    exact ⟨⟨L, by omega, o⟩, d⟩
  simp -implicitDefEqProofs only [go_sem, f0, f1, f2, f7, f8, show (k : Int) < (most : Int) by omega]
  refine AC_of (src_one d.2 ho) ?_
  rintro _ h1 - ⟨⟨x, rfl⟩, d1⟩
  have D1 := d.trans d1
  have o1 := o.keepS d1.1 hS
  cases x
  · simp -implicitDefEqProofs only [go_sem, f0, f1, f2, f7, f8, wrap_i64 (show -(9223372036854775808 : Int) ≤ ((k : Int) + 1) by omega) (show ((k : Int) + 1) < 9223372036854775808 by omega)]
    exact ⟨m - 1, by omega, _, Ext.refl _, k + 1, L, _, by omega, rfl, rfl, by omega, D1, o1⟩
  · simp -implicitDefEqProofs only [go_sem, f7, f8]
    intro bx hbx nx
    have D2 := D1.ext ((Ext.refl h1).set nx ⟨[i64 (k : Int)], 1⟩)
    simp -implicitDefEqProofs only [go_sem, f7]
    refine appW_keep (h0 := h) (rows := ints L) (new := ints [(k : Int)]) (fun c hc => Keep.nones D2.1 c hc) (o1.ext ((Ext.refl _).set nx _)) rfl (by intro r hr; simp at hr; subst hr; rfl) rfl (by rw [ints_len]; simp; omega) ?_
    intro v' h2 k2 o2
    simp -implicitDefEqProofs only [go_sem, f0, f1, f2, f8, wrap_i64 (show -(9223372036854775808 : Int) ≤ ((k : Int) + 1) by omega) (show ((k : Int) + 1) < 9223372036854775808 by omega)]
    exact ⟨m - 1, by omega, _, Ext.refl _, k + 1, L ++ [(k : Int)], v', by omega, rfl, rfl, by simp; omega, ⟨Keep.own D2.1 k2, Src.keepM D2.2 k2 hs.known hkn⟩, by simpa using o2⟩
end Go.Proofs.Ytdofcojbjcpikaa
