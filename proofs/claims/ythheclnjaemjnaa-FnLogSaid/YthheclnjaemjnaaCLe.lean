/- A helper of this seat's claims (contracts of the functions): what it shows is shown for every input that its statements name, on no other condition. -/
import Derived.Test.YthheclnjaemjnaaCLd
import Derived.Test.YthheclnjaemjnaaKD
set_option linter.unusedVariables false
set_option linter.unusedSimpArgs false
set_option maxRecDepth 100000
namespace Go.Proofs.Ythheclnjaemjnaa
open Go.KH

/-! ## Sectors drawn -/
def SecAt (v : Value) (l : List UInt8) (b : Nat) (h : H) (B n : Nat) (f : Fr) (h' : H) : Prop := ∃ (T : List (List UInt8)) (u : Value), f 0 = ptr b 0 ∧ f 3 = u ∧ (∀ t ∈ T, t.length ≤ B) ∧ T.length ≤ n ∧ Own h h' u 1 (strs T) ∧ Drew v l b h h'
theorem all_app {T : List (List UInt8)} {t : List UInt8} {B : Nat} (h : ∀ s ∈ T, s.length ≤ B) (ht : t.length ≤ B) : ∀ s ∈ T ++ [t], s.length ≤ B := fun s hs => by
  rcases List.mem_append.1 hs with q | q
  · exact h s q
  · rw [List.mem_singleton.1 q]; exact ht
theorem all_set {T : List (List UInt8)} {t : List UInt8} {B : Nat} (k : Nat) (h : ∀ s ∈ T, s.length ≤ B) (ht : t.length ≤ B) : ∀ s ∈ T.set k t, s.length ≤ B := fun s hs => by
  rcases List.mem_or_eq_of_mem_set hs with q | q
  · exact h s q
  · rw [q]; exact ht
/-- (*spec.l01Src).l09Sectors -/
def b_spec_l01Src_l09Sectors : C := (.seq (.ops [q 2 (.mv (.c nils))])
 (.seq (.ops [⟨(some 8), none, .bsl 0 [] []⟩, q 3 (.mv (.t 8))])
 (.seq (.ops [q 9 (.mv (.t 0)), ⟨(some 10), none, .call (.c (.func (.func 141) #[] #[])) [(.t 9), (.c (i64 4))]⟩, q 4 (.mv (.t 10))])
 (.seq (.seq (.ops [q 5 (.mv (.c (i64 0)))])
 (.block 0 (.loop (.seq (.seq (.ops [q 11 (.mv (.t 5)), q 12 (.mv (.t 4)), q 13 (.len (.t 12)), q 14 (.bin .lss (.t 11) (.t 13))])
 (.cond (.t 14) .skip (.exit 0)))
 (.seq (.block 1 (.ops [q 17 (.mv (.t 3)), q 18 (.mv (.t 5)), q 19 (.mv (.t 4)), q 20 (.mv (.t 5)), q 21 (.idx 4 (.t 19) (.t 20)), q 22 (.ld true 4 (.t 21)), ⟨(some 23), none, .call (.c (.func (.func 17) #[] #[])) [(.t 18), (.t 22)]⟩, ⟨(some 24), none, .bsl 1 [(str [])] [(0, 1, (.t 23))]⟩, ⟨(some 25), none, .app 1 16 (.t 17) (.t 24)⟩, q 3 (.mv (.t 25))]))
 (.ops [q 15 (.mv (.t 5)), q 16 (.bin .add (.t 15) (.c (i64 1))), q 5 (.mv (.t 16))]))))))
 (.seq (.seq (.ops [q 26 (.mv (.t 0)), ⟨(some 27), none, .call (.c (.func (.func 68) #[] #[])) [(.t 26), (.c (i64 4))]⟩, q 6 (.mv (.t 27))])
 (.block 2 (.loop (.seq (.seq (.ops [q 28 (.mv (.t 6)), q 29 (.bin .gtr (.t 28) (.c (i64 0)))])
 (.cond (.t 29) .skip (.exit 2)))
 (.seq (.block 3 (.ops [q 32 (.mv (.t 3)), ⟨(some 33), none, .bsl 1 [(str [])] [(0, 1, (.c (str [])))]⟩, ⟨(some 34), none, .app 1 16 (.t 32) (.t 33)⟩, q 3 (.mv (.t 34))]))
 (.ops [q 30 (.mv (.t 6)), q 31 (.bin .sub (.t 30) (.c (i64 1))), q 6 (.mv (.t 31))]))))))
 (.seq (.seq (.ops [q 35 (.mv (.t 3)), q 36 (.len (.t 35)), q 37 (.bin .gtr (.t 36) (.c (i64 0))), q 38 (.mv (.t 37)), qg 39 38 true (.mv (.t 0)), ⟨(some 40), (some (38, true)), .call (.c (.func (.func 66) #[] #[])) [(.t 39), (.c (i64 4))]⟩, q 41 (.pick (.t 38) (.t 40) (.c (.bool false)))])
 (.cond (.t 41) (.seq (.ops [q 42 (.mv (.t 0)), q 43 (.mv (.t 3)), q 44 (.len (.t 43)), ⟨(some 45), none, .call (.c (.func (.func 68) #[] #[])) [(.t 42), (.t 44)]⟩, q 7 (.mv (.t 45))])
 (.seq (.ops [q 46 (.mv (.t 0)), ⟨(some 47), none, .call (.c (.func (.func 68) #[] #[])) [(.t 46), (.c (i64 3))]⟩])
 (.block 4 (.seq (.ops [q 57 (.bin .eql (.t 47) (.c (i64 0))), q 56 (.mv (.t 57))])
 (.cond (.t 56) (.ops [q 58 (.mv (.t 3)), q 59 (.mv (.t 7)), q 60 (.mv (.t 0)), q 61 (.mv (.t 3)), q 62 (.mv (.t 7)), q 63 (.idx 1 (.t 61) (.t 62)), q 64 (.ld false 1 (.t 63)), ⟨(some 65), none, .call (.c (.func (.func 72) #[] #[])) [(.t 60), (.t 64)]⟩, q 66 (.idx 1 (.t 58) (.t 59)), ⟨none, none, .st 1 (.t 66) (.t 65)⟩]) (.seq (.ops [q 68 (.bin .eql (.t 47) (.c (i64 1))), q 67 (.mv (.t 68))])
 (.cond (.t 67) (.ops [q 69 (.mv (.t 3)), q 70 (.mv (.t 7)), q 71 (.idx 1 (.t 69) (.t 70)), ⟨none, none, .st 1 (.t 71) (.c (str []))⟩]) (.ops [q 48 (.mv (.t 3)), q 49 (.mv (.t 7)), q 50 (.mv (.t 0)), ⟨(some 51), none, .call (.c (.func (.func 68) #[] #[])) [(.t 50), (.c (i64 9))]⟩, q 52 (.mv (.t 0)), ⟨(some 53), none, .call (.c (.func (.func 65) #[] #[])) [(.t 52)]⟩, ⟨(some 54), none, .call (.c (.func (.func 17) #[] #[])) [(.t 51), (.t 53)]⟩, q 55 (.idx 1 (.t 48) (.t 49)), ⟨none, none, .st 1 (.t 55) (.t 54)⟩])))))))) .skip))
 (.seq (.seq (.ops [q 72 (.mv (.t 0)), ⟨(some 73), none, .call (.c (.func (.func 66) #[] #[])) [(.t 72), (.c (i64 25))]⟩])
 (.cond (.t 73) (.block 5 (.loop (.seq (.seq (.ops [q 74 (.mv (.t 3)), q 75 (.len (.t 74)), q 76 (.mv (.t 0)), ⟨(some 77), none, .call (.c (.func (.func 68) #[] #[])) [(.t 76), (.c (i64 2))]⟩, q 78 (.bin .add (.c (i64 24)) (.t 77)), q 79 (.bin .lss (.t 75) (.t 78))])
 (.cond (.t 79) .skip (.exit 5)))
 (.block 6 (.ops [q 80 (.mv (.t 3)), ⟨(some 81), none, .bsl 1 [(str [])] [(0, 1, (.c (str [])))]⟩, ⟨(some 82), none, .app 1 16 (.t 80) (.t 81)⟩, q 3 (.mv (.t 82))]))))) .skip))
 (.seq (.ops [q 83 (.mv (.t 3)), q 2 (.mv (.t 83))])
 .ret))))))))
theorem w_spec_l01Src_l09Sectors {args : List Value} {h : H} {Q : Value → H → Prop} (hl : args.length ≤ 84) (hk : wpc Try.prog b_spec_l01Src_l09Sectors (retw [.tmp 2] Q) (argsFr args) h) : AC Try.prog 76 args h Q :=
  AC.of_wpc mixedOrders Try.func76 (by kernel_rfl) (by kernel_rfl : prepF Try.prog Try.f76 = some ⟨84, [.tmp 2], b_spec_l01Src_l09Sectors⟩) hl hk

set_option maxHeartbeats 3200000 in
theorem src_sectors {h : H} {b : Nat} {v : Value} {l : List UInt8} (hs : Src v l h b) : AC Try.prog 76 [ptr b 0] h fun r h' => (∃ T : List (List UInt8), (∀ t ∈ T, t.length ≤ 101) ∧ T.length ≤ 25 ∧ Own h h' r 1 (strs T)) ∧ Drew v l b h h' := by
  have hS : ∀ x, x = b → h.get x ≠ none := fun x e => by subst e; exact hs.known
  have hkn := hs.sl.known
  refine w_spec_l01Src_l09Sectors (by simp) ?_
  unfold b_spec_l01Src_l09Sectors
  rw [wpc_assoc]
  refine wpc_cut3 (SecAt v l b h 80 20) ?_ ?_
  · simp -implicitDefEqProofs only [go_sem]
    intro b0 hb0 n0
    simp -implicitDefEqProofs only [go_sem]
    have e0 := (Ext.refl h).set n0 ⟨[], 0⟩
    refine AC_of (src_steps (hs.ext e0) (by omega)) ?_
    rintro w h1 - ⟨⟨L, hL, hl, oL⟩, d1⟩
    have D1 := (Drew.of_ext hs e0).trans d1
    have q0 : b0 ≠ b := fun e => by subst e; exact hs.known n0
    have g0 := d1.1.2.1 b0 _ q0 (H.set_get_same _ _ _)
    obtain ⟨aL, cL, rfl⟩ := oL.shape
    have hll : (L.map UStep.cells).length = L.length := by simp
    rw [hll] at oL
    have sL := oL.sl
    have nL : ∀ c, blk (.slice aL L.length cL) = some c → ob (sl b0 0 0 0) ≠ some c := fun c hc he => by
      have h1 := oL.fre.new c hc
      simp only [ob, sl, Option.some.injEq] at he
      rw [← he, H.set_get_same] at h1; cases h1
    skip
    simp -implicitDefEqProofs only [go_sem, hll]
    refine loopW_of (fun m f h' => ∃ (j : Nat) (acc : List (List UInt8)) (u : Value), m + j = L.length ∧ f 0 = ptr b 0 ∧ f 3 = u ∧ f 4 = .slice aL L.length cL ∧ f 5 = i64 (j : Int) ∧ (∀ t ∈ acc, t.length ≤ 80) ∧ acc.length = j ∧ Own h h' u 1 (strs acc) ∧ Drew v l b h h' ∧ Sl h' (.slice aL L.length cL) 4 (L.map UStep.cells) ∧ ∀ c, blk (.slice aL L.length cL) = some c → ob u ≠ some c) L.length
      ⟨0, [], sl b0 0 0 0, by simp, by simp -implicitDefEqProofs only [go_sem, hll], by simp -implicitDefEqProofs only [go_sem, hll], by simp -implicitDefEqProofs only [go_sem, hll], by simp -implicitDefEqProofs only [go_sem, hll]; rfl, by simp, rfl, .inr ⟨b0, 0, 0, rfl, Nat.le_refl _, by rw [d1.1.1, H.set_base]; exact hb0, n0, g0, by simp, Wid.nil 1⟩, D1, sL, nL⟩ ?_
    rintro m f h' ⟨j, acc, u, hm, f0, f3, f4, f5, hok, hacc, o, D, sl', nL'⟩
    obtain ⟨au, cu, rfl⟩ := o.shape
    rw [show (strs acc).length = acc.length by simp] at o f3 nL'
    by_cases hj : j < L.length
    rotate_left
    · simp -implicitDefEqProofs only [go_sem, f4, f5, hj, Int.ofNat_lt, hll]
      exact ⟨acc, _, f0, f3, hok, by omega, o, D⟩
    have sl2 := sl'
    obtain ⟨_, _, bl, ol, el, _, rl, ll⟩ := sl2
    simp only [hll, Value.slice.injEq, true_and] at el rl
    obtain ⟨rfl, rfl⟩ := el
    have dj := ll j (L[j]).cells (by simp [hj])
    have hxj := hL _ (List.getElem_mem hj)
    simp -implicitDefEqProofs only [go_sem, f3, f4, f5, hj, Int.ofNat_lt, Int.natCast_nonneg, rl, dj, hll]
    have h80 := recordBytes_80 (n := (j : Int)) (by unfold in64; omega) hxj.1
    refine PC.use (specRecordBytes_pc _ j L[j] (by unfold in64; omega) hxj.1) ?_
    obtain ⟨t, ht⟩ : ∃ t, recordBytes j L[j] = t := ⟨_, rfl⟩
    rw [ht] at h80 ⊢
    simp -implicitDefEqProofs only [go_sem, f3, hll]
    intro bx hbx nx
    have D4 := D.ext ((Ext.refl h').set nx ⟨[str t], 1⟩)
    have sl4 := sl'.ext ((Ext.refl h').set nx ⟨[str t], 1⟩)
    simp -implicitDefEqProofs only [go_sem, f3, hll]
    refine appW_ownB (h0 := h) (rows := strs acc) (new := [[str t]]) (fun c hc => D4.1.nones c hc) (o.ext ((Ext.refl _).set nx _)) (by simp -implicitDefEqProofs only [go_sem, hll]; rfl) (by intro r hr; simp at hr; subst hr; rfl) rfl (by simp; omega) ?_ (fun hh => by cases hh)
    intro v' b' x nb hob hov o6
    have hne : ∀ c, blk (.slice aL L.length cL) = some c → c ≠ b' := fun c hc e => by
      subst e
      rcases hob with q | q
      · exact nL' c hc q
      · exact sl4.known c hc q
    simp -implicitDefEqProofs only [go_sem, f0, f3, f4, f5, wrap_i64 (show -(9223372036854775808 : Int) ≤ ((j : Int) + 1) by omega) (show ((j : Int) + 1) < 9223372036854775808 by omega), hll]
    exact ⟨m - 1, by omega, _, Ext.refl _, j + 1, acc ++ [t], v', by omega, rfl, rfl, all_app hok (by omega), by simp [hacc], by simpa using o6, Drew.set D4 nb hs _, sl4.set hne _, fun c hc q => hne c hc (hov c q)⟩
  skip
  have grow : ∀ {T : List (List UInt8)} {h1 : H} {aT : Option Addr} {cT bx : Nat} {K : Value → H → Prop}, T.length ≤ 25 → Own h h1 (.slice aT T.length cT) 1 (strs T) → Drew v l b h h1 → h1.base ≤ bx → h1.get bx = none →
      (∀ v' h2, Own h h2 v' 1 (strs (T ++ [[]])) → Drew v l b h h2 → K v' h2) → appW (h1.set bx ⟨[str []], 1⟩) 1 16 (aT, T.length, cT) (1, [str []]) K   := fun {T h1 aT cT bx K} hT o D hbx nx hK => by
    have D4 := D.ext ((Ext.refl h1).set nx ⟨[str []], 1⟩)
    refine appW_ownB (h0 := h) (rows := strs T) (new := [[str []]]) (fun c hc => D4.1.nones c hc) (o.ext ((Ext.refl _).set nx _)) rfl (by intro r hr; simp at hr; subst hr; rfl) rfl (by simp; omega) ?_ (fun hh => by cases hh)
    intro v' b' x nb hob hov o6
    exact hK _ _ (by simpa using o6) (Drew.set D4 nb hs _)
  rintro f1 h1 ⟨T, u, f0, f3, hok, hT, o, D⟩
  refine wpc_cut (SecAt v l b h 80 23) ?_ ?_
  · simp -implicitDefEqProofs only [go_sem, f0]
    refine AC_of (src_n D.2 (by omega)) ?_
    rintro _ h2 - ⟨⟨k, rfl, k0, k1, -⟩, d2⟩
    have hk4 := k1 (by omega)
    have o2 := o.keepS d2.1 hS
    have D2 := D.trans d2
    simp -implicitDefEqProofs only [go_sem, f0, f3]
    refine loopW_of (fun m f h' => ∃ (T : List (List UInt8)) (u : Value), f 0 = ptr b 0 ∧ f 3 = u ∧ f 6 = i64 (m : Int) ∧ (∀ t ∈ T, t.length ≤ 80) ∧ T.length + m ≤ 23 ∧ Own h h' u 1 (strs T) ∧ Drew v l b h h') k.toNat
      ⟨T, u, by simp -implicitDefEqProofs only [go_sem, f0], by simp -implicitDefEqProofs only [go_sem, f3], by simp -implicitDefEqProofs only [go_sem]; rw [show ((k.toNat : Nat) : Int) = k by omega], hok, by omega, o2, D2⟩ ?_
    rintro m f h' ⟨T, u, f0, f3, f6, hok, hT, o, D⟩
    obtain ⟨aT, cT, rfl⟩ := o.shape
    rw [show (strs T).length = T.length by simp] at o f3
    by_cases hm : 0 < m
    · simp -implicitDefEqProofs only [go_sem, f0, f3, f6, show (0 : Int) < (m : Int) by omega]
      intro bx hbx nx
      simp -implicitDefEqProofs only [go_sem, f3]
      refine grow (by omega) o D hbx nx ?_
      intro v' h6 o6 D6
      simp -implicitDefEqProofs only [go_sem, f0, f6, wrap_i64 (show -(9223372036854775808 : Int) ≤ ((m : Int) - 1) by omega) (show ((m : Int) - 1) < 9223372036854775808 by omega)]
      exact ⟨m - 1, by omega, _, Ext.refl _, T ++ [[]], v', rfl, by rw [show ((m - 1 : Nat) : Int) = (m : Int) - 1 by omega], all_app hok (by simp), by simp; omega, o6, D6⟩
    · simp -implicitDefEqProofs only [go_sem, f0, f3, f6, show ¬ ((0 : Int) < (m : Int)) by omega]
      exact ⟨T, _, f0, f3, hok, by omega, o, D⟩
  clear o D hT hok f0 f3
  rintro f1 h1 ⟨T, u, f0, f3, hok, hT, o, D⟩
  refine wpc_cut (SecAt v l b h 101 23) ?_ ?_
  · obtain ⟨aT, cT, rfl⟩ := o.shape
    rw [show (strs T).length = T.length by simp] at o f3
    by_cases hp : 0 < T.length
    rotate_left
    · simp -implicitDefEqProofs only [go_sem, f0, f3, show ¬ (0 : Int) < (T.length : Int) by omega]
      exact ⟨T, _, f0, f3, fun t ht => Nat.le_trans (hok t ht) (by omega), by omega, o, D⟩
    simp -implicitDefEqProofs only [go_sem, f0, f3, show (0 : Int) < (T.length : Int) by omega]
    refine AC_of (src_one D.2 (by omega)) ?_
    rintro _ h2 - ⟨⟨x, rfl⟩, d2⟩
    have o2 := o.keepS d2.1 hS
    have D2 := D.trans d2
    cases x
    · simp -implicitDefEqProofs only [go_sem, f0, f3]
      exact ⟨T, _, f0, f3, fun t ht => Nat.le_trans (hok t ht) (by omega), by omega, o2, D2⟩
    simp -implicitDefEqProofs only [go_sem, f0, f3]
    refine AC_of (src_n D2.2 (by omega)) ?_
    rintro _ h3 - ⟨⟨k, rfl, k0, k1, k2⟩, d3⟩
    have o3 := o2.keepS d3.1 hS
    have D3 := D2.trans d3
    have hk : k < T.length := by
      by_cases h1 : (1 : Int) < T.length
      · exact k1 h1
      · have := k2 (by omega); omega
    obtain ⟨d, rfl⟩ : ∃ d : Nat, k = d := ⟨k.toNat, by omega⟩
    have hd : d < T.length := by omega
    simp -implicitDefEqProofs only [go_sem, f0, f3]
    refine AC_of (src_n D3.2 (by omega)) ?_
    rintro _ h4 - ⟨⟨w, rfl, w0, w1, -⟩, d4⟩
    have o4 := o3.keepS d4.1 hS
    have D4 := D3.trans d4
    have put : ∀ {hX : H} {TT : List UInt8}, Own h hX (.slice aT T.length cT) 1 (strs T) → Drew v l b h hX → TT.length ≤ 101 → ∃ bs c, aT = some ⟨bs, 0, none⟩ ∧ hX.base ≤ bs ∧ stc hX bs (d * 1) [str TT] 1 = some c ∧ Own h c (.slice aT T.length cT) 1 (strs (T.set d TT)) ∧ Drew v l b h c := fun {hX TT} OO DD ht => by
      obtain ⟨bs, cs, z, hus, hbs, nbs, gs, hst, o6⟩ := own_put OO (k := d) (by simp; omega) (r := [str TT]) rfl rfl
      have e6 : strs (T.set d TT) = (strs T).set d [str TT] := by rw [strs, strs, List.map_set]
      rw [← e6] at o6 hst
      simp only [sl, Value.slice.injEq] at hus
      exact ⟨bs, _, hus.1, hbs, hst, o6, Drew.set DD nbs hs _⟩
    have sT : ∀ {hX : H}, Own h hX (.slice aT T.length cT) 1 (strs T) → ∃ bs, aT = some ⟨bs, 0, none⟩ ∧ ldc hX bs (d * 1) 1 = some [str T[d]] := fun {hX} OO => by
      obtain ⟨bs, cs, z, hus, hbs, nbs, gs, hst, o6⟩ := own_put OO (k := d) (by simp; omega) (r := [str []]) rfl rfl
      simp only [sl, Value.slice.injEq] at hus
      have := ldc_pre gs (List.prefix_refl _) (strs_wid T) (k := d) (by simp; omega)
      exact ⟨bs, hus.1, by rw [this]; simp⟩
    have hokB : ∀ t ∈ T, t.length ≤ 101 := fun t ht => Nat.le_trans (hok t ht) (by omega)
    have fin : ∀ {TT : List UInt8}, TT.length ≤ 101 → (∀ t ∈ T.set d TT, t.length ≤ 101) ∧ (T.set d TT).length ≤ 23 := fun ht => ⟨all_set d hokB ht, by simp; omega⟩
    have dl : (d : Int) < (T.length : Int) := by omega
    by_cases h0 : w = 0
    · obtain ⟨bs, rfl, hld⟩ := sT o4
      simp -implicitDefEqProofs only [go_sem, f0, f3, eq_true h0, hld, Int.natCast_nonneg, Int.ofNat_lt, hd, Int.toNat_natCast]
      have hTd := hok _ (List.getElem_mem hd)
      refine AC_of (src_spoil D4.2 (by omega)) ?_
      rintro _ h5 - ⟨⟨t, ht, rfl⟩, d5⟩
      have o5 := o4.keepS d5.1 hS
      have D5 := D4.trans d5
      obtain ⟨bs', c, e, hb, hst, o6, D6⟩ := put (TT := t) o5 D5 (by omega)
      simp only [Option.some.injEq, Addr.mk.injEq, and_true] at e
      subst e
      obtain ⟨q1, q2⟩ := fin (TT := t) (by omega)
      simp -implicitDefEqProofs only [go_sem, f0, f3, Int.natCast_nonneg, Int.ofNat_lt, hd, Int.toNat_natCast, hb, hst]
      exact ⟨_, _, f0, f3, q1, q2, by simpa using o6, D6⟩
    by_cases h1 : w = 1
    · obtain ⟨bs, c, rfl, hb, hst, o6, D6⟩ := put (TT := []) o4 D4 (by simp)
      obtain ⟨q1, q2⟩ := fin (TT := []) (by simp)
      simp -implicitDefEqProofs only [go_sem, f0, f3, eq_false h0, eq_true h1, Int.natCast_nonneg, Int.ofNat_lt, hd, Int.toNat_natCast, hb, hst]
      exact ⟨_, _, f0, f3, q1, q2, by simpa using o6, D6⟩
    simp -implicitDefEqProofs only [go_sem, f0, f3, eq_false h0, eq_false h1]
    refine AC_of (src_n D4.2 (by omega)) ?_
    rintro _ h5 - ⟨⟨n9, rfl, y0, y1, -⟩, d5⟩
    have o5 := o4.keepS d5.1 hS
    have D5 := D4.trans d5
    have hn9 := y1 (by omega)
    simp -implicitDefEqProofs only [go_sem, f0, f3]
    refine AC_of (src_any D5.2) ?_
    rintro _ h6 - ⟨⟨x, hx, rfl⟩, d6⟩
    have o6 := o5.keepS d6.1 hS
    have D6 := D5.trans d6
    simp -implicitDefEqProofs only [go_sem, f0, f3]
    have h80 := recordBytes_80 (n := n9) (by unfold in64; omega) hx.1
    refine PC.use (specRecordBytes_pc _ n9 x (by unfold in64; omega) hx.1) ?_
    obtain ⟨t, ht⟩ : ∃ t, recordBytes n9 x = t := ⟨_, rfl⟩
    rw [ht] at h80 ⊢
    obtain ⟨bs, c, rfl, hb, hst, o7, D7⟩ := put (TT := t) o6 D6 (by omega)
    obtain ⟨q1, q2⟩ := fin (TT := t) (by omega)
    simp -implicitDefEqProofs only [go_sem, f0, f3, Int.natCast_nonneg, Int.ofNat_lt, hd, Int.toNat_natCast, hb, hst]
    exact ⟨_, _, f0, f3, q1, q2, by simpa using o7, D7⟩
  clear o D hT hok f0 f3
  rintro f1 h1 ⟨T, u, f0, f3, hok, hT, o, D⟩
  refine wpc_cut (SecAt v l b h 101 25) ?_ ?_
  · simp -implicitDefEqProofs only [go_sem, f0]
    refine AC_of (src_one D.2 (by omega)) ?_
    rintro _ h2 - ⟨⟨x, rfl⟩, d2⟩
    have o2 := o.keepS d2.1 hS
    have D2 := D.trans d2
    cases x
    · simp -implicitDefEqProofs only [go_sem, f0, f3]
      exact ⟨T, _, f0, f3, hok, by omega, o2, D2⟩
    simp -implicitDefEqProofs only [go_sem, f0, f3]
    refine loopW_of (fun m f h' => ∃ (T : List (List UInt8)) (u : Value), T.length + m = 25 ∧ f 0 = ptr b 0 ∧ f 3 = u ∧ (∀ t ∈ T, t.length ≤ 101) ∧ Own h h' u 1 (strs T) ∧ Drew v l b h h') (25 - T.length)
      ⟨T, u, by omega, by simp -implicitDefEqProofs only [go_sem, f0], by simp -implicitDefEqProofs only [go_sem, f3], hok, o2, D2⟩ ?_
    rintro m f h' ⟨T, u, hm, f0, f3, hok, o, D⟩
    obtain ⟨aT, cT, rfl⟩ := o.shape
    rw [show (strs T).length = T.length by simp] at o f3
    simp -implicitDefEqProofs only [go_sem, f0, f3]
    refine AC_of (src_n D.2 (by omega)) ?_
    rintro _ h3 - ⟨⟨k, rfl, k0, k1, -⟩, d3⟩
    have hk := k1 (by omega)
    have o3 := o.keepS d3.1 hS
    have D3 := D.trans d3
    by_cases hlt : (T.length : Int) < 24 + k
    · simp -implicitDefEqProofs only [go_sem, f0, f3, wrap_i64 (show -(9223372036854775808 : Int) ≤ (24 + k) by omega) (show (24 + k) < 9223372036854775808 by omega), hlt]
      intro bx hbx nx
      simp -implicitDefEqProofs only [go_sem, f3]
      refine grow (by omega) o3 D3 hbx nx ?_
      intro v' h6 o6 D6
      simp -implicitDefEqProofs only [go_sem, f0]
      exact ⟨m - 1, by omega, _, Ext.refl _, T ++ [[]], v', by simp; omega, rfl, all_app hok (by simp), o6, D6⟩
    · simp -implicitDefEqProofs only [go_sem, f0, f3, wrap_i64 (show -(9223372036854775808 : Int) ≤ (24 + k) by omega) (show (24 + k) < 9223372036854775808 by omega), hlt]
      exact ⟨T, _, f0, f3, hok, by omega, o3, D3⟩
  clear o D hT hok f0 f3
  rintro f1 h1 ⟨T, u, f0, f3, hok, hT, o, D⟩
  simp -implicitDefEqProofs only [go_sem, f3, o.sl.vcl]
  exact ⟨⟨T, hok, hT, o⟩, D⟩
/-- spec.DrawScan -/
def b_spec_DrawScan : C := (.seq (.ops [q 2 (.mv (.c nils))])
 (.seq (.ops [q 3 (.mv (.t 0)), ⟨(some 4), none, .call (.c (.func (.func 64) #[] #[])) [(.t 3)]⟩, ⟨(some 5), none, .call (.c (.func (.func 76) #[] #[])) [(.t 4)]⟩, q 2 (.mv (.t 5))])
 .ret))
theorem w_spec_DrawScan {args : List Value} {h : H} {Q : Value → H → Prop} (hl : args.length ≤ 6) (hk : wpc Try.prog b_spec_DrawScan (retw [.tmp 2] Q) (argsFr args) h) : AC Try.prog 14 args h Q :=
  AC.of_wpc mixedOrders Try.func14 (by kernel_rfl) (by kernel_rfl : prepF Try.prog Try.f14 = some ⟨6, [.tmp 2], b_spec_DrawScan⟩) hl hk

theorem drawScan_ac {h : H} {v : Value} {l : List UInt8} (hv : Sl h v 1 (bys l)) (hn : l.length ≤ 1048576) : AC Try.prog 14 [v] h fun r h' => Ext h h' ∧ ∃ T : List (List UInt8), (∀ t ∈ T, t.length ≤ 101) ∧ T.length ≤ 25 ∧ Sl h' r 1 (strs T) := by
  refine w_spec_DrawScan (by simp) ?_
  unfold b_spec_DrawScan
  simp -implicitDefEqProofs only [go_sem]
  refine AC_of (source_ac hv hn) ?_
  rintro _ h1 - ⟨b, rfl, nb, e1, hs⟩
  have ex : ∀ {h' : H}, Drew v l b h1 h' → Ext h h' := fun d => Keep.ext (S := fun x => x = b) e1 d.1 (fun c hc => by subst hc; exact nb)
  simp -implicitDefEqProofs only [go_sem]
  refine AC_of (src_sectors hs) ?_
  rintro u h2 - ⟨⟨T, hT, hl, o⟩, d2⟩
  simp -implicitDefEqProofs only [go_sem, o.sl.vcl]
  exact ⟨ex d2, T, hT, hl, o.sl⟩
end Go.Proofs.Ythheclnjaemjnaa
