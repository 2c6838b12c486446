/- A helper of this seat's claims (contracts of the functions): what it shows is shown for every input that its statements name, on no other condition. -/
import Derived.Test.YthjbhdmjfakfaaaGreatDoorKD
import Derived.Test.YthjbhdmjfakfaaaGreatDoorC07m
set_option linter.unusedVariables false
set_option linter.unusedSimpArgs false
set_option maxRecDepth 100000
namespace Go.Proofs.YthjbhdmjfakfaaaGreatDoor
open Go.KH

/-! ## Draws -/
/-- A source of draws: how far it is drawn is not known any closer. -/
def Src (v : Value) (l : List UInt8) (h : H) (b : Nat) : Prop := ∃ (a : Nat) (mix size : Int), h.get b = some ⟨[v, i64 a, .int .u64 mix, i64 size], 4⟩ ∧ Sl h v 1 (bys l) ∧ h.base ≤ b ∧ l.length ≤ 1048576 ∧ a ≤ l.length ∧ (0 ≤ size ∧ size ≤ 12) ∧ ∀ c, blk v = some c → c ≠ b
theorem Src.known {v : Value} {l : List UInt8} {h : H} {b : Nat} (s : Src v l h b) : h.get b ≠ none := by obtain ⟨a, m, z, hg, _⟩ := s; rw [hg]; simp
theorem Src.sl {v : Value} {l : List UInt8} {h : H} {b : Nat} (s : Src v l h b) : Sl h v 1 (bys l) := by obtain ⟨a, m, z, hg, h1, _⟩ := s; exact h1
theorem Src.keep {S : Nat → Prop} {v : Value} {l : List UInt8} {h h' : H} {b : Nat} (s : Src v l h b) (k : Keep S h h') (hb : ¬ S b) (hv : ∀ c, blk v = some c → ¬ S c) : Src v l h' b := by
  obtain ⟨a, m, z, hg, h1, h2, h3, h4, h5, h6⟩ := s
  exact ⟨a, m, z, k.2.1 b _ hb hg, h1.keep k hv, by rw [k.1]; exact h2, h3, h4, h5, h6⟩
theorem Src.ext {v : Value} {l : List UInt8} {h h' : H} {b : Nat} (s : Src v l h b) (e : Ext h h') : Src v l h' b := by
  obtain ⟨a, m, z, hg, h1, h2, h3, h4, h5, h6⟩ := s
  exact ⟨a, m, z, e.2.g b _ hg, h1.ext e, by rw [e.1]; exact h2, h3, h4, h5, h6⟩
theorem Src.keepM {h0 : H} {v : Value} {l : List UInt8} {h h' : H} {b : Nat} (s : Src v l h b) (k : KeepM (fun x => h0.get x = none) (fun _ => False) h h') (hb : h0.get b ≠ none) (hv : Known h0 v) : Src v l h' b := by
  obtain ⟨a, m, z, hg, h1, h2, h3, h4, h5, h6⟩ := s
  exact ⟨a, m, z, k.2.1 b _ hb hg, k.sl h1 (fun c hc => hv c hc), by rw [k.1]; exact h2, h3, h4, h5, h6⟩
/-- What drawing does to the memory. -/
def Drew (v : Value) (l : List UInt8) (b : Nat) (h h' : H) : Prop := Keep (fun x => x = b) h h' ∧ Src v l h' b
theorem Drew.trans {v : Value} {l : List UInt8} {b : Nat} {h1 h2 h3 : H} (d : Drew v l b h1 h2) (e : Drew v l b h2 h3) : Drew v l b h1 h3 := ⟨d.1.trans e.1, e.2⟩
theorem Drew.ext {v : Value} {l : List UInt8} {b : Nat} {h1 h2 h3 : H} (d : Drew v l b h1 h2) (e : Ext h2 h3) : Drew v l b h1 h3 := ⟨d.1.trans (e.keep _), d.2.ext e⟩
theorem Drew.of_ext {v : Value} {l : List UInt8} {b : Nat} {h1 h2 : H} (s : Src v l h1 b) (e : Ext h1 h2) : Drew v l b h1 h2 := ⟨e.keep _, s.ext e⟩
/-- A block of one's own that is written. -/
theorem Drew.set {v : Value} {l : List UInt8} {b : Nat} {h1 h2 : H} (d : Drew v l b h1 h2) {c : Nat} (hn : h1.get c = none) (s : Src v l h1 b) (ob : Ob) : Drew v l b h1 (h2.set c ob) := by
  have hcb : c ≠ b := fun e => by subst e; exact s.known hn
  refine ⟨⟨d.1.1, fun x ox hx hg => ?_, d.1.2.2.1, fun x hx => ?_⟩, ?_⟩
  · rw [H.set_get_ne _ _ _ _ (fun e => by subst e; rw [hn] at hg; cases hg)]; exact d.1.2.1 x ox hx hg
  · by_cases e : x = c
    · subst e; rw [H.set_get_same]; simp
    · rw [H.set_get_ne _ _ _ _ e]; exact d.1.2.2.2 x hx
  · obtain ⟨a, m, z, hg, q1, q2, q3, q4, q5, q6⟩ := d.2
    exact ⟨a, m, z, by rw [H.set_get_ne _ _ _ _ hcb.symm]; exact hg, q1.set (fun x hx e => by subst e; exact s.sl.known x hx hn) _, q2, q3, q4, q5, q6⟩
theorem draw_bound (X : Int) {most : Int} (h1 : 1 < most) (h2 : most < 9223372036854775808) : 0 ≤ IntKind.i64.wrap ((IntKind.u64.wrap X).tmod most) ∧ IntKind.i64.wrap ((IntKind.u64.wrap X).tmod most) < most := by
  have h0 : 0 ≤ IntKind.u64.wrap X := by
    rw [wrap_u64m]; omega
  have e := Int.tmod_eq_emod_of_nonneg (b := most) h0
  have l1 := Int.emod_nonneg (IntKind.u64.wrap X) (b := most) (by omega)
  have l2 := Int.emod_lt_of_pos (IntKind.u64.wrap X) (b := most) (by omega)
  rw [e, wrap_i64 (by omega) (by omega)]
  exact ⟨l1, l2⟩
/-- (*spec.l01Src).n -/
def b_spec_l01Src_n : C := (.seq (.ops [q 4 (.mv (.c (i64 0)))])
 (.seq (.seq (.ops [q 6 (.mv (.t 1)), q 7 (.bin .leq (.t 6) (.c (i64 1)))])
 (.cond (.t 7) (.seq (.ops [q 4 (.mv (.c (i64 0)))])
 .ret) .skip))
 (.seq (.ops [q 5 (.mv (.c (.int .u64 0)))])
 (.seq (.seq (.dops true (.tk (q 8 (.mv (.t 0))) (.tk (q 9 (.nck (.t 8))) (.tk (q 10 (.fld 1 (.t 9))) (.tk (q 11 (.ld false 1 (.t 10))) (.tk (q 12 (.mv (.t 0))) (.tk (q 13 (.nck (.t 12))) (.tk (q 14 (.fld 0 (.t 13))) (.tk (q 15 (.ld false 1 (.t 14))) (.tk (q 16 (.len (.t 15))) (.tk (q 17 (.bin .lss (.t 11) (.t 16))) .nil)))))))))))
 (.cond (.t 17) (.seq (.dops true (.tk (q 18 (.mv (.t 0))) (.tk (q 19 (.nck (.t 18))) (.tk (q 20 (.fld 0 (.t 19))) (.tk (q 21 (.ld false 1 (.t 20))) (.tk (q 22 (.mv (.t 0))) (.tk (q 23 (.nck (.t 22))) (.tk (q 24 (.fld 1 (.t 23))) (.tk (q 25 (.ld false 1 (.t 24))) (.tk (q 26 (.idx 1 (.t 21) (.t 25))) (.tk (q 27 (.ld false 1 (.t 26))) (.tk (q 28 (.cv .u64 (.t 27))) (.tk (q 5 (.mv (.t 28))) .nil)))))))))))))
 (.ops [q 29 (.mv (.t 0)), q 30 (.mv (.t 0)), q 31 (.nck (.t 30)), q 32 (.fld 1 (.t 31)), q 33 (.ld false 1 (.t 32)), q 34 (.bin .add (.t 33) (.c (i64 1))), q 35 (.nck (.t 29)), q 36 (.fld 1 (.t 35)), ⟨none, none, .st 1 (.t 36) (.t 34)⟩])) .skip))
 (.seq (.dops true (.tk (q 37 (.mv (.t 0))) (.tk (q 38 (.mv (.t 0))) (.tk (q 39 (.nck (.t 38))) (.tk (q 40 (.fld 2 (.t 39))) (.tk (q 41 (.ld false 1 (.t 40))) (.tk (q 42 (.mv (.t 0))) (.tk (q 43 (.nck (.t 42))) (.tk (q 44 (.fld 2 (.t 43))) (.tk (q 45 (.ld false 1 (.t 44))) (.tk (q 46 (.bin .shl (.t 45) (.c (.int .u64 13)))) (.tk (q 47 (.bin .xor (.t 41) (.t 46))) (.tk (q 48 (.nck (.t 37))) (.tk (q 49 (.fld 2 (.t 48))) (.lt (⟨none, none, .st 1 (.t 49) (.t 47)⟩) .nil)))))))))))))))
 (.seq (.dops true (.tk (q 50 (.mv (.t 0))) (.tk (q 51 (.mv (.t 0))) (.tk (q 52 (.nck (.t 51))) (.tk (q 53 (.fld 2 (.t 52))) (.tk (q 54 (.ld false 1 (.t 53))) (.tk (q 55 (.mv (.t 0))) (.tk (q 56 (.nck (.t 55))) (.tk (q 57 (.fld 2 (.t 56))) (.tk (q 58 (.ld false 1 (.t 57))) (.tk (q 59 (.bin .shr (.t 58) (.c (.int .u64 7)))) (.tk (q 60 (.bin .xor (.t 54) (.t 59))) (.tk (q 61 (.nck (.t 50))) (.tk (q 62 (.fld 2 (.t 61))) (.lt (⟨none, none, .st 1 (.t 62) (.t 60)⟩) .nil)))))))))))))))
 (.seq (.dops true (.tk (q 63 (.mv (.t 0))) (.tk (q 64 (.mv (.t 0))) (.tk (q 65 (.nck (.t 64))) (.tk (q 66 (.fld 2 (.t 65))) (.tk (q 67 (.ld false 1 (.t 66))) (.tk (q 68 (.mv (.t 0))) (.tk (q 69 (.nck (.t 68))) (.tk (q 70 (.fld 2 (.t 69))) (.tk (q 71 (.ld false 1 (.t 70))) (.tk (q 72 (.bin .shl (.t 71) (.c (.int .u64 17)))) (.tk (q 73 (.bin .xor (.t 67) (.t 72))) (.tk (q 74 (.nck (.t 63))) (.tk (q 75 (.fld 2 (.t 74))) (.lt (⟨none, none, .st 1 (.t 75) (.t 73)⟩) .nil)))))))))))))))
 (.seq (.ops [q 76 (.mv (.t 5)), q 77 (.mv (.t 0)), q 78 (.nck (.t 77)), q 79 (.fld 2 (.t 78)), q 80 (.ld false 1 (.t 79)), q 81 (.bin .shr (.t 80) (.c (.int .u64 20))), q 82 (.bin .add (.t 76) (.t 81)), q 83 (.mv (.t 1)), q 84 (.cv .u64 (.t 83)), q 85 (.bin .rem (.t 82) (.t 84)), q 86 (.cv .i64 (.t 85)), q 4 (.mv (.t 86))])
 .ret))))))))
theorem w_spec_l01Src_n {args : List Value} {h : H} {Q : Value → H → Prop} (hl : args.length ≤ 87) (hk : wpc Tryz.prog b_spec_l01Src_n (retw [.tmp 4] Q) (argsFr args) h) : AC Tryz.prog 43 args h Q :=
  AC.of_wpc mixedOrders Tryz.func43 (by kernel_rfl) (by kernel_rfl : prepF Tryz.prog Tryz.f43 = some ⟨87, [.tmp 4], b_spec_l01Src_n⟩) hl hk

theorem src_n {h : H} {b : Nat} {v : Value} {l : List UInt8} {most : Int} (hs : Src v l h b) (hm : most < 9223372036854775808) : AC Tryz.prog 43 [ptr b 0, i64 most] h fun r h' => (∃ k : Int, r = i64 k ∧ 0 ≤ k ∧ (1 < most → k < most) ∧ (most ≤ 1 → k = 0)) ∧ Drew v l b h h' := by
  have hs0 := hs
  obtain ⟨a, mix, size, hg, hv, hb, hl, ha, hz, hd⟩ := hs
  have hs' := hv
  obtain ⟨va, vc, vb, vo, rfl, hc, r2, r3⟩ := hv
  have hbl : (bys l).length = l.length := by simp [bys]
  rw [hbl] at r2 hs' hd
  have h1' : ¬ most ≤ 1 → 1 < most := by omega
  refine w_spec_l01Src_n (by simp) ?_
  unfold b_spec_l01Src_n
  simp -implicitDefEqProofs only [go_sem]
  by_cases h1 : most ≤ 1
  · simp -implicitDefEqProofs only [go_sem, h1]
    exact ⟨⟨0, rfl, by omega, by omega, fun _ => rfl⟩, Keep.refl _ _, hs0⟩
  have hw : IntKind.u64.wrap most = most := wrap_u64 (by omega) (by omega)
  have hm0 : ¬ most = 0 := by omega
  have sub : ∀ X, Sl (h.set b X) (.slice va l.length vc) 1 (bys l) := fun X => hs'.set (fun c hc => hd c hc) _
  have kp : ∀ X, Keep (fun x => x = b) h (h.set b X) := fun X => (Keep.refl (fun x => x = b) h).set (.inl rfl) _
  by_cases h2 : a < l.length
  · have e1 := r3 a [u8 (l[a]).toNat] (by simp [bys, h2])
    simp -implicitDefEqProofs only [go_sem, h1, hw, hm0, ldc_get hg, stc_get hg, hb, hbl, h2, r2, e1, Int.ofNat_lt, Int.natCast_nonneg, wrap_i64 (show -(9223372036854775808 : Int) ≤ ((a : Int) + 1) by omega) (show ((a : Int) + 1) < 9223372036854775808 by omega)]
    refine ⟨⟨_, rfl, ?_, ?_, ?_⟩, kp _, ⟨a + 1, _, size, H.set_get_same _ _ _, sub _, hb, hl, by omega, hz, hd⟩⟩
    · exact (draw_bound (most := most) _ (h1' h1) hm).1
    · intro _; exact (draw_bound (most := most) _ (h1' h1) hm).2
    · intro q; exact q.elim
  · simp -implicitDefEqProofs only [go_sem, h1, hw, hm0, ldc_get hg, stc_get hg, hb, hbl, h2, r2, Int.ofNat_lt, Int.natCast_nonneg]
    refine ⟨⟨_, rfl, ?_, ?_, ?_⟩, kp _, ⟨a, _, size, H.set_get_same _ _ _, sub _, hb, hl, by omega, hz, hd⟩⟩
    · exact (draw_bound (most := most) _ (h1' h1) hm).1
    · intro _; exact (draw_bound (most := most) _ (h1' h1) hm).2
    · intro q; exact q.elim
/-- (*spec.l01Src).one -/
def b_spec_l01Src_one : C := (.seq (.ops [q 4 (.mv (.c (.bool false)))])
 (.seq (.ops [q 5 (.mv (.t 0)), q 6 (.mv (.t 1)), ⟨(some 7), none, .call (.c (.func (.func 43) #[] #[])) [(.t 5), (.t 6)]⟩, q 8 (.bin .eql (.t 7) (.c (i64 0))), q 4 (.mv (.t 8))])
 .ret))
theorem w_spec_l01Src_one {args : List Value} {h : H} {Q : Value → H → Prop} (hl : args.length ≤ 9) (hk : wpc Tryz.prog b_spec_l01Src_one (retw [.tmp 4] Q) (argsFr args) h) : AC Tryz.prog 48 args h Q :=
  AC.of_wpc mixedOrders Tryz.func48 (by kernel_rfl) (by kernel_rfl : prepF Tryz.prog Tryz.f48 = some ⟨9, [.tmp 4], b_spec_l01Src_one⟩) hl hk

theorem src_one {h : H} {b : Nat} {v : Value} {l : List UInt8} {most : Int} (hs : Src v l h b) (hm : most < 9223372036854775808) : AC Tryz.prog 48 [ptr b 0, i64 most] h fun r h' => (∃ x : Bool, r = .bool x) ∧ Drew v l b h h' := by
  refine w_spec_l01Src_one (by simp) ?_
  unfold b_spec_l01Src_one
  simp -implicitDefEqProofs only [go_sem]
  refine AC_of (src_n hs hm) ?_
  rintro _ h1 - ⟨⟨k, rfl, -⟩, d⟩
  simp -implicitDefEqProofs only [go_sem]
  exact ⟨⟨_, rfl⟩, d⟩
/-- (*spec.l01Src).pick -/
def b_spec_l01Src_pick : C := (.seq (.ops [q 4 (.mv (.c (str [])))])
 (.seq (.ops [q 5 (.mv (.t 1)), q 6 (.mv (.t 0)), q 7 (.mv (.t 1)), q 8 (.len (.t 7)), ⟨(some 9), none, .call (.c (.func (.func 43) #[] #[])) [(.t 6), (.t 8)]⟩, q 10 (.idx 1 (.t 5) (.t 9)), q 11 (.ld false 1 (.t 10)), q 4 (.mv (.t 11))])
 .ret))
theorem w_spec_l01Src_pick {args : List Value} {h : H} {Q : Value → H → Prop} (hl : args.length ≤ 12) (hk : wpc Tryz.prog b_spec_l01Src_pick (retw [.tmp 4] Q) (argsFr args) h) : AC Tryz.prog 171 args h Q :=
  AC.of_wpc mixedOrders Tryz.func171 (by kernel_rfl) (by kernel_rfl : prepF Tryz.prog Tryz.f171 = some ⟨12, [.tmp 4], b_spec_l01Src_pick⟩) hl hk

theorem src_pick {h : H} {b : Nat} {v u : Value} {l : List UInt8} {t : List (List UInt8)} (hs : Src v l h b) (hu : Sl h u 1 (strs t)) (ht : 1 < t.length ∧ t.length ≤ 1000) (hd : ∀ c, blk u = some c → c ≠ b) : AC Tryz.prog 171 [ptr b 0, u] h fun r h' => (∃ s, s ∈ t ∧ r = str s) ∧ Drew v l b h h' := by
  obtain ⟨a, c, rfl⟩ := hu.shape
  have hl : (strs t).length = t.length := by simp
  rw [hl] at hu hd
  refine w_spec_l01Src_pick (by simp) ?_
  unfold b_spec_l01Src_pick
  simp -implicitDefEqProofs only [go_sem, hl]
  refine AC_of (src_n hs (by omega)) ?_
  rintro _ h1 - ⟨⟨k, rfl, k0, k1, -⟩, d⟩
  have hu1 := hu.keep d.1 (fun c hc e => hd c hc e)
  obtain ⟨a', c', bu, ou, e, hc, r2, r3⟩ := hu1
  obtain ⟨n, rfl⟩ : ∃ n : Nat, k = n := ⟨k.toNat, by omega⟩
  have hn : n < t.length := by have := k1 (by omega); omega
  simp only [hl, Value.slice.injEq, true_and] at e
  obtain ⟨rfl, rfl⟩ := e
  rw [hl] at r2
  have e1 := r3 n [str t[n]] (by simp [hn])
  simp -implicitDefEqProofs only [go_sem, hl, hn, r2, e1, Int.ofNat_lt, Int.natCast_nonneg]
  exact ⟨⟨_, List.getElem_mem hn, rfl⟩, d⟩
/-- (*spec.l01Src).bytes -/
def b_spec_l01Src_bytes : C := (.seq (.ops [q 4 (.mv (.c (str [])))])
 (.seq (.ops [⟨(some 7), none, .bsl 0 [] []⟩, q 5 (.mv (.t 7))])
 (.seq (.seq (.ops [q 6 (.mv (.c (i64 0)))])
 (.block 0 (.loop (.seq (.seq (.ops [q 8 (.mv (.t 6)), q 9 (.mv (.t 1)), q 10 (.bin .lss (.t 8) (.t 9))])
 (.cond (.t 10) .skip (.exit 0)))
 (.seq (.block 1 (.ops [q 13 (.mv (.t 5)), q 14 (.mv (.t 0)), ⟨(some 15), none, .call (.c (.func (.func 43) #[] #[])) [(.t 14), (.c (i64 256))]⟩, q 16 (.cv .u8 (.t 15)), ⟨(some 17), none, .bsl 1 [(u8 0)] [(0, 1, (.t 16))]⟩, ⟨(some 18), none, .app 1 1 (.t 13) (.t 17)⟩, q 5 (.mv (.t 18))]))
 (.ops [q 11 (.mv (.t 6)), q 12 (.bin .add (.t 11) (.c (i64 1))), q 6 (.mv (.t 12))]))))))
 (.seq (.ops [q 19 (.mv (.t 5)), q 20 (.b2s (.t 19)), q 4 (.mv (.t 20))])
 .ret))))
theorem w_spec_l01Src_bytes {args : List Value} {h : H} {Q : Value → H → Prop} (hl : args.length ≤ 21) (hk : wpc Tryz.prog b_spec_l01Src_bytes (retw [.tmp 4] Q) (argsFr args) h) : AC Tryz.prog 102 args h Q :=
  AC.of_wpc mixedOrders Tryz.func102 (by kernel_rfl) (by kernel_rfl : prepF Tryz.prog Tryz.f102 = some ⟨21, [.tmp 4], b_spec_l01Src_bytes⟩) hl hk

theorem src_bytes {h : H} {b n : Nat} {v : Value} {l : List UInt8} (hs : Src v l h b) (hn : n ≤ 1000) : AC Tryz.prog 102 [ptr b 0, i64 n] h fun r h' => (∃ s : List UInt8, s.length = n ∧ r = str s) ∧ Drew v l b h h' := by
  have hS : ∀ x, x = b → h.get x ≠ none := fun x e => by subst e; exact hs.known
  refine w_spec_l01Src_bytes (by simp) ?_
  unfold b_spec_l01Src_bytes
  simp -implicitDefEqProofs only [go_sem]
  intro b0 hb0 n0
  simp -implicitDefEqProofs only [go_sem]
  refine loopW_of (fun m f h' => ∃ (k : Nat) (acc : List UInt8) (u : Value), m + k = n ∧ f 0 = ptr b 0 ∧ f 1 = i64 n ∧ f 5 = u ∧ f 6 = i64 k ∧ acc.length = k ∧ Drew v l b h h' ∧ Own h h' u 1 (bys acc)) n
    ⟨0, [], sl b0 0 0 0, by simp, by simp -implicitDefEqProofs only [go_sem], by simp -implicitDefEqProofs only [go_sem], by simp -implicitDefEqProofs only [go_sem], by simp -implicitDefEqProofs only [go_sem]; rfl, rfl, Drew.of_ext hs ((Ext.refl _).set n0 _), .inr ⟨b0, 0, 0, rfl, Nat.le_refl _, hb0, n0, H.set_get_same _ _ _, by simp, Wid.nil 1⟩⟩ ?_
  rintro m f h' ⟨k, acc, u, hm, f0, f1, f5, f6, hk, d, ho⟩
  obtain ⟨au, cu, rfl⟩ := ho.shape
  have hbl : (bys acc).length = k := by simp [bys, hk]
  rw [hbl] at f5 ho
  skip
  by_cases hkn : k < n
  · simp -implicitDefEqProofs only [go_sem, hkn, f0, f1, f5, f6, Int.ofNat_lt, Int.natCast_nonneg]
    refine AC_of (src_n d.2 (by omega)) ?_
    rintro _ h1 - ⟨⟨q, rfl, q0, q1, -⟩, d1⟩
    have hq := q1 (by omega)
    obtain ⟨x, rfl⟩ : ∃ x : Nat, q = x := ⟨q.toNat, by omega⟩
    simp -implicitDefEqProofs only [go_sem, wrap_u8 (show (0 : Int) ≤ (x : Int) by omega) (show (x : Int) < 256 by omega), f0, f1, f5, f6, Int.ofNat_lt, Int.natCast_nonneg]
    intro bx hbx nx
    simp -implicitDefEqProofs only [go_sem, f0, f1, f5, f6, Int.ofNat_lt, Int.natCast_nonneg]
    have d2 := d.trans d1
    have o1 := (Own.keepS ho d1.1 hS).ext ((Ext.refl h1).set nx ⟨[.int .u8 x], 1⟩)
    refine appW_keep (h0 := h) (rows := bys acc) (new := bys [UInt8.ofNat x]) (fun c hc => Keep.nones d2.1 c (by
      by_cases e : c = bx
      · subst e; rw [H.set_get_same] at hc; cases hc
      · rw [H.set_get_ne _ _ _ _ e] at hc; exact hc)) o1 (by simp -implicitDefEqProofs only [go_sem, f0, f1, f5, f6, Int.ofNat_lt, Int.natCast_nonneg]; simp [bys]; omega) (by intro r hr; simp [bys] at hr; subst hr; rfl) (by simp [bys, Value.oneCell']) (by simp [bys]; omega) ?_
    intro v' h2 k2 o2
    obtain ⟨av, cv, rfl⟩ := o2.shape
    have hkn2 := hs.sl.known
    have d3 := d2.ext ((Ext.refl h1).set nx ⟨[.int .u8 x], 1⟩)
    simp -implicitDefEqProofs only [go_sem, hkn, wrap_i64 (show -(9223372036854775808 : Int) ≤ ((k : Int) + 1) by omega) (show ((k : Int) + 1) < 9223372036854775808 by omega), f0, f1, f5, f6, Int.ofNat_lt, Int.natCast_nonneg]
    exact ⟨m - 1, by omega, h2, Ext.refl _, k + 1, acc ++ [UInt8.ofNat x], _, by omega, rfl, rfl, by simp [hk], ⟨Keep.own d3.1 k2, Src.keepM d3.2 k2 hs.known hkn2⟩, by simpa [bys] using o2⟩
  · have e : k = n := by omega
    subst e
    rcases ho with ⟨hv, he⟩ | ⟨bq, cq, z, hv, hlc, hbb, h0b, hg, hcz, hw⟩
    · simp only [nils, Value.slice.injEq] at hv
      obtain ⟨rfl, hk0, rfl⟩ := hv
      have : acc = [] := by simpa [bys] using he
      subst this
      simp only [List.length_nil] at hk
      subst hk
      simp -implicitDefEqProofs only [go_sem, Nat.lt_irrefl, show asR (.slice none 0 0) = some (0, 0, 0) from rfl, f0, f1, f5, f6, Int.ofNat_lt, Int.natCast_nonneg]
      exact ⟨⟨[], rfl, rfl⟩, d⟩
    · simp only [sl, Value.slice.injEq] at hv
      obtain ⟨rfl, hk0, rfl⟩ := hv
      rw [bys_flat] at hg
      have hul : (u8s acc).length = k := by simp [u8s, hk]
      have e1 : ldc h' bq 0 k = some (u8s acc) := by rw [ldc_get hg, if_pos (by simp [hul]), List.drop_zero, ← hul, List.take_length]
      by_cases h0 : k = 0
      · have : acc = [] := List.length_eq_zero_iff.1 (by omega)
        subst this
        simp -implicitDefEqProofs only [go_sem, Nat.lt_irrefl, h0, f0, f1, f5, f6, Int.ofNat_lt, Int.natCast_nonneg]
        exact ⟨⟨[], by simp [← hk], rfl⟩, d⟩
      · simp -implicitDefEqProofs only [go_sem, Nat.lt_irrefl, h0, e1, bytesOf_u8s, f0, f1, f5, f6, Int.ofNat_lt, Int.natCast_nonneg]
        exact ⟨⟨acc, hk, rfl⟩, d⟩
/-- (*spec.l01Src).spoil -/
def b_spec_l01Src_spoil : C := (.seq (.ops [q 4 (.mv (.c (str [])))])
 (.seq (.ops [q 7 (.mv (.t 0)), q 8 (.mv (.t 1)), q 9 (.slen (.t 8)), q 10 (.bin .add (.t 9) (.c (i64 1))), ⟨(some 11), none, .call (.c (.func (.func 43) #[] #[])) [(.t 7), (.t 10)]⟩, q 5 (.mv (.t 11))])
 (.seq (.ops [q 12 (.mv (.t 0)), ⟨(some 13), none, .call (.c (.func (.func 43) #[] #[])) [(.t 12), (.c (i64 17))]⟩, q 14 (.sidx (.c (str [32, 10, 48, 97, 45, 110, 44, 58, 93, 255, 40, 120, 126, 49, 128, 225, 59])) (.t 13)), ⟨(some 15), none, .bsl 1 [(u8 0)] [(0, 1, (.t 14))]⟩, q 16 (.b2s (.t 15)), q 6 (.mv (.t 16))])
 (.seq (.seq (.ops [q 17 (.mv (.t 5)), q 18 (.mv (.t 1)), q 19 (.slen (.t 18)), q 20 (.bin .eql (.t 17) (.t 19)), q 21 (.mv (.t 20)), qg 22 21 false (.mv (.t 0)), ⟨(some 23), (some (21, false)), .call (.c (.func (.func 48) #[] #[])) [(.t 22), (.c (i64 3))]⟩, q 24 (.pick (.t 21) (.c (.bool true)) (.t 23))])
 (.cond (.t 24) (.seq (.dops false (.tk (q 25 (.mv (.t 1))) (.tk (q 26 (.mv (.t 5))) (.tk (q 27 (.ssl (.t 25) none (some (.t 26)))) (.tk (q 28 (.mv (.t 6))) (.tk (q 29 (.bin .add (.t 27) (.t 28))) (.tk (q 30 (.mv (.t 1))) (.tk (q 31 (.mv (.t 5))) (.tk (q 32 (.ssl (.t 30) (some (.t 31)) none)) (.tk (q 33 (.bin .add (.t 29) (.t 32))) (.tk (q 4 (.mv (.t 33))) .nil)))))))))))
 .ret) .skip))
 (.seq (.seq (.ops [q 34 (.mv (.t 0)), ⟨(some 35), none, .call (.c (.func (.func 48) #[] #[])) [(.t 34), (.c (i64 2))]⟩])
 (.cond (.t 35) (.seq (.dops false (.tk (q 36 (.mv (.t 1))) (.tk (q 37 (.mv (.t 5))) (.tk (q 38 (.ssl (.t 36) none (some (.t 37)))) (.tk (q 39 (.mv (.t 1))) (.tk (q 40 (.mv (.t 5))) (.tk (q 41 (.bin .add (.t 40) (.c (i64 1)))) (.tk (q 42 (.ssl (.t 39) (some (.t 41)) none)) (.tk (q 43 (.bin .add (.t 38) (.t 42))) (.tk (q 4 (.mv (.t 43))) .nil))))))))))
 .ret) .skip))
 (.seq (.dops false (.tk (q 44 (.mv (.t 1))) (.tk (q 45 (.mv (.t 5))) (.tk (q 46 (.ssl (.t 44) none (some (.t 45)))) (.tk (q 47 (.mv (.t 6))) (.tk (q 48 (.bin .add (.t 46) (.t 47))) (.tk (q 49 (.mv (.t 1))) (.tk (q 50 (.mv (.t 5))) (.tk (q 51 (.bin .add (.t 50) (.c (i64 1)))) (.tk (q 52 (.ssl (.t 49) (some (.t 51)) none)) (.tk (q 53 (.bin .add (.t 48) (.t 52))) (.tk (q 4 (.mv (.t 53))) .nil))))))))))))
 .ret))))))
theorem w_spec_l01Src_spoil {args : List Value} {h : H} {Q : Value → H → Prop} (hl : args.length ≤ 54) (hk : wpc Tryz.prog b_spec_l01Src_spoil (retw [.tmp 4] Q) (argsFr args) h) : AC Tryz.prog 44 args h Q :=
  AC.of_wpc mixedOrders Tryz.func44 (by kernel_rfl) (by kernel_rfl : prepF Tryz.prog Tryz.f44 = some ⟨54, [.tmp 4], b_spec_l01Src_spoil⟩) hl hk

theorem src_spoil {h : H} {b : Nat} {v : Value} {l t : List UInt8} (hs : Src v l h b) (ht : t.length ≤ 1099511627776) : AC Tryz.prog 44 [ptr b 0, str t] h fun r h' => (∃ s : List UInt8, s.length ≤ t.length + 1 ∧ r = str s) ∧ Drew v l b h h' := by
  refine w_spec_l01Src_spoil (by simp) ?_
  unfold b_spec_l01Src_spoil
  simp -implicitDefEqProofs only [go_sem, wrap_i64 (show -(9223372036854775808 : Int) ≤ ((t.length : Int) + 1) by omega) (show ((t.length : Int) + 1) < 9223372036854775808 by omega)]
  refine AC_of (src_n hs (by omega)) ?_
  rintro _ h1 - ⟨⟨k, rfl, k0, k1, k2⟩, d1⟩
  have hk : k ≤ t.length := by
    by_cases h : 1 < (t.length : Int) + 1
    · have := k1 h; omega
    · have := k2 (by omega); omega
  obtain ⟨k, rfl⟩ : ∃ n : Nat, k = n := ⟨k.toNat, by omega⟩
  simp -implicitDefEqProofs only [go_sem]
  refine AC_of (src_n d1.2 (by omega)) ?_
  rintro _ h2 - ⟨⟨q, rfl, q0, q1, -⟩, d2⟩
  have hq := q1 (by omega)
  obtain ⟨q, rfl⟩ : ∃ n : Nat, q = n := ⟨q.toNat, by omega⟩
  obtain ⟨cb, hcb⟩ : ∃ cb, ([32, 10, 48, 97, 45, 110, 44, 58, 93, 255, 40, 120, 126, 49, 128, 225, 59] : List UInt8)[q]? = some cb := ⟨_, List.getElem?_eq_getElem (by simp; omega)⟩
  simp -implicitDefEqProofs only [go_sem, hcb, Int.natCast_nonneg, Int.toNat_natCast]
  intro b3 hb3 n3
  simp -implicitDefEqProofs only [go_sem, bytesOf_cons, bytesOf_nil, UInt8.ofNat_toNat, Int.toNat_natCast]
  have d3 := (d1.trans d2).ext ((Ext.refl h2).set n3 ⟨[.int .u8 cb.toNat], 1⟩)
  have kt : (k : Int) ≤ (t.length : Int) := by omega
  by_cases hkl : k = t.length
  · subst hkl
    simp -implicitDefEqProofs only [go_sem, Int.le_refl, Int.natCast_nonneg, Int.toNat_natCast]
    repeat first | refine Req.of (by first | omega | (simp; done) | (simp; omega)) ?_ | simp -implicitDefEqProofs only [go_sem, Int.le_refl, Int.natCast_nonneg, Int.toNat_natCast]
    exact ⟨⟨_, by simp <;> omega, rfl⟩, d3⟩
  have hkl' : ¬ ((k : Int) = (t.length : Int)) := by omega
  have kt1 : (k : Int) + 1 ≤ (t.length : Int) := by omega
  have kt0 : (0 : Int) ≤ (k : Int) + 1 := by omega
  have kn : ((k : Int) + 1).toNat = k + 1 := by omega
  simp -implicitDefEqProofs only [go_sem, hkl']
  refine AC_of (src_one d3.2 (by omega)) ?_
  rintro _ h4 - ⟨⟨x, rfl⟩, d4⟩
  have d5 := d3.trans d4
  skip
  cases x
  rotate_left
  · simp -implicitDefEqProofs only [go_sem, kt, Int.natCast_nonneg, Int.toNat_natCast, hkl']
    refine Req.of (by simp <;> omega) ?_
    simp -implicitDefEqProofs only [go_sem, kt, Int.natCast_nonneg, Int.toNat_natCast, hkl']
    refine Req.of (by simp <;> omega) ?_
    simp -implicitDefEqProofs only [go_sem, kt, Int.natCast_nonneg, Int.toNat_natCast, hkl']
    exact ⟨⟨_, by simp <;> omega, rfl⟩, d5⟩
  simp -implicitDefEqProofs only [go_sem, hkl']
  refine AC_of (src_one d4.2 (by omega)) ?_
  rintro _ h6 - ⟨⟨x, rfl⟩, d6⟩
  have d7 := d5.trans d6
  cases x
  · simp -implicitDefEqProofs only [go_sem, kt, kt1, kt0, kn, Int.natCast_nonneg, Int.toNat_natCast, wrap_i64 (show -(9223372036854775808 : Int) ≤ ((k : Int) + 1) by omega) (show ((k : Int) + 1) < 9223372036854775808 by omega), hkl']
    refine Req.of (by simp <;> omega) ?_
    simp -implicitDefEqProofs only [go_sem, kt, kt1, kt0, kn, Int.natCast_nonneg, Int.toNat_natCast, wrap_i64 (show -(9223372036854775808 : Int) ≤ ((k : Int) + 1) by omega) (show ((k : Int) + 1) < 9223372036854775808 by omega), hkl']
    refine Req.of (by simp <;> omega) ?_
    simp -implicitDefEqProofs only [go_sem, kt, kt1, kt0, kn, Int.natCast_nonneg, Int.toNat_natCast, wrap_i64 (show -(9223372036854775808 : Int) ≤ ((k : Int) + 1) by omega) (show ((k : Int) + 1) < 9223372036854775808 by omega), hkl']
    exact ⟨⟨_, by simp <;> omega, rfl⟩, d7⟩
  · simp -implicitDefEqProofs only [go_sem, kt, kt1, kt0, kn, Int.natCast_nonneg, Int.toNat_natCast, wrap_i64 (show -(9223372036854775808 : Int) ≤ ((k : Int) + 1) by omega) (show ((k : Int) + 1) < 9223372036854775808 by omega), hkl']
    refine Req.of (by simp <;> omega) ?_
    simp -implicitDefEqProofs only [go_sem, kt, kt1, kt0, kn, Int.natCast_nonneg, Int.toNat_natCast, wrap_i64 (show -(9223372036854775808 : Int) ≤ ((k : Int) + 1) by omega) (show ((k : Int) + 1) < 9223372036854775808 by omega), hkl']
    exact ⟨⟨_, by simp <;> omega, rfl⟩, d7⟩
end Go.Proofs.YthjbhdmjfakfaaaGreatDoor
