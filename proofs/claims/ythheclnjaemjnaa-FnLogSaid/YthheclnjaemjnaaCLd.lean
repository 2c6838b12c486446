/- A helper of this seat's claims (contracts of the functions): what it shows is shown for every input that its statements name, on no other condition. -/
import Derived.Test.YthheclnjaemjnaaCL
import Derived.Test.YthheclnjaemjnaaCDu
set_option linter.unusedVariables false
set_option linter.unusedSimpArgs false
set_option maxRecDepth 100000
namespace Go.Proofs.Ythheclnjaemjnaa
open Go.KH

/-! ## Records drawn -/
/-- spec.DrawRecordBytes -/
def b_spec_DrawRecordBytes : C := (.seq (.ops [q 2 (.mv (.c (i64 0))), ⟨(some 3), none, .alloc [(i64 0), (i64 0), (i64 0), (str [])]⟩])
 (.seq (.ops [q 6 (.mv (.t 0)), ⟨(some 7), none, .call (.c (.func (.func 64) #[] #[])) [(.t 6)]⟩, q 4 (.mv (.t 7))])
 (.seq (.ops [q 8 (.mv (.t 4)), ⟨(some 9), none, .call (.c (.func (.func 65) #[] #[])) [(.t 8)]⟩, ⟨(some 5), none, .alloc [(i64 0), (i64 0), (i64 0), (str [])]⟩, ⟨none, none, .st 4 (.t 5) (.t 9)⟩])
 (.seq (.seq (.ops [q 10 (.mv (.t 4)), ⟨(some 11), none, .call (.c (.func (.func 66) #[] #[])) [(.t 10), (.c (i64 8))]⟩])
 (.cond (.t 11) (.seq (.dopx (.tk (q 12 (.mv (.t 4))) (.tk (q 14 (.ld true 4 (.t 5))) (.sq (⟨(some 13), none, .call (.c (.func (.func 67) #[] #[])) [(.t 12)]⟩) (.tk (q 2 (.mv (.t 13))) (.lt (⟨none, none, .st 4 (.t 3) (.t 14)⟩) .nil))))))
 .ret) .skip))
 (.seq (.dopx (.tk (q 15 (.mv (.t 4))) (.tk (q 17 (.ld true 4 (.t 5))) (.sq (⟨(some 16), none, .call (.c (.func (.func 68) #[] #[])) [(.t 15), (.c (i64 20))]⟩) (.tk (q 2 (.mv (.t 16))) (.lt (⟨none, none, .st 4 (.t 3) (.t 17)⟩) .nil))))))
 .ret)))))
theorem w_spec_DrawRecordBytes {args : List Value} {h : H} {Q : Value → H → Prop} (hl : args.length ≤ 18) (hk : wpc Try.prog b_spec_DrawRecordBytes (retw [.tmp 2, .cell 3 true 4] Q) (argsFr args) h) : AC Try.prog 10 args h Q :=
  AC.of_wpcx mixedOrders Try.func10 (by kernel_rfl) (by kernel_rfl : prepFx Try.prog Try.f10 = some ⟨18, [.tmp 2, .cell 3 true 4], b_spec_DrawRecordBytes⟩) hl hk

theorem drawRecordBytes_ac {h : H} {v : Value} {l : List UInt8} (hv : Sl h v 1 (bys l)) (hn : l.length ≤ 1048576) : AC Try.prog 10 [v] h fun r h' => Ext h h' ∧ ∃ (x : UStep) (n : Int), okd x ∧ in64 n ∧ r = .tuple #[i64 n, .agg x.cells.toArray] := by
  refine w_spec_DrawRecordBytes (by simp) ?_
  unfold b_spec_DrawRecordBytes
  simp -implicitDefEqProofs only [go_sem]
  intro b2 hb_b2 n_b2
  simp -implicitDefEqProofs only [go_sem, hb_b2]
  refine AC_of (source_ac (hv.ext ((Ext.refl _).set' n_b2 _)) hn) ?_
  rintro _ h1 - ⟨b, rfl, nb, e1, hs⟩
  simp -implicitDefEqProofs only [go_sem, hb_b2]
  refine AC_of (src_any hs) ?_
  rintro _ h2 - ⟨⟨x, hx, rfl⟩, d2⟩
  have nbh : h.get b = none := Ext.none ((Ext.refl _).set' n_b2 _) nb
  have q2 : b2 ≠ b := fun e => by subst e; rw [H.set_get_same] at nb; cases nb
  have g2 := d2.1.2.1 b2 _ q2 (e1.2.g b2 _ (H.set_get_same _ _ _))
  simp -implicitDefEqProofs only [go_sem, hb_b2]
  intro b5 hb5 n5
  have q5 : b5 ≠ b := fun e => by subst e; exact d2.2.known n5
  have z25 : b2 ≠ b5 := fun e => by rw [e, n5] at g2; cases g2
  simp -implicitDefEqProofs only [go_sem, hb5, hb_b2]
  have D := d2.ext ((Ext.refl h2).set n5 ⟨x.cells, 4⟩)
  generalize hH : h2.set b5 ⟨x.cells, 4⟩ = hX at D ⊢
  have G2 : hX.get b2 = some ⟨[i64 0, i64 0, i64 0, str []], 4⟩ := by rw [← hH, H.set_get_ne _ _ _ _ z25]; exact g2
  have G5 : hX.get b5 = some ⟨x.cells, 4⟩ := by rw [← hH, H.set_get_same]
  have hbH : hX.base = h.base := by rw [D.1.1, e1.1, H.set_base]
  have hstart : ∀ {hY h' : KH.H}, Drew v l b h1 hY → Keep (fun x => x = b ∨ x = b2) hY h' → Ext h h' := fun d k => Keep.ext (S := fun x => x = b ∨ x = b2) (Ext.refl h) ((((Ext.refl h).set n_b2 ⟨[i64 0, i64 0, i64 0, str []], 4⟩).trans e1).keep _ |>.trans ((d.1.mono fun x hx => .inl hx).trans k)) (fun c hc => by rcases hc with rfl | rfl <;> assumption)
  refine AC_of (src_one D.2 (by omega)) ?_
  rintro _ h3 - ⟨⟨t, rfl⟩, d3⟩
  have D3 := D.trans d3
  have G23 := d3.1.2.1 b2 _ q2 G2
  have G53 := d3.1.2.1 b5 _ q5 G5
  have K0 : Keep (fun x => x = b ∨ x = b2) h3 h3 := Keep.refl _ _
  have S5 : (without h3 (fun x => x = b ∨ x = b2)).get b5 = some ⟨x.cells, 4⟩ := by rw [without_get (fun e => e.elim q5 (fun e => z25 e.symm))]; exact G53
  have hb2 : h3.base ≤ b2 := by rw [d3.1.1, hbH]; exact hb_b2
  cases t
  · simp -implicitDefEqProofs only [go_sem, hb_b2]
    refine dopX_of _ (without_keep K0) ?_
    simp -implicitDefEqProofs only [go_sem, ldc_get S5, hb_b2]
    refine AC_of (src_n D3.2 (by omega)) ?_
    rintro _ h4 - ⟨⟨k, rfl, k0, k1, -⟩, d4⟩
    have K4 := K0.trans (d4.1.mono fun x hx => .inl hx)
    have K5 := K4.set (b := b2) (.inl (.inr rfl)) ⟨x.cells, 4⟩
    have g24 := d4.1.2.1 b2 _ q2 G23
    have hb24 : h4.base ≤ b2 := by rw [d4.1.1]; exact hb2
    refine ⟨without_keep K4, ?_⟩
    simp -implicitDefEqProofs only [go_sem, stc_get g24, hb24, hb_b2]
    exact ⟨hstart D3 K5, x, _, hx, in64_small (by have := k1 (by omega); omega), rfl⟩
  · simp -implicitDefEqProofs only [go_sem, hb_b2]
    refine dopX_of _ (without_keep K0) ?_
    simp -implicitDefEqProofs only [go_sem, ldc_get S5, hb_b2]
    refine AC_of (src_edge D3.2) ?_
    rintro _ h4 - ⟨⟨k, rfl, hk⟩, d4⟩
    have K4 := K0.trans (d4.1.mono fun x hx => .inl hx)
    have K5 := K4.set (b := b2) (.inl (.inr rfl)) ⟨x.cells, 4⟩
    have g24 := d4.1.2.1 b2 _ q2 G23
    have hb24 : h4.base ≤ b2 := by rw [d4.1.1]; exact hb2
    refine ⟨without_keep K4, ?_⟩
    simp -implicitDefEqProofs only [go_sem, stc_get g24, hb24, hb_b2]
    exact ⟨hstart D3 K5, x, _, hx, hk, rfl⟩
theorem recordBytes_80 {n : Int} {x : UStep} (hn : in64 n) (hx : x.ok) : (recordBytes n x).length ≤ 80 := by
  unfold recordBytes
  split
  · rename_i h
    have h1 := stepB_60 hx h.2
    have h2 := putNum_le hn
    unfold recordB
    rw [sealB_len, List.length_append]
    omega
  · simp
/-- spec.DrawRecordRead -/
def b_spec_DrawRecordRead : C := (.seq (.ops [q 2 (.mv (.c (str []))), q 3 (.mv (.c (i64 0)))])
 (.seq (.ops [q 7 (.mv (.t 0)), ⟨(some 8), none, .call (.c (.func (.func 64) #[] #[])) [(.t 7)]⟩, q 4 (.mv (.t 8))])
 (.seq (.ops [q 9 (.mv (.t 4)), ⟨(some 10), none, .call (.c (.func (.func 68) #[] #[])) [(.t 9), (.c (i64 20))]⟩, q 5 (.mv (.t 10))])
 (.seq (.ops [q 11 (.mv (.t 5)), q 12 (.mv (.t 4)), ⟨(some 13), none, .call (.c (.func (.func 65) #[] #[])) [(.t 12)]⟩, ⟨(some 14), none, .call (.c (.func (.func 17) #[] #[])) [(.t 11), (.t 13)]⟩, q 6 (.mv (.t 14))])
 (.seq (.seq (.ops [q 15 (.mv (.t 4)), ⟨(some 16), none, .call (.c (.func (.func 68) #[] #[])) [(.t 15), (.c (i64 6))]⟩])
 (.block 0 (.seq (.ops [q 18 (.bin .eql (.t 16) (.c (i64 0))), q 17 (.mv (.t 18))])
 (.cond (.t 17) (.ops [q 19 (.mv (.t 4)), q 20 (.mv (.t 6)), ⟨(some 21), none, .call (.c (.func (.func 72) #[] #[])) [(.t 19), (.t 20)]⟩, q 6 (.mv (.t 21))]) (.seq (.ops [q 23 (.bin .eql (.t 16) (.c (i64 1))), q 22 (.mv (.t 23))])
 (.cond (.t 22) (.ops [q 24 (.mv (.t 6)), q 25 (.mv (.t 4)), q 26 (.mv (.t 6)), q 27 (.slen (.t 26)), q 28 (.bin .add (.t 27) (.c (i64 1))), ⟨(some 29), none, .call (.c (.func (.func 68) #[] #[])) [(.t 25), (.t 28)]⟩, q 30 (.ssl (.t 24) none (some (.t 29))), q 6 (.mv (.t 30))]) (.seq (.ops [q 32 (.bin .eql (.t 16) (.c (i64 2))), q 31 (.mv (.t 32))])
 (.cond (.t 31) (.ops [q 33 (.mv (.t 4)), q 34 (.mv (.t 6)), ⟨(some 35), none, .call (.c (.func (.func 74) #[] #[])) [(.t 34)]⟩, q 36 (.part false 0 1 (.t 35)), ⟨(some 37), none, .call (.c (.func (.func 72) #[] #[])) [(.t 33), (.t 36)]⟩, ⟨(some 38), none, .call (.c (.func (.func 73) #[] #[])) [(.t 37)]⟩, q 6 (.mv (.t 38))]) (.seq (.ops [q 40 (.bin .eql (.t 16) (.c (i64 3))), q 39 (.mv (.t 40))])
 (.cond (.t 39) (.ops [q 41 (.mv (.t 4)), ⟨(some 42), none, .call (.c (.func (.func 68) #[] #[])) [(.t 41), (.c (i64 20))]⟩, q 5 (.mv (.t 42))]) .skip))))))))))
 (.seq (.ops [q 43 (.mv (.t 6)), q 44 (.mv (.t 5)), q 2 (.mv (.t 43)), q 3 (.mv (.t 44))])
 .ret))))))
theorem w_spec_DrawRecordRead {args : List Value} {h : H} {Q : Value → H → Prop} (hl : args.length ≤ 45) (hk : wpc Try.prog b_spec_DrawRecordRead (retw [.tmp 2, .tmp 3] Q) (argsFr args) h) : AC Try.prog 12 args h Q :=
  AC.of_wpc mixedOrders Try.func12 (by kernel_rfl) (by kernel_rfl : prepF Try.prog Try.f12 = some ⟨45, [.tmp 2, .tmp 3], b_spec_DrawRecordRead⟩) hl hk

theorem drawRecordRead_ac {h : H} {v : Value} {l : List UInt8} (hv : Sl h v 1 (bys l)) (hn : l.length ≤ 1048576) : AC Try.prog 12 [v] h fun r h' => Ext h h' ∧ ∃ (t : List UInt8) (n : Int), t.length ≤ 100 ∧ in64 n ∧ r = .tuple #[str t, i64 n] := by
  refine w_spec_DrawRecordRead (by simp) ?_
  unfold b_spec_DrawRecordRead
  simp -implicitDefEqProofs only [go_sem]
  refine AC_of (source_ac hv hn) ?_
  rintro _ h1 - ⟨b, rfl, nb, e1, hs⟩
  have ex : ∀ {h' : H}, Drew v l b h1 h' → Ext h h' := fun d => Keep.ext (S := fun x => x = b) e1 d.1 (fun c hc => by subst hc; exact nb)
  simp -implicitDefEqProofs only [go_sem]
  refine AC_of (src_n hs (by omega)) ?_
  rintro _ h2 - ⟨⟨n, rfl, n0, n1, -⟩, d2⟩
  have hn20 := n1 (by omega)
  have hn64 : in64 n := in64_small (by omega)
  simp -implicitDefEqProofs only [go_sem]
  refine AC_of (src_any d2.2) ?_
  rintro _ h3 - ⟨⟨x, hx, rfl⟩, d3⟩
  have D3 := d2.trans d3
  simp -implicitDefEqProofs only [go_sem]
  refine (specRecordBytes_pc _ n x hn64 hx.1).use ?_
  have ht := recordBytes_80 hn64 hx.1
  obtain ⟨t, hte⟩ : ∃ t, recordBytes n x = t := ⟨_, rfl⟩
  rw [hte] at ht ⊢
  simp -implicitDefEqProofs only [go_sem]
  refine AC_of (src_n D3.2 (by omega)) ?_
  rintro _ h4 - ⟨⟨k, rfl, k0, k1, -⟩, d4⟩
  have D4 := D3.trans d4
  have hk := k1 (by omega)
  obtain rfl | rfl | rfl | rfl | h5 : k = 0 ∨ k = 1 ∨ k = 2 ∨ k = 3 ∨ (k = 4 ∨ k = 5) := by omega
  · simp -implicitDefEqProofs only [go_sem]
    refine AC_of (src_spoil D4.2 (by omega)) ?_
    rintro _ h5 - ⟨⟨s, hsl, rfl⟩, d5⟩
    simp -implicitDefEqProofs only [go_sem]
    exact ⟨ex (D4.trans d5), s, n, by omega, hn64, rfl⟩
  · simp -implicitDefEqProofs only [go_sem, wrap_i64 (show -(9223372036854775808 : Int) ≤ ((t.length : Int) + 1) by omega) (show ((t.length : Int) + 1) < 9223372036854775808 by omega)]
    refine AC_of (src_n D4.2 (by omega)) ?_
    rintro _ h5 - ⟨⟨q, rfl, q0, q1, q2⟩, d5⟩
    have hq : q ≤ t.length := by
      by_cases h : 1 < (t.length : Int) + 1
      · have := q1 h; omega
      · have := q2 (by omega); omega
    obtain ⟨q, rfl⟩ : ∃ n : Nat, q = n := ⟨q.toNat, by omega⟩
    simp -implicitDefEqProofs only [go_sem, hq, Int.natCast_nonneg, Int.toNat_natCast]
    exact ⟨ex (D4.trans d5), _, n, by simp; omega, hn64, rfl⟩
  · have hu := unsealB_len t
    simp -implicitDefEqProofs only [go_sem]
    refine (specUnseal_pc _ t (by omega)).use ?_
    rw [if_neg (by omega)]
    simp -implicitDefEqProofs only [go_sem]
    refine AC_of (src_spoil D4.2 (by omega)) ?_
    rintro _ h5 - ⟨⟨s, hsl, rfl⟩, d5⟩
    simp -implicitDefEqProofs only [go_sem]
    refine (specSeal_pc _ s (by omega)).use ?_
    have hsl2 := sealB_len s
    simp -implicitDefEqProofs only [go_sem]
    exact ⟨ex (D4.trans d5), _, n, by omega, hn64, rfl⟩
  · simp -implicitDefEqProofs only [go_sem]
    refine AC_of (src_n D4.2 (by omega)) ?_
    rintro _ h5 - ⟨⟨q, rfl, q0, q1, -⟩, d5⟩
    have hq := q1 (by omega)
    simp -implicitDefEqProofs only [go_sem]
    exact ⟨ex (D4.trans d5), t, q, by omega, in64_small (by omega), rfl⟩
  · simp -implicitDefEqProofs only [go_sem, show ¬ (k = 0) by omega, show ¬ (k = 1) by omega, show ¬ (k = 2) by omega, show ¬ (k = 3) by omega]
    exact ⟨ex D4, t, n, by omega, hn64, rfl⟩
end Go.Proofs.Ythheclnjaemjnaa
