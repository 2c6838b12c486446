/- A helper of this seat's claims (contracts of the functions): what it shows is shown for every input that its statements name, on no other condition. -/
import Derived.Test.YtpponffjeilhmaaCDt
import Derived.Test.YtpponffjeilhmaaC08
set_option linter.unusedVariables false
set_option linter.unusedSimpArgs false
set_option maxRecDepth 100000
namespace Go.Proofs.Ytpponffjeilhmaa
open Go.KH

/-! ## What the laws draw: steps -/
/-- spec.DrawStepRight -/
def b_spec_DrawStepRight : C := (.seq (.ops [⟨(some 2), none, .alloc [(i64 0), (i64 0), (i64 0), (str [])]⟩, q 3 (.mv (.c (i64 0)))])
 (.seq (.ops [q 6 (.mv (.t 0)), ⟨(some 7), none, .call (.c (.func (.func 145) #[] #[])) [(.t 6)]⟩, q 4 (.mv (.t 7))])
 (.seq (.ops [q 8 (.mv (.t 4)), ⟨(some 9), none, .call (.c (.func (.func 146) #[] #[])) [(.t 8)]⟩, ⟨(some 5), none, .alloc [(i64 0), (i64 0), (i64 0), (str [])]⟩, ⟨none, none, .st 4 (.t 5) (.t 9)⟩])
 (.seq (.dopx (.tk (q 10 (.ld true 4 (.t 5))) (.tk (q 12 (.mv (.t 4))) (.alt (⟨(some 11), none, .bsl 5 [(i64 0), (i64 0), (i64 0), (i64 0), (i64 0)] [(0, 1, (.c (i64 4))), (1, 1, (.c (i64 8))), (2, 1, (.c (i64 3))), (3, 1, (.c (i64 0))), (4, 1, (.c (i64 9)))]⟩) (.sq (⟨(some 13), none, .call (.c (.func (.func 147) #[] #[])) [(.t 12), (.c (i64 5))]⟩) (.tk (q 14 (.idx 1 (.t 11) (.t 13))) (.alt (q 15 (.ld false 1 (.t 14))) (.sq (⟨none, none, .st 4 (.t 2) (.t 10)⟩) (.tk (q 3 (.mv (.t 15))) .nil)) (⟨none, none, .st 4 (.t 2) (.t 10)⟩) (.sq (q 15 (.ld false 1 (.t 14))) (.tk (q 3 (.mv (.t 15))) .nil))))) (⟨(some 13), none, .call (.c (.func (.func 147) #[] #[])) [(.t 12), (.c (i64 5))]⟩) (.alt (⟨(some 11), none, .bsl 5 [(i64 0), (i64 0), (i64 0), (i64 0), (i64 0)] [(0, 1, (.c (i64 4))), (1, 1, (.c (i64 8))), (2, 1, (.c (i64 3))), (3, 1, (.c (i64 0))), (4, 1, (.c (i64 9)))]⟩) (.tk (q 14 (.idx 1 (.t 11) (.t 13))) (.alt (q 15 (.ld false 1 (.t 14))) (.sq (⟨none, none, .st 4 (.t 2) (.t 10)⟩) (.tk (q 3 (.mv (.t 15))) .nil)) (⟨none, none, .st 4 (.t 2) (.t 10)⟩) (.sq (q 15 (.ld false 1 (.t 14))) (.tk (q 3 (.mv (.t 15))) .nil)))) (⟨none, none, .st 4 (.t 2) (.t 10)⟩) (.sq (⟨(some 11), none, .bsl 5 [(i64 0), (i64 0), (i64 0), (i64 0), (i64 0)] [(0, 1, (.c (i64 4))), (1, 1, (.c (i64 8))), (2, 1, (.c (i64 3))), (3, 1, (.c (i64 0))), (4, 1, (.c (i64 9)))]⟩) (.tk (q 14 (.idx 1 (.t 11) (.t 13))) (.sq (q 15 (.ld false 1 (.t 14))) (.tk (q 3 (.mv (.t 15))) .nil)))))))))
 .ret))))
theorem w_spec_DrawStepRight {args : List Value} {h : H} {Q : Value → H → Prop} (hl : args.length ≤ 16) (hk : wpc Try.prog b_spec_DrawStepRight (retw [.cell 2 true 4, .tmp 3] Q) (argsFr args) h) : AC Try.prog 52 args h Q :=
  AC.of_wpcx mixedOrders Try.func52 (by kernel_rfl) (by kernel_rfl : prepFx Try.prog Try.f52 = some ⟨16, [.cell 2 true 4, .tmp 3], b_spec_DrawStepRight⟩) hl hk

theorem drawStepRight_ac {h : H} {v : Value} {l : List UInt8} (hv : Sl h v 1 (bys l)) (hn : l.length ≤ 1048576) : AC Try.prog 52 [v] h fun r h' => Ext h h' ∧ ∃ (x : UStep) (n : Int), okd x ∧ in64 n ∧ r = .tuple #[.agg x.cells.toArray, i64 n] := by
  refine w_spec_DrawStepRight (by simp) ?_
  unfold b_spec_DrawStepRight
  simp -implicitDefEqProofs only [go_sem, ↓reduceIte, reduceCtorEq, Int.reduceEq, Int.reduceLT, Int.reduceLE, Nat.reduceEqDiff, Nat.reduceAdd, Nat.reduceMul, Nat.reduceLeDiff, Nat.reduceSub, Int.reduceNeg]
  intro b2 hb_b2 n_b2
  simp -implicitDefEqProofs only [go_sem, ↓reduceIte, reduceCtorEq, Int.reduceEq, Int.reduceLT, Int.reduceLE, Nat.reduceEqDiff, Nat.reduceAdd, Nat.reduceMul, Nat.reduceLeDiff, Nat.reduceSub, Int.reduceNeg, hb_b2]
  refine AC_of (source_ac (hv.ext ((Ext.refl _).set' n_b2 _)) hn) ?_
  rintro _ h1 - ⟨b, rfl, nb, e1, hs⟩
  simp -implicitDefEqProofs only [go_sem, ↓reduceIte, reduceCtorEq, Int.reduceEq, Int.reduceLT, Int.reduceLE, Nat.reduceEqDiff, Nat.reduceAdd, Nat.reduceMul, Nat.reduceLeDiff, Nat.reduceSub, Int.reduceNeg, hb_b2]
  refine AC_of (src_any hs) ?_
  rintro _ h2 - ⟨⟨x, hx, rfl⟩, d2⟩
  have nbh : h.get b = none := Ext.none ((Ext.refl _).set' n_b2 _) nb
  have q2 : b2 ≠ b := fun e => by subst e; rw [H.set_get_same] at nb; cases nb
  have g2 := d2.1.2.1 b2 _ q2 (e1.2.g b2 _ (H.set_get_same _ _ _))
  simp -implicitDefEqProofs only [go_sem, ↓reduceIte, reduceCtorEq, Int.reduceEq, Int.reduceLT, Int.reduceLE, Nat.reduceEqDiff, Nat.reduceAdd, Nat.reduceMul, Nat.reduceLeDiff, Nat.reduceSub, Int.reduceNeg, hb_b2]
  intro b5 hb5 n5
  have q5 : b5 ≠ b := fun e => by subst e; exact d2.2.known n5
  have z25 : b2 ≠ b5 := fun e => by rw [e, n5] at g2; cases g2
  simp -implicitDefEqProofs only [go_sem, ↓reduceIte, reduceCtorEq, Int.reduceEq, Int.reduceLT, Int.reduceLE, Nat.reduceEqDiff, Nat.reduceAdd, Nat.reduceMul, Nat.reduceLeDiff, Nat.reduceSub, Int.reduceNeg, hb5, hb_b2]
  have D := d2.ext ((Ext.refl h2).set n5 ⟨x.cells, 4⟩)
  generalize hH : h2.set b5 ⟨x.cells, 4⟩ = hX at D ⊢
  have G2 : hX.get b2 = some ⟨[i64 0, i64 0, i64 0, str []], 4⟩ := by rw [← hH, H.set_get_ne _ _ _ _ z25]; exact g2
  have G5 : hX.get b5 = some ⟨x.cells, 4⟩ := by rw [← hH, H.set_get_same]
  have hbH : hX.base = h.base := by rw [D.1.1, e1.1, H.set_base]
  have K0 : Keep (fun x => x = b ∨ x = b2) hX hX := Keep.refl _ _
  have hstart : ∀ {h' : KH.H}, Keep (fun x => x = b ∨ x = b2) hX h' → Ext h h' := fun k => Keep.ext (S := fun x => x = b ∨ x = b2) (Ext.refl h) ((((Ext.refl h).set n_b2 ⟨[i64 0, i64 0, i64 0, str []], 4⟩).trans e1).keep _ |>.trans ((D.1.mono fun x hx => .inl hx).trans k)) (fun c hc => by rcases hc with rfl | rfl <;> assumption)
  have S5 : (without hX (fun x => x = b ∨ x = b2)).get b5 = some ⟨x.cells, 4⟩ := by rw [without_get (fun e => e.elim q5 (fun e => z25 e.symm))]; exact G5
  have lst : ∀ k : Int, 0 ≤ k → k < 5 → ∃ (n : Nat) (y : Int), k = n ∧ n < 5 ∧ in64 y ∧ ([i64 4, i64 8, i64 3, i64 0, i64 9] : List Value)[n]? = some (i64 y) := fun k h0 h5 => by
    obtain rfl | rfl | rfl | rfl | rfl : k = 0 ∨ k = 1 ∨ k = 2 ∨ k = 3 ∨ k = 4 := by omega
    · exact ⟨0, 4, rfl, by omega, in64_small (by omega), rfl⟩
    · exact ⟨1, 8, rfl, by omega, in64_small (by omega), rfl⟩
    · exact ⟨2, 3, rfl, by omega, in64_small (by omega), rfl⟩
    · exact ⟨3, 0, rfl, by omega, in64_small (by omega), rfl⟩
    · exact ⟨4, 9, rfl, by omega, in64_small (by omega), rfl⟩
  have rd : ∀ (h' : KH.H) (b11 n : Nat) (y : Int), h'.get b11 = some ⟨[i64 4, i64 8, i64 3, i64 0, i64 9], 5⟩ → ([i64 4, i64 8, i64 3, i64 0, i64 9] : List Value)[n]? = some (i64 y) → ldc h' b11 n 1 = some [i64 y] := fun h' b11 n y hg hl => by
    rw [List.getElem?_eq_some_iff] at hl
    obtain ⟨hl1, hl2⟩ := hl
    have hl1' : n < 5 := by simpa using hl1
    rw [ldc_get hg, if_pos (by simp only [List.length_cons, List.length_nil]; omega), List.drop_eq_getElem_cons hl1, hl2]; rfl
  have hb2 : hX.base ≤ b2 := by rw [hbH]; exact hb_b2
  refine dopX_of _ (without_keep K0) ?_
  simp -implicitDefEqProofs only [go_sem, ↓reduceIte, reduceCtorEq, Int.reduceEq, Int.reduceLT, Int.reduceLE, Nat.reduceEqDiff, Nat.reduceAdd, Nat.reduceMul, Nat.reduceLeDiff, Nat.reduceSub, Int.reduceNeg, ldc_get S5, hb_b2]
  refine ⟨?_, ?_⟩
  · intro b11 hb11 n11
    have e11 := (Ext.refl hX).set n11 ⟨[i64 4, i64 8, i64 3, i64 0, i64 9], 5⟩
    have K1 := K0.set (b := b11) (.inr n11) ⟨[i64 4, i64 8, i64 3, i64 0, i64 9], 5⟩
    refine ⟨without_keep K1, ?_⟩
    simp -implicitDefEqProofs only [go_sem, ↓reduceIte, reduceCtorEq, Int.reduceEq, Int.reduceLT, Int.reduceLE, Nat.reduceEqDiff, Nat.reduceAdd, Nat.reduceMul, Nat.reduceLeDiff, Nat.reduceSub, Int.reduceNeg, hb_b2]
    refine AC_of (src_n (D.2.ext e11) (by omega)) ?_
    rintro _ h3 - ⟨⟨k, rfl, k0, k1, -⟩, d3⟩
    obtain ⟨n, y, rfl, hn5, hy, hl⟩ := lst k k0 (k1 (by omega))
    have K3 := K1.trans (d3.1.mono fun x hx => .inl hx)
    have q11 : b11 ≠ b := fun e => by subst e; exact D.2.known n11
    have z112 : b2 ≠ b11 := fun e => by rw [e, n11] at G2; cases G2
    have g11 := d3.1.2.1 b11 _ q11 (H.set_get_same _ _ _)
    have g23 := d3.1.2.1 b2 _ q2 (e11.2.g b2 _ G2)
    have hr := rd h3 b11 n y g11 hl
    have hb23 : h3.base ≤ b2 := by rw [d3.1.1]; exact hb2
    have K4 := K3.set (b := b2) (.inl (.inr rfl)) ⟨x.cells, 4⟩
    have g11' : (h3.set b2 ⟨x.cells, 4⟩).get b11 = some ⟨[i64 4, i64 8, i64 3, i64 0, i64 9], 5⟩ := by rw [H.set_get_ne _ _ _ _ z112.symm]; exact g11
    have hr' := rd _ b11 n y g11' hl
    refine ⟨without_keep K3, ?_⟩
    simp -implicitDefEqProofs only [go_sem, ↓reduceIte, reduceCtorEq, Int.reduceEq, Int.reduceLT, Int.reduceLE, Nat.reduceEqDiff, Nat.reduceAdd, Nat.reduceMul, Nat.reduceLeDiff, Nat.reduceSub, Int.reduceNeg, show (n : Int) < ((5 : Nat) : Int) by omega, Int.natCast_nonneg, Nat.mul_one, hb_b2]
    refine ⟨?_, ?_⟩
    · simp -implicitDefEqProofs only [go_sem, ↓reduceIte, reduceCtorEq, Int.reduceEq, Int.reduceLT, Int.reduceLE, Nat.reduceEqDiff, Nat.reduceAdd, Nat.reduceMul, Nat.reduceLeDiff, Nat.reduceSub, Int.reduceNeg, hr, hb_b2]
      refine ⟨without_keep K3, ?_⟩
      simp -implicitDefEqProofs only [go_sem, ↓reduceIte, reduceCtorEq, Int.reduceEq, Int.reduceLT, Int.reduceLE, Nat.reduceEqDiff, Nat.reduceAdd, Nat.reduceMul, Nat.reduceLeDiff, Nat.reduceSub, Int.reduceNeg, stc_get g23, hb23, hb_b2]
      exact ⟨without_keep K4, hstart K4, x, y, hx, hy, rfl⟩
    · simp -implicitDefEqProofs only [go_sem, ↓reduceIte, reduceCtorEq, Int.reduceEq, Int.reduceLT, Int.reduceLE, Nat.reduceEqDiff, Nat.reduceAdd, Nat.reduceMul, Nat.reduceLeDiff, Nat.reduceSub, Int.reduceNeg, stc_get g23, hb23, hb_b2]
      refine ⟨without_keep K4, ?_⟩
      simp -implicitDefEqProofs only [go_sem, ↓reduceIte, reduceCtorEq, Int.reduceEq, Int.reduceLT, Int.reduceLE, Nat.reduceEqDiff, Nat.reduceAdd, Nat.reduceMul, Nat.reduceLeDiff, Nat.reduceSub, Int.reduceNeg, hr, show (b11 = b2) = False from eq_false z112.symm, hb_b2]
      exact ⟨without_keep K4, hstart K4, x, y, hx, hy, rfl⟩
  · simp -implicitDefEqProofs only [go_sem, ↓reduceIte, reduceCtorEq, Int.reduceEq, Int.reduceLT, Int.reduceLE, Nat.reduceEqDiff, Nat.reduceAdd, Nat.reduceMul, Nat.reduceLeDiff, Nat.reduceSub, Int.reduceNeg, hb_b2]
    refine AC_of (src_n D.2 (by omega)) ?_
    rintro _ h3 - ⟨⟨k, rfl, k0, k1, -⟩, d3⟩
    have hk5 := k1 (by omega)
    have K3 := K0.trans (d3.1.mono fun x hx => .inl hx)
    have g23 := d3.1.2.1 b2 _ q2 G2
    have hb23 : h3.base ≤ b2 := by rw [d3.1.1]; exact hb2
    have K4 := K3.set (b := b2) (.inl (.inr rfl)) ⟨x.cells, 4⟩
    have g24 : (h3.set b2 ⟨x.cells, 4⟩).get b2 = some ⟨x.cells, 4⟩ := H.set_get_same _ _ _
    obtain rfl | rfl | rfl | rfl | rfl : k = 0 ∨ k = 1 ∨ k = 2 ∨ k = 3 ∨ k = 4 := by omega
    all_goals
      refine ⟨without_keep K3, ?_⟩
      refine ⟨?_, ?_⟩
      · simp -implicitDefEqProofs only [go_sem, ↓reduceIte, reduceCtorEq, Int.reduceEq, Int.reduceLT, Int.reduceLE, Nat.reduceEqDiff, Nat.reduceAdd, Nat.reduceMul, Nat.reduceLeDiff, Nat.reduceSub, Int.reduceNeg, hb_b2]
        intro b11 hb11 n11
        have z112 : b2 ≠ b11 := fun e => by rw [e, n11] at g23; cases g23
        have y1 : (b2 = b11) = False := eq_false z112
        have y2 : (b11 = b2) = False := eq_false z112.symm
        have K5 : Keep (fun x => x = b ∨ x = b2) hX (h3.set b11 ⟨[i64 4, i64 8, i64 3, i64 0, i64 9], 5⟩) := K3.trans ((Keep.refl _ h3).set (.inr n11) _)
        have K6 := K5.set (b := b2) (.inl (.inr rfl)) ⟨x.cells, 4⟩
        have K7 := (K3.set (b := b2) (.inl (.inr rfl)) ⟨x.cells, 4⟩).trans ((Keep.refl (fun x => x = b ∨ x = b2) (h3.set b2 ⟨x.cells, 4⟩)).set (b := b11) (.inr (by rw [H.set_get_ne _ _ _ _ z112.symm]; exact n11)) ⟨[i64 4, i64 8, i64 3, i64 0, i64 9], 5⟩)
        refine ⟨without_keep K5, ?_⟩
        simp -implicitDefEqProofs only [go_sem, ↓reduceIte, reduceCtorEq, Int.reduceEq, Int.reduceLT, Int.reduceLE, Nat.reduceEqDiff, Nat.reduceAdd, Nat.reduceMul, Nat.reduceLeDiff, Nat.reduceSub, Int.reduceNeg, Int.reduceToNat, show ((5 : Nat) : Int) = 5 from rfl, hb_b2]
        refine ⟨?_, ?_⟩
        · refine ⟨without_keep K5, ?_⟩
          simp -implicitDefEqProofs only [go_sem, ↓reduceIte, reduceCtorEq, Int.reduceEq, Int.reduceLT, Int.reduceLE, Nat.reduceEqDiff, Nat.reduceAdd, Nat.reduceMul, Nat.reduceLeDiff, Nat.reduceSub, Int.reduceNeg, stc_get g23, hb23, y1, y2, hb_b2]
          first | exact ⟨without_keep K6, hstart K6, x, _, hx, in64_small (by omega), rfl⟩ | exact ⟨without_keep K7, hstart K7, x, _, hx, in64_small (by omega), rfl⟩
        · simp -implicitDefEqProofs only [go_sem, ↓reduceIte, reduceCtorEq, Int.reduceEq, Int.reduceLT, Int.reduceLE, Nat.reduceEqDiff, Nat.reduceAdd, Nat.reduceMul, Nat.reduceLeDiff, Nat.reduceSub, Int.reduceNeg, stc_get g23, hb23, y1, y2, hb_b2]
          first | exact ⟨without_keep K6, without_keep K6, hstart K6, x, _, hx, in64_small (by omega), rfl⟩ | exact ⟨without_keep K7, without_keep K7, hstart K7, x, _, hx, in64_small (by omega), rfl⟩
      · simp -implicitDefEqProofs only [go_sem, ↓reduceIte, reduceCtorEq, Int.reduceEq, Int.reduceLT, Int.reduceLE, Nat.reduceEqDiff, Nat.reduceAdd, Nat.reduceMul, Nat.reduceLeDiff, Nat.reduceSub, Int.reduceNeg, stc_get g23, hb23, hb_b2]
        refine ⟨without_keep K4, ?_⟩
        intro b11 hb11 n11
        have z112 : b2 ≠ b11 := fun e => by rw [← e, H.set_get_same] at n11; cases n11
        have y1 : (b2 = b11) = False := eq_false z112
        have y2 : (b11 = b2) = False := eq_false z112.symm
        have K6 : Keep (fun x => x = b ∨ x = b2) hX ((h3.set b2 ⟨x.cells, 4⟩).set b11 ⟨[i64 4, i64 8, i64 3, i64 0, i64 9], 5⟩) := K4.trans ((Keep.refl _ _).set (.inr n11) _)
        refine ⟨without_keep K6, ?_⟩
        simp -implicitDefEqProofs only [go_sem, ↓reduceIte, reduceCtorEq, Int.reduceEq, Int.reduceLT, Int.reduceLE, Nat.reduceEqDiff, Nat.reduceAdd, Nat.reduceMul, Nat.reduceLeDiff, Nat.reduceSub, Int.reduceNeg, Int.reduceToNat, show ((5 : Nat) : Int) = 5 from rfl, y1, y2, hb_b2]
        exact ⟨without_keep K6, hstart K6, x, _, hx, in64_small (by omega), rfl⟩
/-- spec.DrawStepRead -/
def b_spec_DrawStepRead : C := (.seq (.ops [q 2 (.mv (.c (str [])))])
 (.seq (.ops [q 5 (.mv (.t 0)), ⟨(some 6), none, .call (.c (.func (.func 145) #[] #[])) [(.t 5)]⟩, q 3 (.mv (.t 6))])
 (.seq (.ops [q 7 (.mv (.t 3)), ⟨(some 8), none, .call (.c (.func (.func 146) #[] #[])) [(.t 7)]⟩, ⟨(some 9), none, .call (.c (.func (.func 59) #[] #[])) [(.t 8)]⟩, q 4 (.mv (.t 9))])
 (.seq (.seq (.ops [q 10 (.mv (.t 3)), ⟨(some 11), none, .call (.c (.func (.func 147) #[] #[])) [(.t 10), (.c (i64 4))]⟩])
 (.block 0 (.seq (.ops [q 13 (.bin .eql (.t 11) (.c (i64 0))), q 12 (.mv (.t 13))])
 (.cond (.t 12) (.ops [q 14 (.mv (.t 3)), q 15 (.mv (.t 4)), ⟨(some 16), none, .call (.c (.func (.func 150) #[] #[])) [(.t 14), (.t 15)]⟩, q 4 (.mv (.t 16))]) (.seq (.ops [q 18 (.bin .eql (.t 11) (.c (i64 1))), q 17 (.mv (.t 18))])
 (.cond (.t 17) (.ops [q 19 (.mv (.t 4)), q 20 (.mv (.t 3)), q 21 (.mv (.t 4)), q 22 (.slen (.t 21)), q 23 (.bin .add (.t 22) (.c (i64 1))), ⟨(some 24), none, .call (.c (.func (.func 147) #[] #[])) [(.t 20), (.t 23)]⟩, q 25 (.ssl (.t 19) none (some (.t 24))), q 4 (.mv (.t 25))]) .skip))))))
 (.seq (.ops [q 26 (.mv (.t 4)), q 2 (.mv (.t 26))])
 .ret)))))
theorem w_spec_DrawStepRead {args : List Value} {h : H} {Q : Value → H → Prop} (hl : args.length ≤ 27) (hk : wpc Try.prog b_spec_DrawStepRead (retw [.tmp 2] Q) (argsFr args) h) : AC Try.prog 54 args h Q :=
  AC.of_wpc mixedOrders Try.func54 (by kernel_rfl) (by kernel_rfl : prepF Try.prog Try.f54 = some ⟨27, [.tmp 2], b_spec_DrawStepRead⟩) hl hk

theorem drawStepRead_ac {h : H} {v : Value} {l : List UInt8} (hv : Sl h v 1 (bys l)) (hn : l.length ≤ 1048576) : AC Try.prog 54 [v] h fun r h' => Ext h h' ∧ ∃ s : List UInt8, s.length ≤ 8000 ∧ r = str s := by
  refine w_spec_DrawStepRead (by simp) ?_
  unfold b_spec_DrawStepRead
  simp -implicitDefEqProofs only [go_sem, ↓reduceIte, reduceCtorEq, Int.reduceEq, Int.reduceLT, Int.reduceLE, Nat.reduceEqDiff, Nat.reduceAdd, Nat.reduceMul, Nat.reduceLeDiff, Nat.reduceSub, Int.reduceNeg]
  refine AC_of (source_ac hv hn) ?_
  rintro _ h1 - ⟨b, rfl, nb, e1, hs⟩
  simp -implicitDefEqProofs only [go_sem, ↓reduceIte, reduceCtorEq, Int.reduceEq, Int.reduceLT, Int.reduceLE, Nat.reduceEqDiff, Nat.reduceAdd, Nat.reduceMul, Nat.reduceLeDiff, Nat.reduceSub, Int.reduceNeg]
  refine AC_of (src_any hs) ?_
  rintro _ h2 - ⟨⟨x, hx, rfl⟩, d2⟩
  have ex : ∀ {h' : H}, Drew v l b h1 h' → Ext h h' := fun d => Keep.ext (S := fun x => x = b) e1 d.1 (fun c hc => by subst hc; exact nb)
  simp -implicitDefEqProofs only [go_sem, ↓reduceIte, reduceCtorEq, Int.reduceEq, Int.reduceLT, Int.reduceLE, Nat.reduceEqDiff, Nat.reduceAdd, Nat.reduceMul, Nat.reduceLeDiff, Nat.reduceSub, Int.reduceNeg]
  refine (specStepBytes_pc _ x hx.1 (by have := hx.2; omega)).use ?_
  obtain ⟨t, ht, hl⟩ : ∃ t, (if stepOk x 8 then stepB x else []) = t ∧ t.length ≤ 60 := by
    by_cases hk : stepOk x 8
    · exact ⟨_, if_pos hk, stepB_60 hx.1 hk⟩
    · exact ⟨_, if_neg hk, by simp⟩
  rw [ht]
  simp -implicitDefEqProofs only [go_sem, ↓reduceIte, reduceCtorEq, Int.reduceEq, Int.reduceLT, Int.reduceLE, Nat.reduceEqDiff, Nat.reduceAdd, Nat.reduceMul, Nat.reduceLeDiff, Nat.reduceSub, Int.reduceNeg]
  refine AC_of (src_n d2.2 (by omega)) ?_
  rintro _ h3 - ⟨⟨k, rfl, k0, k1, -⟩, d3⟩
  have D3 := d2.trans d3
  by_cases c0 : k = 0
  · subst c0
    simp -implicitDefEqProofs only [go_sem, ↓reduceIte, reduceCtorEq, Int.reduceEq, Int.reduceLT, Int.reduceLE, Nat.reduceEqDiff, Nat.reduceAdd, Nat.reduceMul, Nat.reduceLeDiff, Nat.reduceSub, Int.reduceNeg]
    refine AC_of (src_spoil D3.2 (by omega)) ?_
    rintro _ h4 - ⟨⟨s, hsl, rfl⟩, d4⟩
    simp -implicitDefEqProofs only [go_sem, ↓reduceIte, reduceCtorEq, Int.reduceEq, Int.reduceLT, Int.reduceLE, Nat.reduceEqDiff, Nat.reduceAdd, Nat.reduceMul, Nat.reduceLeDiff, Nat.reduceSub, Int.reduceNeg]
    exact ⟨ex (D3.trans d4), s, by omega, rfl⟩
  by_cases c1 : k = 1
  · subst c1
    simp -implicitDefEqProofs only [go_sem, ↓reduceIte, reduceCtorEq, Int.reduceEq, Int.reduceLT, Int.reduceLE, Nat.reduceEqDiff, Nat.reduceAdd, Nat.reduceMul, Nat.reduceLeDiff, Nat.reduceSub, Int.reduceNeg, wrap_i64 (show -(9223372036854775808 : Int) ≤ ((t.length : Int) + 1) by omega) (show ((t.length : Int) + 1) < 9223372036854775808 by omega)]
    refine AC_of (src_n D3.2 (by omega)) ?_
    rintro _ h4 - ⟨⟨q, rfl, q0, q1, q2⟩, d4⟩
    have hq : q ≤ t.length := by
      by_cases h : 1 < (t.length : Int) + 1
      · have := q1 h; omega
      · have := q2 (by omega); omega
    obtain ⟨q, rfl⟩ : ∃ n : Nat, q = n := ⟨q.toNat, by omega⟩
    simp -implicitDefEqProofs only [go_sem, ↓reduceIte, reduceCtorEq, Int.reduceEq, Int.reduceLT, Int.reduceLE, Nat.reduceEqDiff, Nat.reduceAdd, Nat.reduceMul, Nat.reduceLeDiff, Nat.reduceSub, Int.reduceNeg, hq, Int.natCast_nonneg, Int.toNat_natCast]
    exact ⟨ex (D3.trans d4), _, by simp; omega, rfl⟩
  · simp -implicitDefEqProofs only [go_sem, ↓reduceIte, reduceCtorEq, Int.reduceEq, Int.reduceLT, Int.reduceLE, Nat.reduceEqDiff, Nat.reduceAdd, Nat.reduceMul, Nat.reduceLeDiff, Nat.reduceSub, Int.reduceNeg, c0, c1]
    exact ⟨ex D3, t, by omega, rfl⟩
/-- spec.DrawStepsCode -/
def b_spec_DrawStepsCode : C := (.seq (.ops [q 2 (.mv (.c nils)), q 3 (.mv (.c (i64 0)))])
 (.seq (.ops [q 6 (.mv (.t 0)), ⟨(some 7), none, .call (.c (.func (.func 145) #[] #[])) [(.t 6)]⟩, q 4 (.mv (.t 7))])
 (.seq (.ops [q 8 (.mv (.t 4)), ⟨(some 9), none, .call (.c (.func (.func 152) #[] #[])) [(.t 8), (.c (i64 4))]⟩, q 5 (.mv (.t 9))])
 (.seq (.dops false (.tk (q 10 (.mv (.t 5))) (.tk (q 12 (.mv (.t 4))) (.alt (⟨(some 11), none, .bsl 7 [(i64 0), (i64 0), (i64 0), (i64 0), (i64 0), (i64 0), (i64 0)] [(0, 1, (.c (i64 4))), (1, 1, (.c (i64 4))), (2, 1, (.c (i64 4))), (3, 1, (.c (i64 8))), (4, 1, (.c (i64 3))), (5, 1, (.c (i64 0))), (6, 1, (.c (i64 9)))]⟩) (.sq (⟨(some 13), none, .call (.c (.func (.func 147) #[] #[])) [(.t 12), (.c (i64 7))]⟩) (.tk (q 14 (.idx 1 (.t 11) (.t 13))) (.tk (q 2 (.mv (.t 10))) (.sq (q 15 (.ld false 1 (.t 14))) (.tk (q 3 (.mv (.t 15))) .nil))))) (⟨(some 13), none, .call (.c (.func (.func 147) #[] #[])) [(.t 12), (.c (i64 7))]⟩) (.tk (q 2 (.mv (.t 10))) (.sq (⟨(some 11), none, .bsl 7 [(i64 0), (i64 0), (i64 0), (i64 0), (i64 0), (i64 0), (i64 0)] [(0, 1, (.c (i64 4))), (1, 1, (.c (i64 4))), (2, 1, (.c (i64 4))), (3, 1, (.c (i64 8))), (4, 1, (.c (i64 3))), (5, 1, (.c (i64 0))), (6, 1, (.c (i64 9)))]⟩) (.tk (q 14 (.idx 1 (.t 11) (.t 13))) (.sq (q 15 (.ld false 1 (.t 14))) (.tk (q 3 (.mv (.t 15))) .nil)))))))))
 .ret))))
theorem w_spec_DrawStepsCode {args : List Value} {h : H} {Q : Value → H → Prop} (hl : args.length ≤ 16) (hk : wpc Try.prog b_spec_DrawStepsCode (retw [.tmp 2, .tmp 3] Q) (argsFr args) h) : AC Try.prog 56 args h Q :=
  AC.of_wpc mixedOrders Try.func56 (by kernel_rfl) (by kernel_rfl : prepF Try.prog Try.f56 = some ⟨16, [.tmp 2, .tmp 3], b_spec_DrawStepsCode⟩) hl hk

theorem drawStepsCode_ac {h : H} {v : Value} {l : List UInt8} (hv : Sl h v 1 (bys l)) (hn : l.length ≤ 1048576) : AC Try.prog 56 [v] h fun r h' => Ext h h' ∧ ∃ (L : List UStep) (n : Int) (u : Value), (∀ s ∈ L, okd s) ∧ L.length ≤ 21 ∧ in64 n ∧ r = .tuple #[u, i64 n] ∧ Fre h h' u 4 (L.map UStep.cells) := by
  refine w_spec_DrawStepsCode (by simp) ?_
  unfold b_spec_DrawStepsCode
  simp -implicitDefEqProofs only [go_sem, ↓reduceIte, reduceCtorEq, Int.reduceEq, Int.reduceLT, Int.reduceLE, Nat.reduceEqDiff, Nat.reduceAdd, Nat.reduceMul, Nat.reduceLeDiff, Nat.reduceSub, Int.reduceNeg]
  refine AC_of (source_ac hv hn) ?_
  rintro _ h1 - ⟨b, rfl, nb, e1, hs⟩
  have ex : ∀ {h' : H}, Drew v l b h1 h' → Ext h h' := fun d => Keep.ext (S := fun x => x = b) e1 d.1 (fun c hc => by subst hc; exact nb)
  simp -implicitDefEqProofs only [go_sem, ↓reduceIte, reduceCtorEq, Int.reduceEq, Int.reduceLT, Int.reduceLE, Nat.reduceEqDiff, Nat.reduceAdd, Nat.reduceMul, Nat.reduceLeDiff, Nat.reduceSub, Int.reduceNeg]
  refine AC_of (src_odd hs (by omega)) ?_
  rintro u h2 - ⟨⟨L, hL, hl, o⟩, d2⟩
  have hub : ∀ c, blk u = some c → ¬ c = b := fun c hc e => by subst e; exact hs.known (o.new c hc)
  simp -implicitDefEqProofs only [go_sem, ↓reduceIte, reduceCtorEq, Int.reduceEq, Int.reduceLT, Int.reduceLE, Nat.reduceEqDiff, Nat.reduceAdd, Nat.reduceMul, Nat.reduceLeDiff, Nat.reduceSub, Int.reduceNeg]
  refine ⟨?_, ?_⟩
  · intro b11 hb11 n11
    simp -implicitDefEqProofs only [go_sem, ↓reduceIte, reduceCtorEq, Int.reduceEq, Int.reduceLT, Int.reduceLE, Nat.reduceEqDiff, Nat.reduceAdd, Nat.reduceMul, Nat.reduceLeDiff, Nat.reduceSub, Int.reduceNeg]
    have e11 := (Ext.refl h2).set n11 ⟨[i64 4, i64 4, i64 4, i64 8, i64 3, i64 0, i64 9], 7⟩
    refine AC_of (src_n (d2.2.ext e11) (by omega)) ?_
    rintro _ h3 - ⟨⟨k, rfl, k0, k1, -⟩, d3⟩
    have hk := k1 (by omega)
    have q11 : b11 ≠ b := fun e => by subst e; exact d2.2.known n11
    have g11 := d3.1.2.1 b11 _ q11 (H.set_get_same _ _ _)
    have D3 := (d2.ext e11).trans d3
    have F3 := ((o.ext e11).keep d3.1 hub).back e1
    obtain rfl | rfl | rfl | rfl | rfl | rfl | rfl : k = 0 ∨ k = 1 ∨ k = 2 ∨ k = 3 ∨ k = 4 ∨ k = 5 ∨ k = 6 := by omega
    all_goals
      simp -implicitDefEqProofs only [go_sem, ↓reduceIte, reduceCtorEq, Int.reduceEq, Int.reduceLT, Int.reduceLE, Nat.reduceEqDiff, Nat.reduceAdd, Nat.reduceMul, Nat.reduceLeDiff, Nat.reduceSub, Int.reduceNeg, Int.reduceToNat, show ((7 : Nat) : Int) = 7 from rfl, ldc_get g11]
      exact ⟨ex D3, L, _, u, hL, hl, in64_small (by omega), rfl, F3⟩
  · simp -implicitDefEqProofs only [go_sem, ↓reduceIte, reduceCtorEq, Int.reduceEq, Int.reduceLT, Int.reduceLE, Nat.reduceEqDiff, Nat.reduceAdd, Nat.reduceMul, Nat.reduceLeDiff, Nat.reduceSub, Int.reduceNeg]
    refine AC_of (src_n d2.2 (by omega)) ?_
    rintro _ h3 - ⟨⟨k, rfl, k0, k1, -⟩, d3⟩
    have hk := k1 (by omega)
    have D3 := d2.trans d3
    have F3 := (o.keep d3.1 hub).back e1
    obtain rfl | rfl | rfl | rfl | rfl | rfl | rfl : k = 0 ∨ k = 1 ∨ k = 2 ∨ k = 3 ∨ k = 4 ∨ k = 5 ∨ k = 6 := by omega
    all_goals
      simp -implicitDefEqProofs only [go_sem, ↓reduceIte, reduceCtorEq, Int.reduceEq, Int.reduceLT, Int.reduceLE, Nat.reduceEqDiff, Nat.reduceAdd, Nat.reduceMul, Nat.reduceLeDiff, Nat.reduceSub, Int.reduceNeg]
      intro b11 hb11 n11
      have e11 := (Ext.refl h3).set n11 ⟨[i64 4, i64 4, i64 4, i64 8, i64 3, i64 0, i64 9], 7⟩
      simp -implicitDefEqProofs only [go_sem, ↓reduceIte, reduceCtorEq, Int.reduceEq, Int.reduceLT, Int.reduceLE, Nat.reduceEqDiff, Nat.reduceAdd, Nat.reduceMul, Nat.reduceLeDiff, Nat.reduceSub, Int.reduceNeg, Int.reduceToNat, show ((7 : Nat) : Int) = 7 from rfl]
      exact ⟨(ex D3).trans e11, L, _, u, hL, hl, in64_small (by omega), rfl, F3.ext e11⟩
end Go.Proofs.Ytpponffjeilhmaa
