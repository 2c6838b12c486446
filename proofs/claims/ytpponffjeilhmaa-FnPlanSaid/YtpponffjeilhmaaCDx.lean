/- A helper of this seat's claims (contracts of the functions): what it shows is shown for every input that its statements name, on no other condition. -/
import Derived.Test.YtpponffjeilhmaaCDw
set_option linter.unusedVariables false
set_option linter.unusedSimpArgs false
set_option maxRecDepth 100000
namespace Go.Proofs.Ytpponffjeilhmaa
open Go.KH

/-! ## Steps that lean on each other, drawn -/
theorem Own.backN {h0 h1 h : H} {v : Value} {w : Nat} {rows : List (List Value)} (o : Own h1 h v w rows) (e : ∀ b, h1.get b = none → h0.get b = none) : Own h0 h v w rows := by
  rcases o with o | ⟨b, c, z, e1, e2, e3, e4, e5, e6, e7⟩
  · exact .inl o
  · exact .inr ⟨b, c, z, e1, e2, e3, e b e4, e5, e6, e7⟩
/-- A list of one's own, and a step in a block of one's own. -/
def LeanAt (v : Value) (l : List UInt8) (b n j : Nat) (h : H) (f : Fr) (h' : H) : Prop := ∃ (acc : List UStep) (u : Value) (x : UStep) (b7 : Nat), f 0 = ptr b 0 ∧ f 1 = i64 n ∧ f 5 = u ∧ f 6 = i64 j ∧ f 7 = ptr b7 0 ∧ okd x ∧ (∀ s ∈ acc, okd s) ∧ acc.length ≤ j ∧ h'.get b7 = some ⟨x.cells, 4⟩ ∧ Own h h' u 4 (acc.map UStep.cells) ∧ Drew v l b h h'
/-- (*spec.l01Src).l11Steps -/
def b_spec_l01Src_l11Steps : C := (.seq (.ops [q 4 (.mv (.c nils))])
 (.seq (.ops [⟨(some 10), none, .bsl 0 [] []⟩, q 5 (.mv (.t 10))])
 (.seq (.seq (.ops [q 6 (.mv (.c (i64 0)))])
 (.block 0 (.loop (.seq (.seq (.ops [q 11 (.mv (.t 6)), q 12 (.mv (.t 1)), q 13 (.bin .lss (.t 11) (.t 12))])
 (.cond (.t 13) .skip (.exit 0)))
 (.seq (.block 1 (.seq (.ops [q 16 (.mv (.t 6)), q 17 (.mv (.t 0)), q 18 (.mv (.t 1)), ⟨(some 19), none, .call (.c (.func (.func 147) #[] #[])) [(.t 17), (.t 18)]⟩, q 20 (.build [(i64 0), (i64 0), (i64 0), (str [])] [(0, 1, (.c (i64 3))), (1, 1, (.t 16)), (2, 1, (.t 19))]), ⟨(some 7), none, .alloc [(i64 0), (i64 0), (i64 0), (str [])]⟩, ⟨none, none, .st 4 (.t 7) (.t 20)⟩])
 (.seq (.seq (.ops [q 21 (.mv (.t 0)), ⟨(some 22), none, .call (.c (.func (.func 147) #[] #[])) [(.t 21), (.c (i64 6))]⟩])
 (.block 2 (.seq (.ops [q 24 (.bin .eql (.t 22) (.c (i64 0))), q 23 (.mv (.t 24))])
 (.cond (.t 23) (.exit 1) (.seq (.ops [q 26 (.bin .eql (.t 22) (.c (i64 1))), q 25 (.mv (.t 26))])
 (.cond (.t 25) (.ops [q 27 (.mv (.t 6)), q 28 (.mv (.t 0)), q 29 (.mv (.t 1)), ⟨(some 30), none, .call (.c (.func (.func 147) #[] #[])) [(.t 28), (.t 29)]⟩, q 31 (.mv (.t 0)), ⟨(some 32), none, .call (.c (.func (.func 232) #[] #[])) [(.t 31)]⟩, q 33 (.build [(i64 0), (i64 0), (i64 0), (str [])] [(0, 1, (.c (i64 4))), (1, 1, (.t 27)), (2, 1, (.t 30)), (3, 1, (.t 32))]), ⟨none, none, .st 4 (.t 7) (.t 33)⟩]) (.seq (.ops [q 35 (.bin .eql (.t 22) (.c (i64 2))), q 34 (.mv (.t 35))])
 (.cond (.t 34) (.ops [q 36 (.mv (.t 6)), q 37 (.bin .add (.t 36) (.c (i64 1))), q 38 (.mv (.t 1)), q 39 (.bin .rem (.t 37) (.t 38)), q 40 (.fld 2 (.t 7)), ⟨none, none, .st 1 (.t 40) (.t 39)⟩]) (.seq (.ops [q 42 (.bin .eql (.t 22) (.c (i64 3))), q 41 (.mv (.t 42))])
 (.cond (.t 41) (.seq (.ops [q 43 (.mv (.t 0)), q 44 (.mv (.t 1)), ⟨(some 45), none, .call (.c (.func (.func 221) #[] #[])) [(.t 43), (.t 44)]⟩, ⟨none, none, .st 4 (.t 7) (.t 45)⟩])
 (.ops [q 46 (.mv (.t 6)), q 47 (.fld 1 (.t 7)), ⟨none, none, .st 1 (.t 47) (.t 46)⟩])) .skip))))))))))
 (.ops [q 48 (.mv (.t 5)), q 49 (.ld true 4 (.t 7)), ⟨(some 50), none, .bsl 1 [(i64 0), (i64 0), (i64 0), (str [])] [(0, 4, (.t 49))]⟩, ⟨(some 51), none, .app 4 40 (.t 48) (.t 50)⟩, q 5 (.mv (.t 51))]))))
 (.ops [q 14 (.mv (.t 6)), q 15 (.bin .add (.t 14) (.c (i64 1))), q 6 (.mv (.t 15))]))))))
 (.seq (.seq (.ops [q 52 (.mv (.t 0)), ⟨(some 53), none, .call (.c (.func (.func 164) #[] #[])) [(.t 52), (.c (i64 2))]⟩, q 54 (.mv (.t 53)), qg 55 54 true (.mv (.t 5)), qg 56 54 true (.len (.t 55)), qg 57 54 true (.bin .gtr (.t 56) (.c (i64 1))), q 58 (.pick (.t 54) (.t 57) (.c (.bool false)))])
 (.cond (.t 58) (.seq (.ops [q 59 (.mv (.t 0)), q 60 (.mv (.t 5)), q 61 (.len (.t 60)), q 62 (.bin .sub (.t 61) (.c (i64 1))), ⟨(some 63), none, .call (.c (.func (.func 147) #[] #[])) [(.t 59), (.t 62)]⟩, q 64 (.bin .add (.c (i64 1)) (.t 63)), q 8 (.mv (.t 64))])
 (.seq (.ops [⟨(some 65), none, .bsl 0 [] []⟩, q 66 (.mv (.t 5)), q 67 (.mv (.t 8)), q 68 (.lsl 4 (.t 66) (some (.t 67)) none), ⟨(some 69), none, .app 4 40 (.t 65) (.t 68)⟩, q 9 (.mv (.t 69))])
 (.ops [q 70 (.mv (.t 9)), q 71 (.mv (.t 5)), q 72 (.mv (.t 8)), q 73 (.lsl 4 (.t 71) none (some (.t 72))), ⟨(some 74), none, .app 4 40 (.t 70) (.t 73)⟩, q 5 (.mv (.t 74))]))) .skip))
 (.seq (.seq (.ops [q 75 (.mv (.t 0)), ⟨(some 76), none, .call (.c (.func (.func 164) #[] #[])) [(.t 75), (.c (i64 3))]⟩])
 (.cond (.t 76) (.ops [q 77 (.mv (.t 5)), q 78 (.mv (.t 0)), ⟨(some 79), none, .call (.c (.func (.func 147) #[] #[])) [(.t 78), (.c (i64 4))]⟩, q 80 (.bin .add (.c (i64 1)) (.t 79)), q 81 (.build [(i64 0), (i64 0), (i64 0), (str [])] [(0, 1, (.c (i64 5))), (2, 1, (.t 80))]), ⟨(some 82), none, .bsl 1 [(i64 0), (i64 0), (i64 0), (str [])] [(0, 4, (.t 81))]⟩, ⟨(some 83), none, .app 4 40 (.t 77) (.t 82)⟩, q 5 (.mv (.t 83))]) .skip))
 (.seq (.ops [q 84 (.mv (.t 5)), q 4 (.mv (.t 84))])
 .ret))))))
theorem w_spec_l01Src_l11Steps {args : List Value} {h : H} {Q : Value → H → Prop} (hl : args.length ≤ 85) (hk : wpc Try.prog b_spec_l01Src_l11Steps (retw [.tmp 4] Q) (argsFr args) h) : AC Try.prog 163 args h Q :=
  AC.of_wpc mixedOrders Try.func163 (by kernel_rfl) (by kernel_rfl : prepF Try.prog Try.f163 = some ⟨85, [.tmp 4], b_spec_l01Src_l11Steps⟩) hl hk

set_option maxHeartbeats 400000 in
theorem src_lean {h : H} {b : Nat} {v : Value} {l : List UInt8} {n : Nat} (hs : Src v l h b) (hn : 1 ≤ n ∧ n ≤ 8) : AC Try.prog 163 [ptr b 0, i64 n] h fun r h' => (∃ L : List UStep, (∀ s ∈ L, okd s) ∧ L.length ≤ n + 1 ∧ Own h h' r 4 (L.map UStep.cells)) ∧ Drew v l b h h' := by
  have hS : ∀ x, x = b → h.get x ≠ none := fun x e => by subst e; exact hs.known
  have hkn := hs.sl.known
  refine w_spec_l01Src_l11Steps (by simp) ?_
  unfold b_spec_l01Src_l11Steps
  refine wpc_cut3 (OddAt v l b h n) ?_ ?_
  · simp -implicitDefEqProofs only [go_sem, ↓reduceIte, reduceCtorEq, Int.reduceEq, Int.reduceLT, Int.reduceLE, Nat.reduceEqDiff, Nat.reduceAdd, Nat.reduceMul, Nat.reduceLeDiff, Nat.reduceSub, Int.reduceNeg]
    intro b0 hb0 n0
    simp -implicitDefEqProofs only [go_sem, ↓reduceIte, reduceCtorEq, Int.reduceEq, Int.reduceLT, Int.reduceLE, Nat.reduceEqDiff, Nat.reduceAdd, Nat.reduceMul, Nat.reduceLeDiff, Nat.reduceSub, Int.reduceNeg]
    have e0 := (Ext.refl h).set n0 ⟨[], 0⟩
    refine loopW_of (fun m f h' => ∃ (j : Nat) (acc : List UStep) (u : Value), m + j = n ∧ f 0 = ptr b 0 ∧ f 1 = i64 n ∧ f 5 = u ∧ f 6 = i64 j ∧ (∀ s ∈ acc, okd s) ∧ acc.length ≤ j ∧ Own h h' u 4 (acc.map UStep.cells) ∧ Drew v l b h h') n
      ⟨0, [], sl b0 0 0 0, by simp, by simp -implicitDefEqProofs only [go_sem, ↓reduceIte, reduceCtorEq, Int.reduceEq, Int.reduceLT, Int.reduceLE, Nat.reduceEqDiff, Nat.reduceAdd, Nat.reduceMul, Nat.reduceLeDiff, Nat.reduceSub, Int.reduceNeg], by simp -implicitDefEqProofs only [go_sem, ↓reduceIte, reduceCtorEq, Int.reduceEq, Int.reduceLT, Int.reduceLE, Nat.reduceEqDiff, Nat.reduceAdd, Nat.reduceMul, Nat.reduceLeDiff, Nat.reduceSub, Int.reduceNeg], by simp -implicitDefEqProofs only [go_sem, ↓reduceIte, reduceCtorEq, Int.reduceEq, Int.reduceLT, Int.reduceLE, Nat.reduceEqDiff, Nat.reduceAdd, Nat.reduceMul, Nat.reduceLeDiff, Nat.reduceSub, Int.reduceNeg], by simp -implicitDefEqProofs only [go_sem, ↓reduceIte, reduceCtorEq, Int.reduceEq, Int.reduceLT, Int.reduceLE, Nat.reduceEqDiff, Nat.reduceAdd, Nat.reduceMul, Nat.reduceLeDiff, Nat.reduceSub, Int.reduceNeg]; rfl, by simp, by simp, .inr ⟨b0, 0, 0, rfl, Nat.le_refl _, by simp only [H.set_base]; exact hb0, n0, H.set_get_same _ _ _, by simp, Wid.nil 4⟩, Drew.of_ext hs e0⟩ ?_
    rintro m f h' ⟨j, acc, u, hm, f0, f1, f5, f6, hok, hl, o, D⟩
    obtain ⟨au, cu, rfl⟩ := o.shape
    rw [List.length_map] at o f5
    by_cases hj : j < n
    rotate_left
    · simp -implicitDefEqProofs only [go_sem, ↓reduceIte, reduceCtorEq, Int.reduceEq, Int.reduceLT, Int.reduceLE, Nat.reduceEqDiff, Nat.reduceAdd, Nat.reduceMul, Nat.reduceLeDiff, Nat.reduceSub, Int.reduceNeg, f0, f1, f5, f6, hj, Int.ofNat_lt]
      exact ⟨acc, _, by simp -implicitDefEqProofs only [go_sem, ↓reduceIte, reduceCtorEq, Int.reduceEq, Int.reduceLT, Int.reduceLE, Nat.reduceEqDiff, Nat.reduceAdd, Nat.reduceMul, Nat.reduceLeDiff, Nat.reduceSub, Int.reduceNeg, f0], by simp -implicitDefEqProofs only [go_sem, ↓reduceIte, reduceCtorEq, Int.reduceEq, Int.reduceLT, Int.reduceLE, Nat.reduceEqDiff, Nat.reduceAdd, Nat.reduceMul, Nat.reduceLeDiff, Nat.reduceSub, Int.reduceNeg, f5], hok, by omega, o, D⟩
    simp -implicitDefEqProofs only [go_sem, ↓reduceIte, reduceCtorEq, Int.reduceEq, Int.reduceLT, Int.reduceLE, Nat.reduceEqDiff, Nat.reduceAdd, Nat.reduceMul, Nat.reduceLeDiff, Nat.reduceSub, Int.reduceNeg, f0, f1, f5, f6, hj, Int.ofNat_lt]
    refine AC_of (src_n D.2 (by omega)) ?_
    rintro _ h1 - ⟨⟨q, rfl, q0, q1, q2⟩, d1⟩
    have hq : q < n := by
      by_cases h : 1 < (n : Int)
      · have := q1 h; omega
      · have := q2 (by omega); omega
    have D1 := D.trans d1
    have o1 := o.keepS d1.1 hS
    simp -implicitDefEqProofs only [go_sem, ↓reduceIte, reduceCtorEq, Int.reduceEq, Int.reduceLT, Int.reduceLE, Nat.reduceEqDiff, Nat.reduceAdd, Nat.reduceMul, Nat.reduceLeDiff, Nat.reduceSub, Int.reduceNeg]
    intro b7 hb7 n7
    have e7 := (Ext.refl h1).set n7 ⟨[i64 3, i64 j, i64 q, str []], 4⟩
    have D2 := D1.ext e7
    have o2 := o1.ext e7
    have n7h := D1.1.nones b7 n7
    have hne := own_ne o1 n7
    have q7 : b7 ≠ b := fun e => by subst e; exact D1.2.known n7
    have g7 : (h1.set b7 ⟨[i64 3, i64 j, i64 q, str []], 4⟩).get b7 = some ⟨[i64 3, i64 j, i64 q, str []], 4⟩ := H.set_get_same _ _ _
    simp -implicitDefEqProofs only [go_sem, ↓reduceIte, reduceCtorEq, Int.reduceEq, Int.reduceLT, Int.reduceLE, Nat.reduceEqDiff, Nat.reduceAdd, Nat.reduceMul, Nat.reduceLeDiff, Nat.reduceSub, Int.reduceNeg, hb7, f0, f1, f5, f6]
    generalize hH : h1.set b7 ⟨[i64 3, i64 j, i64 q, str []], 4⟩ = h2 at e7 D2 o2 g7
    refine AC_of (src_n D2.2 (by omega)) ?_
    rintro _ h3 - ⟨⟨t, rfl, t0, t1, -⟩, d3⟩
    have ht := t1 (by omega)
    have D3 := D2.trans d3
    have o3 := o2.keepS d3.1 hS
    have g3 := d3.1.2.1 b7 _ q7 g7
    have hb3 : h3.base ≤ b7 := by rw [d3.1.1, e7.1]; exact hb7
    have hm1 : IntKind.i64.wrap ((j : Int) + 1) = ((j + 1 : Nat) : Int) := by rw [wrap_i64 (by omega) (by omega)]; omega
    have hj64 : in64 (j : Int) := by unfold in64; omega
    refine wpc_cutT (LeanAt v l b n j h) ?_ ?_
    · obtain rfl | rfl | rfl | rfl | h4 : t = 0 ∨ t = 1 ∨ t = 2 ∨ t = 3 ∨ (t = 4 ∨ t = 5) := by omega
      · simp -implicitDefEqProofs only [go_sem, ↓reduceIte, reduceCtorEq, Int.reduceEq, Int.reduceLT, Int.reduceLE, Nat.reduceEqDiff, Nat.reduceAdd, Nat.reduceMul, Nat.reduceLeDiff, Nat.reduceSub, Int.reduceNeg, f0, f1, f5, f6, hm1]
        exact ⟨m - 1, by omega, _, Ext.refl _, j + 1, acc, _, by omega, rfl, rfl, hok, by omega, o3, D3⟩
      · simp -implicitDefEqProofs only [go_sem, ↓reduceIte, reduceCtorEq, Int.reduceEq, Int.reduceLT, Int.reduceLE, Nat.reduceEqDiff, Nat.reduceAdd, Nat.reduceMul, Nat.reduceLeDiff, Nat.reduceSub, Int.reduceNeg, f0, f1, f5, f6]
        refine AC_of (src_n D3.2 (by omega)) ?_
        rintro _ h4 - ⟨⟨y, rfl, y0, y1, y2⟩, d4⟩
        have hy : y < n := by
          by_cases h : 1 < (n : Int)
          · have := y1 h; omega
          · have := y2 (by omega); omega
        have D4 := D3.trans d4
        simp -implicitDefEqProofs only [go_sem, ↓reduceIte, reduceCtorEq, Int.reduceEq, Int.reduceLT, Int.reduceLE, Nat.reduceEqDiff, Nat.reduceAdd, Nat.reduceMul, Nat.reduceLeDiff, Nat.reduceSub, Int.reduceNeg, f0]
        refine AC_of (src_data D4.2) ?_
        rintro _ h5 - ⟨⟨s, hsl, rfl⟩, d5⟩
        have D5 := D4.trans d5
        have o5 := (o3.keepS d4.1 hS).keepS d5.1 hS
        have g5 := d5.1.2.1 b7 _ q7 (d4.1.2.1 b7 _ q7 g3)
        have hb5 : h5.base ≤ b7 := by rw [d5.1.1, d4.1.1]; exact hb3
        simp -implicitDefEqProofs only [go_sem, ↓reduceIte, reduceCtorEq, Int.reduceEq, Int.reduceLT, Int.reduceLE, Nat.reduceEqDiff, Nat.reduceAdd, Nat.reduceMul, Nat.reduceLeDiff, Nat.reduceSub, Int.reduceNeg, stc_get g5, hb5]
        exact ⟨acc, _, ⟨4, j, y, s⟩, b7, by simp -implicitDefEqProofs only [go_sem, ↓reduceIte, reduceCtorEq, Int.reduceEq, Int.reduceLT, Int.reduceLE, Nat.reduceEqDiff, Nat.reduceAdd, Nat.reduceMul, Nat.reduceLeDiff, Nat.reduceSub, Int.reduceNeg, f0], by simp -implicitDefEqProofs only [go_sem, ↓reduceIte, reduceCtorEq, Int.reduceEq, Int.reduceLT, Int.reduceLE, Nat.reduceEqDiff, Nat.reduceAdd, Nat.reduceMul, Nat.reduceLeDiff, Nat.reduceSub, Int.reduceNeg, f1], by simp -implicitDefEqProofs only [go_sem, ↓reduceIte, reduceCtorEq, Int.reduceEq, Int.reduceLT, Int.reduceLE, Nat.reduceEqDiff, Nat.reduceAdd, Nat.reduceMul, Nat.reduceLeDiff, Nat.reduceSub, Int.reduceNeg, f5], by simp -implicitDefEqProofs only [go_sem, ↓reduceIte, reduceCtorEq, Int.reduceEq, Int.reduceLT, Int.reduceLE, Nat.reduceEqDiff, Nat.reduceAdd, Nat.reduceMul, Nat.reduceLeDiff, Nat.reduceSub, Int.reduceNeg, f6], by simp -implicitDefEqProofs only [go_sem, ↓reduceIte, reduceCtorEq, Int.reduceEq, Int.reduceLT, Int.reduceLE, Nat.reduceEqDiff, Nat.reduceAdd, Nat.reduceMul, Nat.reduceLeDiff, Nat.reduceSub, Int.reduceNeg], okd_of (by unfold in64; omega) hj64 (by unfold in64; omega) (by omega), hok, hl, H.set_get_same _ _ _, own_setNe o5 hne _, Drew.set D5 n7h hs _⟩
      · have hrem : IntKind.i64.wrap (((j + 1 : Nat) : Int).tmod (n : Int)) = (((j + 1) % n : Nat) : Int) := by
          rw [Int.tmod_eq_emod_of_nonneg (by omega), ← Int.natCast_emod, wrap_i64 (by omega) (by have := Nat.mod_lt (j + 1) (show n > 0 by omega); omega)]
        have hrl := Nat.mod_lt (j + 1) (show n > 0 by omega)
        simp -implicitDefEqProofs only [go_sem, ↓reduceIte, reduceCtorEq, Int.reduceEq, Int.reduceLT, Int.reduceLE, Nat.reduceEqDiff, Nat.reduceAdd, Nat.reduceMul, Nat.reduceLeDiff, Nat.reduceSub, Int.reduceNeg, f0, f1, f5, f6, hm1, hrem, show ¬ ((n : Int) = 0) by omega, stc_get g3, hb3]
        exact ⟨acc, _, ⟨3, j, ((j + 1) % n : Nat), []⟩, b7, by simp -implicitDefEqProofs only [go_sem, ↓reduceIte, reduceCtorEq, Int.reduceEq, Int.reduceLT, Int.reduceLE, Nat.reduceEqDiff, Nat.reduceAdd, Nat.reduceMul, Nat.reduceLeDiff, Nat.reduceSub, Int.reduceNeg, f0], by simp -implicitDefEqProofs only [go_sem, ↓reduceIte, reduceCtorEq, Int.reduceEq, Int.reduceLT, Int.reduceLE, Nat.reduceEqDiff, Nat.reduceAdd, Nat.reduceMul, Nat.reduceLeDiff, Nat.reduceSub, Int.reduceNeg, f1], by simp -implicitDefEqProofs only [go_sem, ↓reduceIte, reduceCtorEq, Int.reduceEq, Int.reduceLT, Int.reduceLE, Nat.reduceEqDiff, Nat.reduceAdd, Nat.reduceMul, Nat.reduceLeDiff, Nat.reduceSub, Int.reduceNeg, f5], by simp -implicitDefEqProofs only [go_sem, ↓reduceIte, reduceCtorEq, Int.reduceEq, Int.reduceLT, Int.reduceLE, Nat.reduceEqDiff, Nat.reduceAdd, Nat.reduceMul, Nat.reduceLeDiff, Nat.reduceSub, Int.reduceNeg, f6], by simp -implicitDefEqProofs only [go_sem, ↓reduceIte, reduceCtorEq, Int.reduceEq, Int.reduceLT, Int.reduceLE, Nat.reduceEqDiff, Nat.reduceAdd, Nat.reduceMul, Nat.reduceLeDiff, Nat.reduceSub, Int.reduceNeg], okd_of (by unfold in64; omega) hj64 (by unfold in64; omega) (by simp), hok, hl, H.set_get_same _ _ _, own_setNe o3 hne _, Drew.set D3 n7h hs _⟩
      · simp -implicitDefEqProofs only [go_sem, ↓reduceIte, reduceCtorEq, Int.reduceEq, Int.reduceLT, Int.reduceLE, Nat.reduceEqDiff, Nat.reduceAdd, Nat.reduceMul, Nat.reduceLeDiff, Nat.reduceSub, Int.reduceNeg, f0, f1, f5, f6]
        refine AC_of (src_step D3.2 (by unfold in64; omega)) ?_
        rintro _ h4 - ⟨⟨x, hx, rfl⟩, d4⟩
        have D4 := D3.trans d4
        have o4 := o3.keepS d4.1 hS
        have g4 := d4.1.2.1 b7 _ q7 g3
        have hb4 : h4.base ≤ b7 := by rw [d4.1.1]; exact hb3
        simp -implicitDefEqProofs only [go_sem, ↓reduceIte, reduceCtorEq, Int.reduceEq, Int.reduceLT, Int.reduceLE, Nat.reduceEqDiff, Nat.reduceAdd, Nat.reduceMul, Nat.reduceLeDiff, Nat.reduceSub, Int.reduceNeg, f0, f1, f5, f6, stc_get g4, hb4]
        exact ⟨acc, _, ⟨x.kind, j, x.src, x.data⟩, b7, by simp -implicitDefEqProofs only [go_sem, ↓reduceIte, reduceCtorEq, Int.reduceEq, Int.reduceLT, Int.reduceLE, Nat.reduceEqDiff, Nat.reduceAdd, Nat.reduceMul, Nat.reduceLeDiff, Nat.reduceSub, Int.reduceNeg, f0], by simp -implicitDefEqProofs only [go_sem, ↓reduceIte, reduceCtorEq, Int.reduceEq, Int.reduceLT, Int.reduceLE, Nat.reduceEqDiff, Nat.reduceAdd, Nat.reduceMul, Nat.reduceLeDiff, Nat.reduceSub, Int.reduceNeg, f1], by simp -implicitDefEqProofs only [go_sem, ↓reduceIte, reduceCtorEq, Int.reduceEq, Int.reduceLT, Int.reduceLE, Nat.reduceEqDiff, Nat.reduceAdd, Nat.reduceMul, Nat.reduceLeDiff, Nat.reduceSub, Int.reduceNeg, f5], by simp -implicitDefEqProofs only [go_sem, ↓reduceIte, reduceCtorEq, Int.reduceEq, Int.reduceLT, Int.reduceLE, Nat.reduceEqDiff, Nat.reduceAdd, Nat.reduceMul, Nat.reduceLeDiff, Nat.reduceSub, Int.reduceNeg, f6], by simp -implicitDefEqProofs only [go_sem, ↓reduceIte, reduceCtorEq, Int.reduceEq, Int.reduceLT, Int.reduceLE, Nat.reduceEqDiff, Nat.reduceAdd, Nat.reduceMul, Nat.reduceLeDiff, Nat.reduceSub, Int.reduceNeg], okd_of hx.1.1 hj64 hx.1.2.2.1 hx.2, hok, hl, H.set_get_same _ _ _, own_setNe o4 hne _, Drew.set D4 n7h hs _⟩
      · simp -implicitDefEqProofs only [go_sem, ↓reduceIte, reduceCtorEq, Int.reduceEq, Int.reduceLT, Int.reduceLE, Nat.reduceEqDiff, Nat.reduceAdd, Nat.reduceMul, Nat.reduceLeDiff, Nat.reduceSub, Int.reduceNeg, f0, f1, f5, f6, show ¬ (t = 0) by omega, show ¬ (t = 1) by omega, show ¬ (t = 2) by omega, show ¬ (t = 3) by omega]
        exact ⟨acc, _, ⟨3, j, q, []⟩, b7, by simp -implicitDefEqProofs only [go_sem, ↓reduceIte, reduceCtorEq, Int.reduceEq, Int.reduceLT, Int.reduceLE, Nat.reduceEqDiff, Nat.reduceAdd, Nat.reduceMul, Nat.reduceLeDiff, Nat.reduceSub, Int.reduceNeg, f0], by simp -implicitDefEqProofs only [go_sem, ↓reduceIte, reduceCtorEq, Int.reduceEq, Int.reduceLT, Int.reduceLE, Nat.reduceEqDiff, Nat.reduceAdd, Nat.reduceMul, Nat.reduceLeDiff, Nat.reduceSub, Int.reduceNeg, f1], by simp -implicitDefEqProofs only [go_sem, ↓reduceIte, reduceCtorEq, Int.reduceEq, Int.reduceLT, Int.reduceLE, Nat.reduceEqDiff, Nat.reduceAdd, Nat.reduceMul, Nat.reduceLeDiff, Nat.reduceSub, Int.reduceNeg, f5], by simp -implicitDefEqProofs only [go_sem, ↓reduceIte, reduceCtorEq, Int.reduceEq, Int.reduceLT, Int.reduceLE, Nat.reduceEqDiff, Nat.reduceAdd, Nat.reduceMul, Nat.reduceLeDiff, Nat.reduceSub, Int.reduceNeg, f6], by simp -implicitDefEqProofs only [go_sem, ↓reduceIte, reduceCtorEq, Int.reduceEq, Int.reduceLT, Int.reduceLE, Nat.reduceEqDiff, Nat.reduceAdd, Nat.reduceMul, Nat.reduceLeDiff, Nat.reduceSub, Int.reduceNeg], okd_of (by unfold in64; omega) hj64 (by unfold in64; omega) (by simp), hok, hl, g3, o3, D3⟩
    clear o3 D3 g3 hb3 d3 o2 D2 g7 hH e7 o1 D1 hne d1 n7h f0 f1 f5 f6 o D hok hl ht t0 t1 q0 q1 q2 hq
    skip
    rintro f' h' ⟨acc, u, x, b7, f0, f1, f5, f6, f7, hx, hok, hl, g, o, D⟩
    obtain ⟨au, cu, rfl⟩ := o.shape
    rw [List.length_map] at o f5
    simp -implicitDefEqProofs only [go_sem, ↓reduceIte, reduceCtorEq, Int.reduceEq, Int.reduceLT, Int.reduceLE, Nat.reduceEqDiff, Nat.reduceAdd, Nat.reduceMul, Nat.reduceLeDiff, Nat.reduceSub, Int.reduceNeg, f0, f1, f5, f6, f7, ldc_get g]
    intro bx hbx nx
    have D6 := D.ext ((Ext.refl h').set nx ⟨x.cells, 4⟩)
    simp -implicitDefEqProofs only [go_sem, ↓reduceIte, reduceCtorEq, Int.reduceEq, Int.reduceLT, Int.reduceLE, Nat.reduceEqDiff, Nat.reduceAdd, Nat.reduceMul, Nat.reduceLeDiff, Nat.reduceSub, Int.reduceNeg, f0, f1, f5, f6, f7]
    refine appW_keep (h0 := h) (rows := acc.map UStep.cells) (new := [x.cells]) (fun c hc => D6.1.nones c hc) (o.ext ((Ext.refl _).set nx _)) (by simp -implicitDefEqProofs only [go_sem, ↓reduceIte, reduceCtorEq, Int.reduceEq, Int.reduceLT, Int.reduceLE, Nat.reduceEqDiff, Nat.reduceAdd, Nat.reduceMul, Nat.reduceLeDiff, Nat.reduceSub, Int.reduceNeg]; rfl) (by intro r hr; simp at hr; subst hr; rfl) rfl (by simp; omega) ?_
    intro v' h6 k6 o6
    simp -implicitDefEqProofs only [go_sem, ↓reduceIte, reduceCtorEq, Int.reduceEq, Int.reduceLT, Int.reduceLE, Nat.reduceEqDiff, Nat.reduceAdd, Nat.reduceMul, Nat.reduceLeDiff, Nat.reduceSub, Int.reduceNeg, f0, f1, f5, f6, f7, hm1]
    exact ⟨m - 1, by omega, _, Ext.refl _, j + 1, acc ++ [x], v', by omega, rfl, rfl, fun s hs => by
      rcases List.mem_append.1 hs with h | h
      · exact hok s h
      · simp only [List.mem_singleton] at h; subst h; exact hx, by simp; omega, by simpa using o6, ⟨Keep.own D6.1 k6, Src.keepM D6.2 k6 hs.known hkn⟩⟩
  rintro f h1 ⟨acc, u, f0, f5, hok, hl, o, d⟩
  obtain ⟨au, cu, rfl⟩ := o.shape
  rw [List.length_map] at o f5
  have hcl : (acc.map UStep.cells).length = acc.length := by simp
  have wac : Wid 4 (acc.map UStep.cells) := Wid.map fun _ => rfl
  refine wpc_cut (OddAt v l b h n) ?_ ?_
  · simp -implicitDefEqProofs only [go_sem, ↓reduceIte, reduceCtorEq, Int.reduceEq, Int.reduceLT, Int.reduceLE, Nat.reduceEqDiff, Nat.reduceAdd, Nat.reduceMul, Nat.reduceLeDiff, Nat.reduceSub, Int.reduceNeg, f0]
    refine AC_of (src_one d.2 (by omega)) ?_
    rintro _ h2 - ⟨⟨t, rfl⟩, d2⟩
    have D2 := d.trans d2
    have o2 := o.keepS d2.1 hS
    cases t
    · simp -implicitDefEqProofs only [go_sem, ↓reduceIte, reduceCtorEq, Int.reduceEq, Int.reduceLT, Int.reduceLE, Nat.reduceEqDiff, Nat.reduceAdd, Nat.reduceMul, Nat.reduceLeDiff, Nat.reduceSub, Int.reduceNeg, f0, f5]
      exact ⟨acc, _, by simp -implicitDefEqProofs only [go_sem, ↓reduceIte, reduceCtorEq, Int.reduceEq, Int.reduceLT, Int.reduceLE, Nat.reduceEqDiff, Nat.reduceAdd, Nat.reduceMul, Nat.reduceLeDiff, Nat.reduceSub, Int.reduceNeg, f0], by simp -implicitDefEqProofs only [go_sem, ↓reduceIte, reduceCtorEq, Int.reduceEq, Int.reduceLT, Int.reduceLE, Nat.reduceEqDiff, Nat.reduceAdd, Nat.reduceMul, Nat.reduceLeDiff, Nat.reduceSub, Int.reduceNeg, f5], hok, hl, o2, D2⟩
    by_cases h1' : 1 < acc.length
    rotate_left
    · simp -implicitDefEqProofs only [go_sem, ↓reduceIte, reduceCtorEq, Int.reduceEq, Int.reduceLT, Int.reduceLE, Nat.reduceEqDiff, Nat.reduceAdd, Nat.reduceMul, Nat.reduceLeDiff, Nat.reduceSub, Int.reduceNeg, f0, f5, show ¬ (1 : Int) < (acc.length : Int) by omega]
      exact ⟨acc, _, by simp -implicitDefEqProofs only [go_sem, ↓reduceIte, reduceCtorEq, Int.reduceEq, Int.reduceLT, Int.reduceLE, Nat.reduceEqDiff, Nat.reduceAdd, Nat.reduceMul, Nat.reduceLeDiff, Nat.reduceSub, Int.reduceNeg, f0], by simp -implicitDefEqProofs only [go_sem, ↓reduceIte, reduceCtorEq, Int.reduceEq, Int.reduceLT, Int.reduceLE, Nat.reduceEqDiff, Nat.reduceAdd, Nat.reduceMul, Nat.reduceLeDiff, Nat.reduceSub, Int.reduceNeg, f5], hok, hl, o2, D2⟩
    simp -implicitDefEqProofs only [go_sem, ↓reduceIte, reduceCtorEq, Int.reduceEq, Int.reduceLT, Int.reduceLE, Nat.reduceEqDiff, Nat.reduceAdd, Nat.reduceMul, Nat.reduceLeDiff, Nat.reduceSub, Int.reduceNeg, f0, f5, show (1 : Int) < (acc.length : Int) by omega, wrap_i64 (show -(9223372036854775808 : Int) ≤ ((acc.length : Int) - 1) by omega) (show ((acc.length : Int) - 1) < 9223372036854775808 by omega)]
    refine AC_of (src_n D2.2 (by omega)) ?_
    rintro _ h3 - ⟨⟨q, rfl, q0, q1, q2⟩, d3⟩
    have hq : q < (acc.length : Int) - 1 := by
      by_cases h : 1 < (acc.length : Int) - 1
      · exact q1 h
      · have := q2 (by omega); omega
    obtain ⟨k, rfl⟩ : ∃ k : Nat, q = k := ⟨q.toNat, by omega⟩
    have D3 := D2.trans d3
    have o3 := o2.keepS d3.1 hS
    simp -implicitDefEqProofs only [go_sem, ↓reduceIte, reduceCtorEq, Int.reduceEq, Int.reduceLT, Int.reduceLE, Nat.reduceEqDiff, Nat.reduceAdd, Nat.reduceMul, Nat.reduceLeDiff, Nat.reduceSub, Int.reduceNeg, f0, f5, wrap_i64 (show -(9223372036854775808 : Int) ≤ ((1 + k : Nat) : Int) by omega) (show ((1 + k : Nat) : Int) < 9223372036854775808 by omega), show (1 : Int) + (k : Int) = ((1 + k : Nat) : Int) by omega]
    intro bz hbz nz
    have s3 := o3.sl
    have ed : ((acc.map UStep.cells).take acc.length).drop (1 + k) = (acc.drop (1 + k)).map UStep.cells := by rw [List.take_of_length_le (by simp), List.map_drop]
    have p3 := s3.part (lo := 1 + k) (hi := acc.length) (by omega) (Nat.le_refl _)
    rw [ed] at p3
    have wd : Wid 4 ((acc.drop (1 + k)).map UStep.cells) := Wid.map fun _ => rfl
    have hsrc := src0 nz p3 wd (by decide)
    have hdl : ((acc.drop (1 + k)).map UStep.cells).length = acc.length - (1 + k) := by simp
    rw [hdl] at hsrc
    simp -implicitDefEqProofs only [go_sem, ↓reduceIte, reduceCtorEq, Int.reduceEq, Int.reduceLT, Int.reduceLE, Nat.reduceEqDiff, Nat.reduceAdd, Nat.reduceMul, Nat.reduceLeDiff, Nat.reduceSub, Int.reduceNeg, f0, f5, Int.natCast_nonneg, show ((1 + k : Nat) : Int) ≤ (acc.length : Int) by omega, Int.toNat_natCast, hsrc]
    refine app0 hbz nz (by rw [hdl]) wd (steps_one _) (by rw [hdl]; omega) ?_
    intro v9 h4 e4 o4
    have D4 := D3.ext e4
    have o4 := Own.backN (h0 := h) o4 (fun c hc => D3.1.nones c hc)
    have o5 := o3.ext e4
    obtain ⟨a9, c9, rfl⟩ := o4.shape
    have s4 := o5.sl.take (hi := 1 + k) (by omega)
    have et : (acc.map UStep.cells).take (1 + k) = (acc.take (1 + k)).map UStep.cells := by rw [List.map_take]
    rw [et] at s4
    have wt : Wid 4 ((acc.take (1 + k)).map UStep.cells) := Wid.map fun _ => rfl
    have hsrc2 := s4.src wt (by decide)
    have htl : ((acc.take (1 + k)).map UStep.cells).length = 1 + k := by simp; omega
    rw [htl] at hsrc2
    have hcu : 1 + k ≤ cu := by
      obtain ⟨_, _, _, _, e', hcap, _, _⟩ := o5.sl
      simp only [hcl, Value.slice.injEq, true_and] at e' hcap
      omega
    rw [hdl] at o4
    simp -implicitDefEqProofs only [go_sem, ↓reduceIte, reduceCtorEq, Int.reduceEq, Int.reduceLT, Int.reduceLE, Nat.reduceEqDiff, Nat.reduceAdd, Nat.reduceMul, Nat.reduceLeDiff, Nat.reduceSub, Int.reduceNeg, f0, f5, hdl, Int.natCast_nonneg, show ((1 + k : Nat) : Int) ≤ (cu : Int) by omega, Int.toNat_natCast, hsrc2]
    refine appW_keep (h0 := h) (rows := (acc.drop (1 + k)).map UStep.cells) (new := (acc.take (1 + k)).map UStep.cells) (fun c hc => D4.1.nones c hc) (by first | exact o4 | (rw [hdl]; exact o4)) (by rw [htl]) wt (steps_one _) (by rw [hdl, htl]; omega) ?_
    intro v' h6 k6 o6
    simp -implicitDefEqProofs only [go_sem, ↓reduceIte, reduceCtorEq, Int.reduceEq, Int.reduceLT, Int.reduceLE, Nat.reduceEqDiff, Nat.reduceAdd, Nat.reduceMul, Nat.reduceLeDiff, Nat.reduceSub, Int.reduceNeg, f0, f5]
    exact ⟨acc.drop (1 + k) ++ acc.take (1 + k), v', by simp -implicitDefEqProofs only [go_sem, ↓reduceIte, reduceCtorEq, Int.reduceEq, Int.reduceLT, Int.reduceLE, Nat.reduceEqDiff, Nat.reduceAdd, Nat.reduceMul, Nat.reduceLeDiff, Nat.reduceSub, Int.reduceNeg, f0], by simp -implicitDefEqProofs only [go_sem, ↓reduceIte, reduceCtorEq, Int.reduceEq, Int.reduceLT, Int.reduceLE, Nat.reduceEqDiff, Nat.reduceAdd, Nat.reduceMul, Nat.reduceLeDiff, Nat.reduceSub, Int.reduceNeg], fun s hs => by
      rcases List.mem_append.1 hs with h | h
      · exact hok s (List.mem_of_mem_drop h)
      · exact hok s (List.mem_of_mem_take h), by simp; omega, by simpa using o6, ⟨Keep.own D4.1 k6, Src.keepM D4.2 k6 hs.known hkn⟩⟩
  clear f0 f5 hok hl o d hcl wac
  rintro f h1 ⟨acc, u, f0, f5, hok, hl, o, d⟩
  obtain ⟨au, cu, rfl⟩ := o.shape
  rw [List.length_map] at o f5
  refine wpc_cut (OddAt v l b h (n + 1)) ?_ ?_
  · simp -implicitDefEqProofs only [go_sem, ↓reduceIte, reduceCtorEq, Int.reduceEq, Int.reduceLT, Int.reduceLE, Nat.reduceEqDiff, Nat.reduceAdd, Nat.reduceMul, Nat.reduceLeDiff, Nat.reduceSub, Int.reduceNeg, f0]
    refine AC_of (src_one d.2 (by omega)) ?_
    rintro _ h2 - ⟨⟨t, rfl⟩, d2⟩
    have D2 := d.trans d2
    have o2 := o.keepS d2.1 hS
    cases t
    · simp -implicitDefEqProofs only [go_sem, ↓reduceIte, reduceCtorEq, Int.reduceEq, Int.reduceLT, Int.reduceLE, Nat.reduceEqDiff, Nat.reduceAdd, Nat.reduceMul, Nat.reduceLeDiff, Nat.reduceSub, Int.reduceNeg, f0, f5]
      exact ⟨acc, _, by simp -implicitDefEqProofs only [go_sem, ↓reduceIte, reduceCtorEq, Int.reduceEq, Int.reduceLT, Int.reduceLE, Nat.reduceEqDiff, Nat.reduceAdd, Nat.reduceMul, Nat.reduceLeDiff, Nat.reduceSub, Int.reduceNeg, f0], by simp -implicitDefEqProofs only [go_sem, ↓reduceIte, reduceCtorEq, Int.reduceEq, Int.reduceLT, Int.reduceLE, Nat.reduceEqDiff, Nat.reduceAdd, Nat.reduceMul, Nat.reduceLeDiff, Nat.reduceSub, Int.reduceNeg, f5], hok, by omega, o2, D2⟩
    simp -implicitDefEqProofs only [go_sem, ↓reduceIte, reduceCtorEq, Int.reduceEq, Int.reduceLT, Int.reduceLE, Nat.reduceEqDiff, Nat.reduceAdd, Nat.reduceMul, Nat.reduceLeDiff, Nat.reduceSub, Int.reduceNeg, f0, f5]
    refine AC_of (src_n D2.2 (by omega)) ?_
    rintro _ h3 - ⟨⟨q, rfl, q0, q1, -⟩, d3⟩
    have hq := q1 (by omega)
    have D3 := D2.trans d3
    have o3 := o2.keepS d3.1 hS
    simp -implicitDefEqProofs only [go_sem, ↓reduceIte, reduceCtorEq, Int.reduceEq, Int.reduceLT, Int.reduceLE, Nat.reduceEqDiff, Nat.reduceAdd, Nat.reduceMul, Nat.reduceLeDiff, Nat.reduceSub, Int.reduceNeg, f0, f5, wrap_i64 (show -(9223372036854775808 : Int) ≤ (1 + q) by omega) (show (1 + q) < 9223372036854775808 by omega)]
    intro bx hbx nx
    have D4 := D3.ext ((Ext.refl h3).set nx ⟨[i64 5, i64 0, i64 (1 + q), str []], 4⟩)
    simp -implicitDefEqProofs only [go_sem, ↓reduceIte, reduceCtorEq, Int.reduceEq, Int.reduceLT, Int.reduceLE, Nat.reduceEqDiff, Nat.reduceAdd, Nat.reduceMul, Nat.reduceLeDiff, Nat.reduceSub, Int.reduceNeg, f0, f5]
    refine appW_keep (h0 := h) (rows := acc.map UStep.cells) (new := [UStep.cells ⟨5, 0, 1 + q, []⟩]) (fun c hc => D4.1.nones c hc) (o3.ext ((Ext.refl _).set nx _)) (by simp -implicitDefEqProofs only [go_sem, ↓reduceIte, reduceCtorEq, Int.reduceEq, Int.reduceLT, Int.reduceLE, Nat.reduceEqDiff, Nat.reduceAdd, Nat.reduceMul, Nat.reduceLeDiff, Nat.reduceSub, Int.reduceNeg]; rfl) (by intro r hr; simp at hr; subst hr; rfl) rfl (by simp; omega) ?_
    intro v' h6 k6 o6
    simp -implicitDefEqProofs only [go_sem, ↓reduceIte, reduceCtorEq, Int.reduceEq, Int.reduceLT, Int.reduceLE, Nat.reduceEqDiff, Nat.reduceAdd, Nat.reduceMul, Nat.reduceLeDiff, Nat.reduceSub, Int.reduceNeg, f0, f5]
    exact ⟨acc ++ [⟨5, 0, 1 + q, []⟩], v', by simp -implicitDefEqProofs only [go_sem, ↓reduceIte, reduceCtorEq, Int.reduceEq, Int.reduceLT, Int.reduceLE, Nat.reduceEqDiff, Nat.reduceAdd, Nat.reduceMul, Nat.reduceLeDiff, Nat.reduceSub, Int.reduceNeg, f0], by simp -implicitDefEqProofs only [go_sem, ↓reduceIte, reduceCtorEq, Int.reduceEq, Int.reduceLT, Int.reduceLE, Nat.reduceEqDiff, Nat.reduceAdd, Nat.reduceMul, Nat.reduceLeDiff, Nat.reduceSub, Int.reduceNeg], fun s hs => by
      rcases List.mem_append.1 hs with h | h
      · exact hok s h
      · simp only [List.mem_singleton] at h; subst h; exact okd_of (by unfold in64; omega) (by unfold in64; omega) (by unfold in64; omega) (by simp), by simp; omega, by simpa using o6, ⟨Keep.own D4.1 k6, Src.keepM D4.2 k6 hs.known hkn⟩⟩
  clear f0 f5 hok hl o d
  rintro f h1 ⟨acc, u, f0, f5, hok, hl, o, d⟩
  simp -implicitDefEqProofs only [go_sem, ↓reduceIte, reduceCtorEq, Int.reduceEq, Int.reduceLT, Int.reduceLE, Nat.reduceEqDiff, Nat.reduceAdd, Nat.reduceMul, Nat.reduceLeDiff, Nat.reduceSub, Int.reduceNeg, f0, f5]
  exact ⟨⟨acc, hok, hl, o⟩, d⟩
/-- (*spec.l01Src).edge -/
def b_spec_l01Src_edge : C := (.seq (.ops [q 2 (.mv (.c (i64 0)))])
 (.seq (.ops [⟨(some 3), none, .bsl 14 [(i64 0), (i64 0), (i64 0), (i64 0), (i64 0), (i64 0), (i64 0), (i64 0), (i64 0), (i64 0), (i64 0), (i64 0), (i64 0), (i64 0)] [(0, 1, (.c (i64 0))), (1, 1, (.c (i64 1))), (2, 1, (.c (i64 (-1)))), (3, 1, (.c (i64 2))), (4, 1, (.c (i64 1000))), (5, 1, (.c (i64 1001))), (6, 1, (.c (i64 2147483648))), (7, 1, (.c (i64 2147483647))), (8, 1, (.c (i64 (-2147483648)))), (9, 1, (.c (i64 4611686018427387904))), (10, 1, (.c (i64 9223372036854775807))), (11, 1, (.c (i64 (-9223372036854775808)))), (12, 1, (.c (i64 1000000))), (13, 1, (.c (i64 1000001)))]⟩, q 4 (.mv (.t 0)), ⟨(some 5), none, .call (.c (.func (.func 147) #[] #[])) [(.t 4), (.c (i64 14))]⟩, q 6 (.idx 1 (.t 3) (.t 5)), q 7 (.ld false 1 (.t 6)), q 2 (.mv (.t 7))])
 .ret))
theorem w_spec_l01Src_edge {args : List Value} {h : H} {Q : Value → H → Prop} (hl : args.length ≤ 8) (hk : wpc Try.prog b_spec_l01Src_edge (retw [.tmp 2] Q) (argsFr args) h) : AC Try.prog 165 args h Q :=
  AC.of_wpc mixedOrders Try.func165 (by kernel_rfl) (by kernel_rfl : prepF Try.prog Try.f165 = some ⟨8, [.tmp 2], b_spec_l01Src_edge⟩) hl hk

theorem src_edge {h : H} {b : Nat} {v : Value} {l : List UInt8} (hs : Src v l h b) : AC Try.prog 165 [ptr b 0] h fun r h' => (∃ k : Int, r = i64 k ∧ in64 k) ∧ Drew v l b h h' := by
  refine w_spec_l01Src_edge (by simp) ?_
  unfold b_spec_l01Src_edge
  simp -implicitDefEqProofs only [go_sem, ↓reduceIte, reduceCtorEq, Int.reduceEq, Int.reduceLT, Int.reduceLE, Nat.reduceEqDiff, Nat.reduceAdd, Nat.reduceMul, Nat.reduceLeDiff, Nat.reduceSub, Int.reduceNeg]
  intro b4 hb4 n4
  obtain ⟨cs, hcs⟩ : ∃ cs : List Value, cs = [i64 0, i64 1, i64 (-1), i64 2, i64 1000, i64 1001, i64 2147483648, i64 2147483647, i64 (-2147483648), i64 4611686018427387904, i64 9223372036854775807, i64 (-9223372036854775808), i64 1000000, i64 1000001] := ⟨_, rfl⟩
  have lst : ∀ n : Nat, n < 14 → ∃ y : Int, in64 y ∧ cs[n]? = some (i64 y) := by
    subst hcs
    intro n hn
    have : n = 0 ∨ n = 1 ∨ n = 2 ∨ n = 3 ∨ n = 4 ∨ n = 5 ∨ n = 6 ∨ n = 7 ∨ n = 8 ∨ n = 9 ∨ n = 10 ∨ n = 11 ∨ n = 12 ∨ n = 13 := by omega
    rcases this with rfl | rfl | rfl | rfl | rfl | rfl | rfl | rfl | rfl | rfl | rfl | rfl | rfl | rfl
    all_goals exact ⟨_, by unfold in64; omega, rfl⟩
  have hcl : cs.length = 14 := by rw [hcs]; rfl
  rw [← hcs]
  have e4 := (Ext.refl h).set n4 ⟨cs, 14⟩
  simp -implicitDefEqProofs only [go_sem, ↓reduceIte, reduceCtorEq, Int.reduceEq, Int.reduceLT, Int.reduceLE, Nat.reduceEqDiff, Nat.reduceAdd, Nat.reduceMul, Nat.reduceLeDiff, Nat.reduceSub, Int.reduceNeg]
  refine AC_of (src_n (hs.ext e4) (by omega)) ?_
  rintro _ h1 - ⟨⟨k, rfl, k0, k1, -⟩, d⟩
  have hk := k1 (by omega)
  have q4 : b4 ≠ b := fun e => by subst e; exact hs.known n4
  have g4 := d.1.2.1 b4 _ q4 (H.set_get_same _ _ _)
  obtain ⟨n, rfl⟩ : ∃ n : Nat, k = n := ⟨k.toNat, by omega⟩
  obtain ⟨y, hy, hl⟩ := lst n (by omega)
  have e1 : ldc h1 b4 n 1 = some [i64 y] := by
    rw [ldc_get g4, if_pos (by simp only [hcl]; omega)]
    rw [List.getElem?_eq_some_iff] at hl
    obtain ⟨hl1, hl2⟩ := hl
    simp only
    rw [List.drop_eq_getElem_cons hl1, hl2]; rfl
  simp -implicitDefEqProofs only [go_sem, ↓reduceIte, reduceCtorEq, Int.reduceEq, Int.reduceLT, Int.reduceLE, Nat.reduceEqDiff, Nat.reduceAdd, Nat.reduceMul, Nat.reduceLeDiff, Nat.reduceSub, Int.reduceNeg, show (n : Int) < ((14 : Nat) : Int) by omega, Int.natCast_nonneg, Int.toNat_natCast, Nat.mul_one, e1]
  exact ⟨⟨y, rfl, hy⟩, (Drew.of_ext hs e4).trans d⟩
end Go.Proofs.Ytpponffjeilhmaa
