/- A helper of this seat's claims (contracts of the functions): what it shows is shown for every input that its statements name, on no other condition. -/
import Derived.Test.YtpponffjeilhmaaCDx
import Derived.Test.YtpponffjeilhmaaC11w
set_option linter.unusedVariables false
set_option linter.unusedSimpArgs false
set_option maxRecDepth 100000
namespace Go.Proofs.Ytpponffjeilhmaa
open Go.KH

/-! ## Plans drawn -/
theorem Fre.backN {h0 h1 h : H} {v : Value} {w : Nat} {rows : List (List Value)} (o : Fre h1 h v w rows) (e : ∀ b, h1.get b = none → h0.get b = none) : Fre h0 h v w rows := by
  rcases o with o | ⟨b, c, z, e1, e2, e3, e4, e5, e6, e7⟩
  · exact .inl o
  · exact .inr ⟨b, c, z, e1, e2, e3, e b e4, e5, e6, e7⟩
/-- spec.DrawPlanOf -/
def b_spec_DrawPlanOf : C := (.seq (.ops [q 2 (.mv (.c nils)), q 3 (.mv (.c (i64 0)))])
 (.seq (.ops [q 6 (.mv (.t 0)), ⟨(some 7), none, .call (.c (.func (.func 145) #[] #[])) [(.t 6)]⟩, q 4 (.mv (.t 7))])
 (.seq (.ops [q 8 (.mv (.t 4)), ⟨(some 9), none, .call (.c (.func (.func 147) #[] #[])) [(.t 8), (.c (i64 6))]⟩, q 10 (.bin .add (.c (i64 1)) (.t 9)), q 5 (.mv (.t 10))])
 (.seq (.seq (.ops [q 11 (.mv (.t 4)), ⟨(some 12), none, .call (.c (.func (.func 164) #[] #[])) [(.t 11), (.c (i64 8))]⟩])
 (.cond (.t 12) (.seq (.ops [q 13 (.mv (.t 4)), ⟨(some 14), none, .call (.c (.func (.func 152) #[] #[])) [(.t 13), (.c (i64 4))]⟩, q 15 (.mv (.t 4)), ⟨(some 16), none, .call (.c (.func (.func 147) #[] #[])) [(.t 15), (.c (i64 10))]⟩, q 2 (.mv (.t 14)), q 3 (.mv (.t 16))])
 .ret) .skip))
 (.seq (.ops [q 17 (.mv (.t 4)), q 18 (.mv (.t 5)), ⟨(some 19), none, .call (.c (.func (.func 163) #[] #[])) [(.t 17), (.t 18)]⟩, q 20 (.mv (.t 5)), q 2 (.mv (.t 19)), q 3 (.mv (.t 20))])
 .ret)))))
theorem w_spec_DrawPlanOf {args : List Value} {h : H} {Q : Value → H → Prop} (hl : args.length ≤ 21) (hk : wpc Try.prog b_spec_DrawPlanOf (retw [.tmp 2, .tmp 3] Q) (argsFr args) h) : AC Try.prog 76 args h Q :=
  AC.of_wpc mixedOrders Try.func76 (by kernel_rfl) (by kernel_rfl : prepF Try.prog Try.f76 = some ⟨21, [.tmp 2, .tmp 3], b_spec_DrawPlanOf⟩) hl hk

theorem drawPlanOf_ac {h : H} {v : Value} {l : List UInt8} (hv : Sl h v 1 (bys l)) (hn : l.length ≤ 1048576) : AC Try.prog 76 [v] h fun r h' => Ext h h' ∧ ∃ (L : List UStep) (n : Int) (u : Value), (∀ s ∈ L, okd s) ∧ L.length ≤ 21 ∧ in64 n ∧ r = .tuple #[u, i64 n] ∧ Sl h' u 4 (L.map UStep.cells) := by
  refine w_spec_DrawPlanOf (by simp) ?_
  unfold b_spec_DrawPlanOf
  simp -implicitDefEqProofs only [go_sem, ↓reduceIte, reduceCtorEq, Int.reduceEq, Int.reduceLT, Int.reduceLE, Nat.reduceEqDiff, Nat.reduceAdd, Nat.reduceMul, Nat.reduceLeDiff, Nat.reduceSub, Int.reduceNeg]
  refine AC_of (source_ac hv hn) ?_
  rintro _ h1 - ⟨b, rfl, nb, e1, hs⟩
  have ex : ∀ {h' : H}, Drew v l b h1 h' → Ext h h' := fun d => Keep.ext (S := fun x => x = b) e1 d.1 (fun c hc => by subst hc; exact nb)
  simp -implicitDefEqProofs only [go_sem, ↓reduceIte, reduceCtorEq, Int.reduceEq, Int.reduceLT, Int.reduceLE, Nat.reduceEqDiff, Nat.reduceAdd, Nat.reduceMul, Nat.reduceLeDiff, Nat.reduceSub, Int.reduceNeg]
  refine AC_of (src_n hs (by omega)) ?_
  rintro _ h2 - ⟨⟨q, rfl, q0, q1, -⟩, d2⟩
  have hq := q1 (by omega)
  obtain ⟨q, rfl⟩ : ∃ n : Nat, q = n := ⟨q.toNat, by omega⟩
  simp -implicitDefEqProofs only [go_sem, ↓reduceIte, reduceCtorEq, Int.reduceEq, Int.reduceLT, Int.reduceLE, Nat.reduceEqDiff, Nat.reduceAdd, Nat.reduceMul, Nat.reduceLeDiff, Nat.reduceSub, Int.reduceNeg, wrap_i64 (show -(9223372036854775808 : Int) ≤ ((1 + q : Nat) : Int) by omega) (show ((1 + q : Nat) : Int) < 9223372036854775808 by omega), show (1 : Int) + (q : Int) = ((1 + q : Nat) : Int) by omega]
  refine AC_of (src_one d2.2 (by omega)) ?_
  rintro _ h3 - ⟨⟨t, rfl⟩, d3⟩
  have D3 := d2.trans d3
  cases t
  · simp -implicitDefEqProofs only [go_sem, ↓reduceIte, reduceCtorEq, Int.reduceEq, Int.reduceLT, Int.reduceLE, Nat.reduceEqDiff, Nat.reduceAdd, Nat.reduceMul, Nat.reduceLeDiff, Nat.reduceSub, Int.reduceNeg]
    refine AC_of (src_lean D3.2 (by omega)) ?_
    rintro u h4 - ⟨⟨L, hL, hl, o⟩, d4⟩
    simp -implicitDefEqProofs only [go_sem, ↓reduceIte, reduceCtorEq, Int.reduceEq, Int.reduceLT, Int.reduceLE, Nat.reduceEqDiff, Nat.reduceAdd, Nat.reduceMul, Nat.reduceLeDiff, Nat.reduceSub, Int.reduceNeg]
    exact ⟨ex (D3.trans d4), L, _, u, hL, by omega, by unfold in64; omega, rfl, o.sl⟩
  · simp -implicitDefEqProofs only [go_sem, ↓reduceIte, reduceCtorEq, Int.reduceEq, Int.reduceLT, Int.reduceLE, Nat.reduceEqDiff, Nat.reduceAdd, Nat.reduceMul, Nat.reduceLeDiff, Nat.reduceSub, Int.reduceNeg]
    refine AC_of (src_odd D3.2 (by omega)) ?_
    rintro u h4 - ⟨⟨L, hL, hl, o⟩, d4⟩
    have hub : ∀ c, blk u = some c → ¬ c = b := fun c hc e => by subst e; exact D3.2.known (o.new c hc)
    simp -implicitDefEqProofs only [go_sem, ↓reduceIte, reduceCtorEq, Int.reduceEq, Int.reduceLT, Int.reduceLE, Nat.reduceEqDiff, Nat.reduceAdd, Nat.reduceMul, Nat.reduceLeDiff, Nat.reduceSub, Int.reduceNeg]
    refine AC_of (src_n d4.2 (by omega)) ?_
    rintro _ h5 - ⟨⟨k, rfl, k0, k1, -⟩, d5⟩
    have hk := k1 (by omega)
    simp -implicitDefEqProofs only [go_sem, ↓reduceIte, reduceCtorEq, Int.reduceEq, Int.reduceLT, Int.reduceLE, Nat.reduceEqDiff, Nat.reduceAdd, Nat.reduceMul, Nat.reduceLeDiff, Nat.reduceSub, Int.reduceNeg]
    exact ⟨ex ((D3.trans d4).trans d5), L, _, u, hL, hl, in64_small (by omega), rfl, (o.keep d5.1 hub).sl⟩
/-- spec.DrawSourceOf -/
def b_spec_DrawSourceOf : C := (.seq (.ops [q 2 (.mv (.c nils)), q 3 (.mv (.c (i64 0))), q 4 (.mv (.c (i64 0)))])
 (.seq (.ops [q 8 (.mv (.t 0)), ⟨(some 9), none, .call (.c (.func (.func 145) #[] #[])) [(.t 8)]⟩, q 5 (.mv (.t 9))])
 (.seq (.ops [q 10 (.mv (.t 5)), ⟨(some 11), none, .call (.c (.func (.func 147) #[] #[])) [(.t 10), (.c (i64 6))]⟩, q 12 (.bin .add (.c (i64 2)) (.t 11)), q 6 (.mv (.t 12))])
 (.seq (.ops [q 13 (.mv (.t 5)), q 14 (.mv (.t 6)), ⟨(some 15), none, .call (.c (.func (.func 163) #[] #[])) [(.t 13), (.t 14)]⟩, q 16 (.mv (.t 6)), ⟨(some 17), none, .call (.c (.func (.func 15) #[] #[])) [(.t 15), (.t 16)]⟩, q 18 (.part false 0 1 (.t 17)), q 7 (.mv (.t 18))])
 (.seq (.seq (.ops [q 19 (.mv (.t 5)), ⟨(some 20), none, .call (.c (.func (.func 164) #[] #[])) [(.t 19), (.c (i64 8))]⟩])
 (.cond (.t 20) (.seq (.ops [q 21 (.mv (.t 7)), q 22 (.mv (.t 5)), ⟨(some 23), none, .call (.c (.func (.func 165) #[] #[])) [(.t 22)]⟩, q 24 (.mv (.t 5)), ⟨(some 25), none, .call (.c (.func (.func 147) #[] #[])) [(.t 24), (.c (i64 10))]⟩, q 26 (.bin .sub (.t 25) (.c (i64 1))), q 2 (.mv (.t 21)), q 3 (.mv (.t 23)), q 4 (.mv (.t 26))])
 .ret) .skip))
 (.seq (.ops [q 27 (.mv (.t 7)), q 28 (.mv (.t 5)), q 29 (.mv (.t 7)), q 30 (.len (.t 29)), q 31 (.bin .add (.t 30) (.c (i64 1))), ⟨(some 32), none, .call (.c (.func (.func 147) #[] #[])) [(.t 28), (.t 31)]⟩, q 33 (.mv (.t 5)), q 34 (.mv (.t 6)), ⟨(some 35), none, .call (.c (.func (.func 147) #[] #[])) [(.t 33), (.t 34)]⟩, q 2 (.mv (.t 27)), q 3 (.mv (.t 32)), q 4 (.mv (.t 35))])
 .ret))))))
theorem w_spec_DrawSourceOf {args : List Value} {h : H} {Q : Value → H → Prop} (hl : args.length ≤ 36) (hk : wpc Try.prog b_spec_DrawSourceOf (retw [.tmp 2, .tmp 3, .tmp 4] Q) (argsFr args) h) : AC Try.prog 77 args h Q :=
  AC.of_wpc mixedOrders Try.func77 (by kernel_rfl) (by kernel_rfl : prepF Try.prog Try.f77 = some ⟨36, [.tmp 2, .tmp 3, .tmp 4], b_spec_DrawSourceOf⟩) hl hk

theorem drawSourceOf_ac {h : H} {v : Value} {l : List UInt8} (hv : Sl h v 1 (bys l)) (hn : l.length ≤ 1048576) : AC Try.prog 77 [v] h fun r h' => Ext h h' ∧ ∃ (L : List UMove) (n k : Int) (u : Value), L.length ≤ 28 ∧ in64 n ∧ in64 k ∧ r = .tuple #[u, i64 n, i64 k] ∧ Sl h' u 4 (L.map UMove.cells) := by
  refine w_spec_DrawSourceOf (by simp) ?_
  unfold b_spec_DrawSourceOf
  simp -implicitDefEqProofs only [go_sem, ↓reduceIte, reduceCtorEq, Int.reduceEq, Int.reduceLT, Int.reduceLE, Nat.reduceEqDiff, Nat.reduceAdd, Nat.reduceMul, Nat.reduceLeDiff, Nat.reduceSub, Int.reduceNeg]
  refine AC_of (source_ac hv hn) ?_
  rintro _ h1 - ⟨b, rfl, nb, e1, hs⟩
  have ex : ∀ {h' : H}, Drew v l b h1 h' → Ext h h' := fun d => Keep.ext (S := fun x => x = b) e1 d.1 (fun c hc => by subst hc; exact nb)
  simp -implicitDefEqProofs only [go_sem, ↓reduceIte, reduceCtorEq, Int.reduceEq, Int.reduceLT, Int.reduceLE, Nat.reduceEqDiff, Nat.reduceAdd, Nat.reduceMul, Nat.reduceLeDiff, Nat.reduceSub, Int.reduceNeg]
  refine AC_of (src_n hs (by omega)) ?_
  rintro _ h2 - ⟨⟨q, rfl, q0, q1, -⟩, d2⟩
  have hq := q1 (by omega)
  obtain ⟨q, rfl⟩ : ∃ n : Nat, q = n := ⟨q.toNat, by omega⟩
  simp -implicitDefEqProofs only [go_sem, ↓reduceIte, reduceCtorEq, Int.reduceEq, Int.reduceLT, Int.reduceLE, Nat.reduceEqDiff, Nat.reduceAdd, Nat.reduceMul, Nat.reduceLeDiff, Nat.reduceSub, Int.reduceNeg, wrap_i64 (show -(9223372036854775808 : Int) ≤ ((2 + q : Nat) : Int) by omega) (show ((2 + q : Nat) : Int) < 9223372036854775808 by omega), show (2 : Int) + (q : Int) = ((2 + q : Nat) : Int) by omega]
  refine AC_of (src_lean d2.2 (by omega)) ?_
  rintro u h3 - ⟨⟨L, hL, hl, o⟩, d3⟩
  have D3 := d2.trans d3
  obtain ⟨au, cu, rfl⟩ := o.shape
  have hll : (L.map UStep.cells).length = L.length := by simp
  rw [hll] at o
  skip
  simp -implicitDefEqProofs only [go_sem, ↓reduceIte, reduceCtorEq, Int.reduceEq, Int.reduceLT, Int.reduceLE, Nat.reduceEqDiff, Nat.reduceAdd, Nat.reduceMul, Nat.reduceLeDiff, Nat.reduceSub, Int.reduceNeg, hll]
  refine AC_of (specPlanOf_own o.sl (by omega)) ?_
  rintro _ h4 - ⟨e4, w, rfl, ow⟩
  have D4 := D3.ext e4
  have hp := planOut_small L ((2 + q : Nat) : Int)
  obtain ⟨P, hP⟩ : ∃ P, (planOut L ((2 + q : Nat) : Int)).1 = P := ⟨_, rfl⟩
  rw [hP] at ow hp
  have fw := ow.fre
  obtain ⟨aw, cw, rfl⟩ := fw.shape
  have hlp : (P.map UMove.cells).length = P.length := by simp
  rw [hlp] at fw
  have hwb : ∀ c, blk (.slice aw P.length cw) = some c → ¬ c = b := fun c hc e => by subst e; exact D3.2.known (fw.new c hc)
  skip
  simp -implicitDefEqProofs only [go_sem, ↓reduceIte, reduceCtorEq, Int.reduceEq, Int.reduceLT, Int.reduceLE, Nat.reduceEqDiff, Nat.reduceAdd, Nat.reduceMul, Nat.reduceLeDiff, Nat.reduceSub, Int.reduceNeg, hll, hlp]
  refine AC_of (src_one D4.2 (by omega)) ?_
  rintro _ h5 - ⟨⟨t, rfl⟩, d5⟩
  have D5 := D4.trans d5
  have f5 := fw.keep d5.1 hwb
  cases t
  · simp -implicitDefEqProofs only [go_sem, ↓reduceIte, reduceCtorEq, Int.reduceEq, Int.reduceLT, Int.reduceLE, Nat.reduceEqDiff, Nat.reduceAdd, Nat.reduceMul, Nat.reduceLeDiff, Nat.reduceSub, Int.reduceNeg, wrap_i64 (show -(9223372036854775808 : Int) ≤ ((P.length : Int) + 1) by omega) (show ((P.length : Int) + 1) < 9223372036854775808 by omega), hll, hlp]
    refine AC_of (src_n D5.2 (by omega)) ?_
    rintro _ h6 - ⟨⟨k, rfl, k0, k1, k2⟩, d6⟩
    have hk : k < (P.length : Int) + 1 := by
      by_cases h : 1 < (P.length : Int) + 1
      · exact k1 h
      · have := k2 (by omega); omega
    have D6 := D5.trans d6
    simp -implicitDefEqProofs only [go_sem, ↓reduceIte, reduceCtorEq, Int.reduceEq, Int.reduceLT, Int.reduceLE, Nat.reduceEqDiff, Nat.reduceAdd, Nat.reduceMul, Nat.reduceLeDiff, Nat.reduceSub, Int.reduceNeg, hll, hlp]
    refine AC_of (src_n D6.2 (by omega)) ?_
    rintro _ h7 - ⟨⟨k', rfl, k0', k1', -⟩, d7⟩
    have hk' := k1' (by omega)
    simp -implicitDefEqProofs only [go_sem, ↓reduceIte, reduceCtorEq, Int.reduceEq, Int.reduceLT, Int.reduceLE, Nat.reduceEqDiff, Nat.reduceAdd, Nat.reduceMul, Nat.reduceLeDiff, Nat.reduceSub, Int.reduceNeg, hll, hlp]
    exact ⟨ex (D6.trans d7), P, _, _, _, hp, by unfold in64; omega, by unfold in64; omega, rfl, ((f5.keep d6.1 hwb).keep d7.1 hwb).sl⟩
  · simp -implicitDefEqProofs only [go_sem, ↓reduceIte, reduceCtorEq, Int.reduceEq, Int.reduceLT, Int.reduceLE, Nat.reduceEqDiff, Nat.reduceAdd, Nat.reduceMul, Nat.reduceLeDiff, Nat.reduceSub, Int.reduceNeg, hll, hlp]
    refine AC_of (src_edge D5.2) ?_
    rintro _ h6 - ⟨⟨k, rfl, hk⟩, d6⟩
    have D6 := D5.trans d6
    simp -implicitDefEqProofs only [go_sem, ↓reduceIte, reduceCtorEq, Int.reduceEq, Int.reduceLT, Int.reduceLE, Nat.reduceEqDiff, Nat.reduceAdd, Nat.reduceMul, Nat.reduceLeDiff, Nat.reduceSub, Int.reduceNeg, hll, hlp]
    refine AC_of (src_n D6.2 (by omega)) ?_
    rintro _ h7 - ⟨⟨k', rfl, k0', k1', -⟩, d7⟩
    have hk' := k1' (by omega)
    simp -implicitDefEqProofs only [go_sem, ↓reduceIte, reduceCtorEq, Int.reduceEq, Int.reduceLT, Int.reduceLE, Nat.reduceEqDiff, Nat.reduceAdd, Nat.reduceMul, Nat.reduceLeDiff, Nat.reduceSub, Int.reduceNeg, wrap_i64 (show -(9223372036854775808 : Int) ≤ (k' - 1) by omega) (show (k' - 1) < 9223372036854775808 by omega), hll, hlp]
    exact ⟨ex (D6.trans d7), P, _, _, _, hp, hk, by unfold in64; omega, rfl, ((f5.keep d6.1 hwb).keep d7.1 hwb).sl⟩
/-- spec.DrawSlotsOf -/
def b_spec_DrawSlotsOf : C := (.seq (.ops [q 2 (.mv (.c nils))])
 (.seq (.ops [q 6 (.mv (.t 0)), ⟨(some 7), none, .call (.c (.func (.func 145) #[] #[])) [(.t 6)]⟩, q 3 (.mv (.t 7))])
 (.seq (.ops [q 8 (.mv (.t 3)), ⟨(some 9), none, .call (.c (.func (.func 147) #[] #[])) [(.t 8), (.c (i64 8))]⟩, q 10 (.bin .add (.c (i64 1)) (.t 9)), q 4 (.mv (.t 10))])
 (.seq (.ops [q 11 (.mv (.t 3)), q 12 (.mv (.t 4)), ⟨(some 13), none, .call (.c (.func (.func 163) #[] #[])) [(.t 11), (.t 12)]⟩, q 14 (.mv (.t 4)), ⟨(some 15), none, .call (.c (.func (.func 15) #[] #[])) [(.t 13), (.t 14)]⟩, q 16 (.part false 0 1 (.t 15)), q 5 (.mv (.t 16))])
 (.seq (.seq (.ops [q 17 (.mv (.t 3)), ⟨(some 18), none, .call (.c (.func (.func 164) #[] #[])) [(.t 17), (.c (i64 20))]⟩])
 (.cond (.t 18) (.block 0 (.loop (.seq (.seq (.ops [q 19 (.mv (.t 5)), q 20 (.len (.t 19)), q 21 (.mv (.t 3)), ⟨(some 22), none, .call (.c (.func (.func 147) #[] #[])) [(.t 21), (.c (i64 2))]⟩, q 23 (.bin .add (.c (i64 40)) (.t 22)), q 24 (.bin .lss (.t 20) (.t 23))])
 (.cond (.t 24) .skip (.exit 0)))
 (.block 1 (.ops [q 25 (.mv (.t 5)), q 26 (.mv (.t 3)), ⟨(some 27), none, .call (.c (.func (.func 147) #[] #[])) [(.t 26), (.c (i64 2))]⟩, q 28 (.bin .add (.c (i64 1)) (.t 27)), q 29 (.build [(i64 0), (i64 0), (i64 0), (i64 0)] [(0, 1, (.t 28))]), ⟨(some 30), none, .bsl 1 [(i64 0), (i64 0), (i64 0), (i64 0)] [(0, 4, (.t 29))]⟩, ⟨(some 31), none, .app 4 32 (.t 25) (.t 30)⟩, q 5 (.mv (.t 31))]))))) .skip))
 (.seq (.ops [q 32 (.mv (.t 5)), q 2 (.mv (.t 32))])
 .ret))))))
theorem w_spec_DrawSlotsOf {args : List Value} {h : H} {Q : Value → H → Prop} (hl : args.length ≤ 33) (hk : wpc Try.prog b_spec_DrawSlotsOf (retw [.tmp 2] Q) (argsFr args) h) : AC Try.prog 78 args h Q :=
  AC.of_wpc mixedOrders Try.func78 (by kernel_rfl) (by kernel_rfl : prepF Try.prog Try.f78 = some ⟨33, [.tmp 2], b_spec_DrawSlotsOf⟩) hl hk

theorem drawSlotsOf_ac {h : H} {v : Value} {l : List UInt8} (hv : Sl h v 1 (bys l)) (hn : l.length ≤ 1048576) : AC Try.prog 78 [v] h fun r h' => Ext h h' ∧ ∃ (L : List UMove), L.length ≤ 41 ∧ Sl h' r 4 (L.map UMove.cells) := by
  refine w_spec_DrawSlotsOf (by simp) ?_
  unfold b_spec_DrawSlotsOf
  simp -implicitDefEqProofs only [go_sem, ↓reduceIte, reduceCtorEq, Int.reduceEq, Int.reduceLT, Int.reduceLE, Nat.reduceEqDiff, Nat.reduceAdd, Nat.reduceMul, Nat.reduceLeDiff, Nat.reduceSub, Int.reduceNeg]
  refine AC_of (source_ac hv hn) ?_
  rintro _ h1 - ⟨b, rfl, nb, e1, hs⟩
  have ex : ∀ {h' : H}, Drew v l b h1 h' → Ext h h' := fun d => Keep.ext (S := fun x => x = b) e1 d.1 (fun c hc => by subst hc; exact nb)
  simp -implicitDefEqProofs only [go_sem, ↓reduceIte, reduceCtorEq, Int.reduceEq, Int.reduceLT, Int.reduceLE, Nat.reduceEqDiff, Nat.reduceAdd, Nat.reduceMul, Nat.reduceLeDiff, Nat.reduceSub, Int.reduceNeg]
  refine AC_of (src_n hs (by omega)) ?_
  rintro _ h2 - ⟨⟨q, rfl, q0, q1, -⟩, d2⟩
  have hq := q1 (by omega)
  obtain ⟨q, rfl⟩ : ∃ n : Nat, q = n := ⟨q.toNat, by omega⟩
  simp -implicitDefEqProofs only [go_sem, ↓reduceIte, reduceCtorEq, Int.reduceEq, Int.reduceLT, Int.reduceLE, Nat.reduceEqDiff, Nat.reduceAdd, Nat.reduceMul, Nat.reduceLeDiff, Nat.reduceSub, Int.reduceNeg, wrap_i64 (show -(9223372036854775808 : Int) ≤ ((1 + q : Nat) : Int) by omega) (show ((1 + q : Nat) : Int) < 9223372036854775808 by omega), show (1 : Int) + (q : Int) = ((1 + q : Nat) : Int) by omega]
  refine AC_of (src_lean d2.2 (by omega)) ?_
  rintro u h3 - ⟨⟨L, hL, hl, o⟩, d3⟩
  have D3 := d2.trans d3
  obtain ⟨au, cu, rfl⟩ := o.shape
  have hll : (L.map UStep.cells).length = L.length := by simp
  rw [hll] at o
  skip
  simp -implicitDefEqProofs only [go_sem, ↓reduceIte, reduceCtorEq, Int.reduceEq, Int.reduceLT, Int.reduceLE, Nat.reduceEqDiff, Nat.reduceAdd, Nat.reduceMul, Nat.reduceLeDiff, Nat.reduceSub, Int.reduceNeg, hll]
  refine AC_of (specPlanOf_own o.sl (by omega)) ?_
  rintro _ h4 - ⟨e4, w, rfl, ow⟩
  have D4 := D3.ext e4
  have hp := planOut_small L ((1 + q : Nat) : Int)
  obtain ⟨P, hP⟩ : ∃ P, (planOut L ((1 + q : Nat) : Int)).1 = P := ⟨_, rfl⟩
  rw [hP] at ow hp
  have ow1 := Own.backN (h0 := h1) ow (fun c hc => D3.1.nones c hc)
  have hS : ∀ x, x = b → h1.get x ≠ none := fun x e => by subst e; exact hs.known
  have hkn := hs.sl.known
  simp -implicitDefEqProofs only [go_sem, ↓reduceIte, reduceCtorEq, Int.reduceEq, Int.reduceLT, Int.reduceLE, Nat.reduceEqDiff, Nat.reduceAdd, Nat.reduceMul, Nat.reduceLeDiff, Nat.reduceSub, Int.reduceNeg, hll]
  refine AC_of (src_one D4.2 (by omega)) ?_
  rintro _ h5 - ⟨⟨t, rfl⟩, d5⟩
  have D5 := D4.trans d5
  have o5 := ow1.keepS d5.1 hS
  cases t
  · simp -implicitDefEqProofs only [go_sem, ↓reduceIte, reduceCtorEq, Int.reduceEq, Int.reduceLT, Int.reduceLE, Nat.reduceEqDiff, Nat.reduceAdd, Nat.reduceMul, Nat.reduceLeDiff, Nat.reduceSub, Int.reduceNeg, hll]
    exact ⟨ex D5, P, by omega, o5.sl⟩
  · simp -implicitDefEqProofs only [go_sem, ↓reduceIte, reduceCtorEq, Int.reduceEq, Int.reduceLT, Int.reduceLE, Nat.reduceEqDiff, Nat.reduceAdd, Nat.reduceMul, Nat.reduceLeDiff, Nat.reduceSub, Int.reduceNeg, hll]
    clear ow ow1 o hl hL d5 D4 e4 D3 d3 d2
    refine loopW_of (fun m f h' => ∃ (acc : List UMove) (u : Value), m + acc.length = 41 ∧ f 3 = ptr b 0 ∧ f 5 = u ∧ Own h1 h' u 4 (acc.map UMove.cells) ∧ Drew v l b h1 h') (41 - P.length)
      ⟨P, w, by omega, by simp -implicitDefEqProofs only [go_sem, ↓reduceIte, reduceCtorEq, Int.reduceEq, Int.reduceLT, Int.reduceLE, Nat.reduceEqDiff, Nat.reduceAdd, Nat.reduceMul, Nat.reduceLeDiff, Nat.reduceSub, Int.reduceNeg, hll], by simp -implicitDefEqProofs only [go_sem, ↓reduceIte, reduceCtorEq, Int.reduceEq, Int.reduceLT, Int.reduceLE, Nat.reduceEqDiff, Nat.reduceAdd, Nat.reduceMul, Nat.reduceLeDiff, Nat.reduceSub, Int.reduceNeg, hll], o5, D5⟩ ?_
    rintro m f h' ⟨acc, u, hm, f3, f5, o, D⟩
    obtain ⟨au, cu, rfl⟩ := o.shape
    rw [List.length_map] at o f5
    simp -implicitDefEqProofs only [go_sem, ↓reduceIte, reduceCtorEq, Int.reduceEq, Int.reduceLT, Int.reduceLE, Nat.reduceEqDiff, Nat.reduceAdd, Nat.reduceMul, Nat.reduceLeDiff, Nat.reduceSub, Int.reduceNeg, f3, f5, hll]
    refine AC_of (src_n D.2 (by omega)) ?_
    rintro _ h6 - ⟨⟨k, rfl, k0, k1, -⟩, d6⟩
    have hk := k1 (by omega)
    have D6 := D.trans d6
    have o6 := o.keepS d6.1 hS
    by_cases hlt : (acc.length : Int) < 40 + k
    rotate_left
    · simp -implicitDefEqProofs only [go_sem, ↓reduceIte, reduceCtorEq, Int.reduceEq, Int.reduceLT, Int.reduceLE, Nat.reduceEqDiff, Nat.reduceAdd, Nat.reduceMul, Nat.reduceLeDiff, Nat.reduceSub, Int.reduceNeg, wrap_i64 (show -(9223372036854775808 : Int) ≤ (40 + k) by omega) (show (40 + k) < 9223372036854775808 by omega), hlt, f3, f5, hll]
      exact ⟨ex D6, acc, by omega, o6.sl⟩
    simp -implicitDefEqProofs only [go_sem, ↓reduceIte, reduceCtorEq, Int.reduceEq, Int.reduceLT, Int.reduceLE, Nat.reduceEqDiff, Nat.reduceAdd, Nat.reduceMul, Nat.reduceLeDiff, Nat.reduceSub, Int.reduceNeg, wrap_i64 (show -(9223372036854775808 : Int) ≤ (40 + k) by omega) (show (40 + k) < 9223372036854775808 by omega), hlt, f3, f5, hll]
    refine AC_of (src_n D6.2 (by omega)) ?_
    rintro _ h7 - ⟨⟨y, rfl, y0, y1, -⟩, d7⟩
    have hy := y1 (by omega)
    have D7 := D6.trans d7
    have o7 := o6.keepS d7.1 hS
    simp -implicitDefEqProofs only [go_sem, ↓reduceIte, reduceCtorEq, Int.reduceEq, Int.reduceLT, Int.reduceLE, Nat.reduceEqDiff, Nat.reduceAdd, Nat.reduceMul, Nat.reduceLeDiff, Nat.reduceSub, Int.reduceNeg, wrap_i64 (show -(9223372036854775808 : Int) ≤ (1 + y) by omega) (show (1 + y) < 9223372036854775808 by omega), f3, f5, hll]
    intro bx hbx nx
    have D8 := D7.ext ((Ext.refl h7).set nx ⟨[i64 (1 + y), i64 0, i64 0, i64 0], 4⟩)
    simp -implicitDefEqProofs only [go_sem, ↓reduceIte, reduceCtorEq, Int.reduceEq, Int.reduceLT, Int.reduceLE, Nat.reduceEqDiff, Nat.reduceAdd, Nat.reduceMul, Nat.reduceLeDiff, Nat.reduceSub, Int.reduceNeg, f3, f5, hll]
    refine appW_keep (h0 := h1) (rows := acc.map UMove.cells) (new := [UMove.cells ⟨1 + y, 0, 0, 0⟩]) (fun c hc => D8.1.nones c hc) (o7.ext ((Ext.refl _).set nx _)) (by simp -implicitDefEqProofs only [go_sem, ↓reduceIte, reduceCtorEq, Int.reduceEq, Int.reduceLT, Int.reduceLE, Nat.reduceEqDiff, Nat.reduceAdd, Nat.reduceMul, Nat.reduceLeDiff, Nat.reduceSub, Int.reduceNeg, hll]; rfl) (by intro r hr; simp at hr; subst hr; rfl) rfl (by simp; omega) ?_
    intro v' h8 k8 o8
    simp -implicitDefEqProofs only [go_sem, ↓reduceIte, reduceCtorEq, Int.reduceEq, Int.reduceLT, Int.reduceLE, Nat.reduceEqDiff, Nat.reduceAdd, Nat.reduceMul, Nat.reduceLeDiff, Nat.reduceSub, Int.reduceNeg, f3, f5, hll]
    exact ⟨m - 1, by omega, _, Ext.refl _, acc ++ [⟨1 + y, 0, 0, 0⟩], v', by simp; omega, rfl, by simpa using o8, ⟨Keep.own D8.1 k8, Src.keepM D8.2 k8 hs.known hkn⟩⟩
end Go.Proofs.Ytpponffjeilhmaa
