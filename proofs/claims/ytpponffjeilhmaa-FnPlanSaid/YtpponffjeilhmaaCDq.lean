/- A helper of this seat's claims (contracts of the functions): what it shows is shown for every input that its statements name, on no other condition. -/
import Derived.Test.YtpponffjeilhmaaCDz
set_option linter.unusedVariables false
set_option linter.unusedSimpArgs false
set_option maxRecDepth 100000
namespace Go.Proofs.Ytpponffjeilhmaa
open Go.KH

/-! ## A plan to run, drawn -/
/-- spec.DrawPlanRun -/
def b_spec_DrawPlanRun : C := (.seq (.ops [q 2 (.mv (.c nils)), q 3 (.mv (.c nils)), q 4 (.mv (.c nils))])
 (.seq (.ops [q 10 (.mv (.t 0)), ⟨(some 11), none, .call (.c (.func (.func 145) #[] #[])) [(.t 10)]⟩, q 5 (.mv (.t 11))])
 (.seq (.ops [q 12 (.mv (.t 5)), ⟨(some 13), none, .call (.c (.func (.func 147) #[] #[])) [(.t 12), (.c (i64 6))]⟩, q 14 (.bin .add (.c (i64 1)) (.t 13)), q 6 (.mv (.t 14))])
 (.seq (.ops [q 15 (.mv (.t 5)), q 16 (.mv (.t 6)), ⟨(some 17), none, .call (.c (.func (.func 162) #[] #[])) [(.t 15), (.t 16)]⟩, q 7 (.mv (.t 17))])
 (.seq (.ops [q 18 (.mv (.t 5)), q 19 (.mv (.t 6)), ⟨(some 20), none, .call (.c (.func (.func 163) #[] #[])) [(.t 18), (.t 19)]⟩, q 8 (.mv (.t 20))])
 (.seq (.ops [q 21 (.mv (.t 8)), q 22 (.mv (.t 6)), ⟨(some 23), none, .call (.c (.func (.func 15) #[] #[])) [(.t 21), (.t 22)]⟩, q 24 (.part false 0 1 (.t 23)), q 9 (.mv (.t 24))])
 (.seq (.seq (.ops [q 25 (.mv (.t 5)), ⟨(some 26), none, .call (.c (.func (.func 164) #[] #[])) [(.t 25), (.c (i64 8))]⟩, q 27 (.mv (.t 26)), qg 28 27 true (.mv (.t 9)), qg 29 27 true (.len (.t 28)), qg 30 27 true (.bin .gtr (.t 29) (.c (i64 0))), q 31 (.pick (.t 27) (.t 30) (.c (.bool false)))])
 (.cond (.t 31) (.ops [q 32 (.mv (.t 9)), q 33 (.lsl 4 (.t 32) (some (.c (i64 1))) none), q 9 (.mv (.t 33))]) .skip))
 (.seq (.seq (.ops [q 34 (.mv (.t 5)), ⟨(some 35), none, .call (.c (.func (.func 164) #[] #[])) [(.t 34), (.c (i64 12))]⟩])
 (.cond (.t 35) (.ops [q 36 (.mv (.t 5)), ⟨(some 37), none, .call (.c (.func (.func 156) #[] #[])) [(.t 36)]⟩, q 7 (.mv (.t 37))]) .skip))
 (.seq (.ops [q 38 (.mv (.t 7)), q 39 (.mv (.t 8)), q 40 (.mv (.t 9)), q 2 (.mv (.t 38)), q 3 (.mv (.t 39)), q 4 (.mv (.t 40))])
 .ret)))))))))
theorem w_spec_DrawPlanRun {args : List Value} {h : H} {Q : Value → H → Prop} (hl : args.length ≤ 41) (hk : wpc Try.prog b_spec_DrawPlanRun (retw [.tmp 2, .tmp 3, .tmp 4] Q) (argsFr args) h) : AC Try.prog 75 args h Q :=
  AC.of_wpc mixedOrders Try.func75 (by kernel_rfl) (by kernel_rfl : prepF Try.prog Try.f75 = some ⟨41, [.tmp 2, .tmp 3, .tmp 4], b_spec_DrawPlanRun⟩) hl hk

theorem drawPlanRun_ac {h : H} {v : Value} {l : List UInt8} (hv : Sl h v 1 (bys l)) (hn : l.length ≤ 1048576) : AC Try.prog 75 [v] h fun r h' => Ext h h' ∧ ∃ (T : List (List UInt8)) (L : List UStep) (M : List UMove) (u w y : Value), r = .tuple #[u, w, y] ∧ ImgSteps h' u w T L ∧ M.length ≤ 28 ∧ Sl h' y 4 (M.map UMove.cells) := by
  refine w_spec_DrawPlanRun (by simp) ?_
  unfold b_spec_DrawPlanRun
  simp -implicitDefEqProofs only [go_sem, ↓reduceIte, reduceCtorEq, Int.reduceEq, Int.reduceLT, Int.reduceLE, Nat.reduceEqDiff, Nat.reduceAdd, Nat.reduceMul, Nat.reduceLeDiff, Nat.reduceSub, Int.reduceNeg]
  refine AC_of (source_ac hv hn) ?_
  rintro _ h1 - ⟨b, rfl, nb, e1, hs⟩
  have ex : ∀ {h' : H}, Drew v l b h1 h' → Ext h h' := fun d => Keep.ext (S := fun x => x = b) e1 d.1 (fun c hc => by subst hc; exact nb)
  simp -implicitDefEqProofs only [go_sem, ↓reduceIte, reduceCtorEq, Int.reduceEq, Int.reduceLT, Int.reduceLE, Nat.reduceEqDiff, Nat.reduceAdd, Nat.reduceMul, Nat.reduceLeDiff, Nat.reduceSub, Int.reduceNeg]
  refine AC_of (src_n hs (by omega)) ?_
  rintro _ h2 - ⟨⟨q, rfl, q0, q1, -⟩, d2⟩
  have hq := q1 (by omega)
  obtain ⟨q, rfl⟩ : ∃ n : Nat, q = n := ⟨q.toNat, by omega⟩
  simp -implicitDefEqProofs only [go_sem, ↓reduceIte, reduceCtorEq, Int.reduceEq, Int.reduceLT, Int.reduceLE, Nat.reduceEqDiff, Nat.reduceAdd, Nat.reduceMul, Nat.reduceLeDiff, Nat.reduceSub, Int.reduceNeg, wrap_i64 (show -(9223372036854775808 : Int) ≤ ((1 + q : Nat) : Int) by omega) (show ((1 + q : Nat) : Int) < 9223372036854775808 by omega), show (1 : Int) + (q : Int) = ((1 + q : Nat) : Int) by omega]
  refine AC_of (src_image d2.2 (by omega)) ?_
  rintro u0 h3 - ⟨⟨T, hT, h8, oT⟩, d3⟩
  have D3 := d2.trans d3
  have fT := oT.fre
  have hub : ∀ c, blk u0 = some c → ¬ c = b := fun c hc e => by subst e; exact d2.2.known (fT.new c hc)
  simp -implicitDefEqProofs only [go_sem, ↓reduceIte, reduceCtorEq, Int.reduceEq, Int.reduceLT, Int.reduceLE, Nat.reduceEqDiff, Nat.reduceAdd, Nat.reduceMul, Nat.reduceLeDiff, Nat.reduceSub, Int.reduceNeg]
  refine AC_of (src_lean D3.2 (by omega)) ?_
  rintro w0 h4 - ⟨⟨L, hL, hl, oL⟩, d4⟩
  have D4 := D3.trans d4
  have fT4 := fT.keep d4.1 hub
  obtain ⟨aL, cL, rfl⟩ := oL.shape
  have hll : (L.map UStep.cells).length = L.length := by simp
  rw [hll] at oL
  have fL := oL.fre
  have hwb : ∀ c, blk (.slice aL L.length cL) = some c → ¬ c = b := fun c hc e => by subst e; exact D3.2.known (fL.new c hc)
  skip
  simp -implicitDefEqProofs only [go_sem, ↓reduceIte, reduceCtorEq, Int.reduceEq, Int.reduceLT, Int.reduceLE, Nat.reduceEqDiff, Nat.reduceAdd, Nat.reduceMul, Nat.reduceLeDiff, Nat.reduceSub, Int.reduceNeg, hll]
  refine AC_of (specPlanOf_own oL.sl (by omega)) ?_
  rintro _ h5 - ⟨e5, y, rfl, oy⟩
  have D5 := D4.ext e5
  have hp := planOut_small L ((1 + q : Nat) : Int)
  obtain ⟨P, hP⟩ : ∃ P, (planOut L ((1 + q : Nat) : Int)).1 = P := ⟨_, rfl⟩
  rw [hP] at oy hp
  have fy := oy.fre
  obtain ⟨ay, cy, rfl⟩ := fy.shape
  have hlp : (P.map UMove.cells).length = P.length := by simp
  rw [hlp] at fy
  have hyb : ∀ c, blk (.slice ay P.length cy) = some c → ¬ c = b := fun c hc e => by subst e; exact D4.2.known (fy.new c hc)
  skip
  simp -implicitDefEqProofs only [go_sem, ↓reduceIte, reduceCtorEq, Int.reduceEq, Int.reduceLT, Int.reduceLE, Nat.reduceEqDiff, Nat.reduceAdd, Nat.reduceMul, Nat.reduceLeDiff, Nat.reduceSub, Int.reduceNeg, hll, hlp]
  refine AC_of (src_one D5.2 (by omega)) ?_
  rintro _ h6 - ⟨⟨t, rfl⟩, d6⟩
  have D6 := D5.trans d6
  have sT := ((fT4.ext e5).keep d6.1 hub).sl
  have sL := ((fL.ext e5).keep d6.1 hwb).sl
  have sy := (fy.keep d6.1 hyb).sl
  have hub6 : ∀ c, blk u0 = some c → ¬ c = b := hub
  have hmap : ∀ c, blk (.slice (if cy = 1 then ay else ay.map (·.add (1 * 4))) (P.length - 1) (cy - 1)) = some c → ¬ c = b := by
    intro c hc e
    cases ay with
    | none => split at hc <;> simp [blk] at hc
    | some a =>
      by_cases h0 : P.length - 1 = 0
      · rw [h0] at hc; split at hc <;> simp [blk] at hc
      · obtain ⟨n, hn⟩ : ∃ n, P.length - 1 = n + 1 := ⟨P.length - 2, by omega⟩
        refine hyb a.block (by rw [show P.length = (n + 1) + 1 by omega]; rfl) ?_
        rw [hn] at hc
        split at hc
        · simp [blk] at hc; rw [hc, e]
        · simp [blk, Addr.add] at hc; rw [hc, e]
  cases t
  · simp -implicitDefEqProofs only [go_sem, ↓reduceIte, reduceCtorEq, Int.reduceEq, Int.reduceLT, Int.reduceLE, Nat.reduceEqDiff, Nat.reduceAdd, Nat.reduceMul, Nat.reduceLeDiff, Nat.reduceSub, Int.reduceNeg, hll, hlp]
    refine AC_of (src_one D6.2 (by omega)) ?_
    rintro _ h7 - ⟨⟨t2, rfl⟩, d7⟩
    have D7 := D6.trans d7
    cases t2
    · simp -implicitDefEqProofs only [go_sem, ↓reduceIte, reduceCtorEq, Int.reduceEq, Int.reduceLT, Int.reduceLE, Nat.reduceEqDiff, Nat.reduceAdd, Nat.reduceMul, Nat.reduceLeDiff, Nat.reduceSub, Int.reduceNeg, hll, hlp]
      exact ⟨ex D7, T, L, P, _, _, _, rfl, ⟨fun t ht => by have := h8 t ht; omega, by omega, hL, by omega, sT.keep d7.1 hub, sL.keep d7.1 hwb⟩, hp, Sl.keep sy d7.1 hyb⟩
    · simp -implicitDefEqProofs only [go_sem, ↓reduceIte, reduceCtorEq, Int.reduceEq, Int.reduceLT, Int.reduceLE, Nat.reduceEqDiff, Nat.reduceAdd, Nat.reduceMul, Nat.reduceLeDiff, Nat.reduceSub, Int.reduceNeg, hll, hlp]
      refine AC_of (src_oddImage D7.2) ?_
      rintro u2 h8 - ⟨⟨T2, hT2, hl2, o2⟩, d8⟩
      simp -implicitDefEqProofs only [go_sem, ↓reduceIte, reduceCtorEq, Int.reduceEq, Int.reduceLT, Int.reduceLE, Nat.reduceEqDiff, Nat.reduceAdd, Nat.reduceMul, Nat.reduceLeDiff, Nat.reduceSub, Int.reduceNeg, hll, hlp]
      exact ⟨ex (D7.trans d8), T2, L, P, _, _, _, rfl, ⟨hT2, hl2, hL, by omega, o2.sl, (sL.keep d7.1 hwb).keep d8.1 hwb⟩, hp, (Sl.keep sy d7.1 hyb).keep d8.1 hyb⟩
  · by_cases h0 : 0 < P.length
    · have p1 := sy.part (lo := 1) (hi := P.length) (by omega) (Nat.le_refl _)
      have ed : ((P.map UMove.cells).take P.length).drop 1 = (P.drop 1).map UMove.cells := by rw [List.take_of_length_le (by simp), List.map_drop]
      rw [ed] at p1
      simp -implicitDefEqProofs only [go_sem, ↓reduceIte, reduceCtorEq, Int.reduceEq, Int.reduceLT, Int.reduceLE, Nat.reduceEqDiff, Nat.reduceAdd, Nat.reduceMul, Nat.reduceLeDiff, Nat.reduceSub, Int.reduceNeg, show (0 : Int) < (P.length : Int) by omega, show (1 : Int) ≤ (P.length : Int) by omega, Int.reduceToNat, hll, hlp]
      refine AC_of (src_one D6.2 (by omega)) ?_
      rintro _ h7 - ⟨⟨t2, rfl⟩, d7⟩
      have D7 := D6.trans d7
      cases t2
      · simp -implicitDefEqProofs only [go_sem, ↓reduceIte, reduceCtorEq, Int.reduceEq, Int.reduceLT, Int.reduceLE, Nat.reduceEqDiff, Nat.reduceAdd, Nat.reduceMul, Nat.reduceLeDiff, Nat.reduceSub, Int.reduceNeg, hll, hlp]
        exact ⟨ex D7, T, L, P.drop 1, _, _, _, rfl, ⟨fun t ht => by have := h8 t ht; omega, by omega, hL, by omega, sT.keep d7.1 hub, sL.keep d7.1 hwb⟩, by simp; omega, Sl.keep p1 d7.1 hmap⟩
      · simp -implicitDefEqProofs only [go_sem, ↓reduceIte, reduceCtorEq, Int.reduceEq, Int.reduceLT, Int.reduceLE, Nat.reduceEqDiff, Nat.reduceAdd, Nat.reduceMul, Nat.reduceLeDiff, Nat.reduceSub, Int.reduceNeg, hll, hlp]
        refine AC_of (src_oddImage D7.2) ?_
        rintro u2 h8 - ⟨⟨T2, hT2, hl2, o2⟩, d8⟩
        simp -implicitDefEqProofs only [go_sem, ↓reduceIte, reduceCtorEq, Int.reduceEq, Int.reduceLT, Int.reduceLE, Nat.reduceEqDiff, Nat.reduceAdd, Nat.reduceMul, Nat.reduceLeDiff, Nat.reduceSub, Int.reduceNeg, hll, hlp]
        exact ⟨ex (D7.trans d8), T2, L, P.drop 1, _, _, _, rfl, ⟨hT2, hl2, hL, by omega, o2.sl, (sL.keep d7.1 hwb).keep d8.1 hwb⟩, by simp; omega, (Sl.keep p1 d7.1 hmap).keep d8.1 hmap⟩
    · simp -implicitDefEqProofs only [go_sem, ↓reduceIte, reduceCtorEq, Int.reduceEq, Int.reduceLT, Int.reduceLE, Nat.reduceEqDiff, Nat.reduceAdd, Nat.reduceMul, Nat.reduceLeDiff, Nat.reduceSub, Int.reduceNeg, show ¬ (0 : Int) < (P.length : Int) by omega, hll, hlp]
      refine AC_of (src_one D6.2 (by omega)) ?_
      rintro _ h7 - ⟨⟨t2, rfl⟩, d7⟩
      have D7 := D6.trans d7
      cases t2
      · simp -implicitDefEqProofs only [go_sem, ↓reduceIte, reduceCtorEq, Int.reduceEq, Int.reduceLT, Int.reduceLE, Nat.reduceEqDiff, Nat.reduceAdd, Nat.reduceMul, Nat.reduceLeDiff, Nat.reduceSub, Int.reduceNeg, hll, hlp]
        exact ⟨ex D7, T, L, P, _, _, _, rfl, ⟨fun t ht => by have := h8 t ht; omega, by omega, hL, by omega, sT.keep d7.1 hub, sL.keep d7.1 hwb⟩, hp, Sl.keep sy d7.1 hyb⟩
      · simp -implicitDefEqProofs only [go_sem, ↓reduceIte, reduceCtorEq, Int.reduceEq, Int.reduceLT, Int.reduceLE, Nat.reduceEqDiff, Nat.reduceAdd, Nat.reduceMul, Nat.reduceLeDiff, Nat.reduceSub, Int.reduceNeg, hll, hlp]
        refine AC_of (src_oddImage D7.2) ?_
        rintro u2 h8 - ⟨⟨T2, hT2, hl2, o2⟩, d8⟩
        simp -implicitDefEqProofs only [go_sem, ↓reduceIte, reduceCtorEq, Int.reduceEq, Int.reduceLT, Int.reduceLE, Nat.reduceEqDiff, Nat.reduceAdd, Nat.reduceMul, Nat.reduceLeDiff, Nat.reduceSub, Int.reduceNeg, hll, hlp]
        exact ⟨ex (D7.trans d8), T2, L, P, _, _, _, rfl, ⟨hT2, hl2, hL, by omega, o2.sl, (sL.keep d7.1 hwb).keep d8.1 hwb⟩, hp, (Sl.keep sy d7.1 hyb).keep d8.1 hyb⟩
end Go.Proofs.Ytpponffjeilhmaa
