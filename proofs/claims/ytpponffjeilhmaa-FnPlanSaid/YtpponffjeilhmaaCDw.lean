/- A helper of this seat's claims (contracts of the functions): what it shows is shown for every input that its statements name, on no other condition. -/
import Derived.Test.YtpponffjeilhmaaCDv
set_option linter.unusedVariables false
set_option linter.unusedSimpArgs false
set_option maxRecDepth 100000
namespace Go.Proofs.Ytpponffjeilhmaa
open Go.KH

/-! ## What the laws draw: images and steps -/
/-- An image and steps, drawn. -/
structure ImgSteps (h : H) (u w : Value) (T : List (List UInt8)) (L : List UStep) : Prop where
  t9 : ∀ t ∈ T, t.length ≤ 9
  tn : T.length ≤ 10
  ok : ∀ s ∈ L, okd s
  ln : L.length ≤ 21
  su : Sl h u 1 (strs T)
  sw : Sl h w 4 (L.map UStep.cells)
theorem nilSl (h : H) (w : Nat) : Sl h nils w [] := (Own.nil h h w).sl
/-- spec.DrawTouches -/
def b_spec_DrawTouches : C := (.seq (.ops [q 2 (.mv (.c nils)), q 3 (.mv (.c (i64 0)))])
 (.seq (.ops [q 6 (.mv (.t 0)), ⟨(some 7), none, .call (.c (.func (.func 145) #[] #[])) [(.t 6)]⟩, q 4 (.mv (.t 7))])
 (.seq (.ops [q 8 (.mv (.t 4)), ⟨(some 9), none, .call (.c (.func (.func 152) #[] #[])) [(.t 8), (.c (i64 4))]⟩, q 5 (.mv (.t 9))])
 (.seq (.ops [q 10 (.mv (.t 5)), q 11 (.mv (.t 4)), ⟨(some 12), none, .call (.c (.func (.func 147) #[] #[])) [(.t 11), (.c (i64 6))]⟩, q 13 (.bin .sub (.t 12) (.c (i64 1))), q 2 (.mv (.t 10)), q 3 (.mv (.t 13))])
 .ret))))
theorem w_spec_DrawTouches {args : List Value} {h : H} {Q : Value → H → Prop} (hl : args.length ≤ 14) (hk : wpc Try.prog b_spec_DrawTouches (retw [.tmp 2, .tmp 3] Q) (argsFr args) h) : AC Try.prog 67 args h Q :=
  AC.of_wpc mixedOrders Try.func67 (by kernel_rfl) (by kernel_rfl : prepF Try.prog Try.f67 = some ⟨14, [.tmp 2, .tmp 3], b_spec_DrawTouches⟩) hl hk

theorem drawTouches_ac {h : H} {v : Value} {l : List UInt8} (hv : Sl h v 1 (bys l)) (hn : l.length ≤ 1048576) : AC Try.prog 67 [v] h fun r h' => Ext h h' ∧ ∃ (L : List UStep) (n : Int) (u : Value), (∀ s ∈ L, okd s) ∧ L.length ≤ 21 ∧ in64 n ∧ r = .tuple #[u, i64 n] ∧ Sl h' u 4 (L.map UStep.cells) := by
  refine w_spec_DrawTouches (by simp) ?_
  unfold b_spec_DrawTouches
  simp -implicitDefEqProofs only [go_sem, ↓reduceIte, reduceCtorEq, Int.reduceEq, Int.reduceLT, Int.reduceLE, Nat.reduceEqDiff, Nat.reduceAdd, Nat.reduceMul, Nat.reduceLeDiff, Nat.reduceSub, Int.reduceNeg]
  refine AC_of (source_ac hv hn) ?_
  rintro _ h1 - ⟨b, rfl, nb, e1, hs⟩
  have ex : ∀ {h' : H}, Drew v l b h1 h' → Ext h h' := fun d => Keep.ext (S := fun x => x = b) e1 d.1 (fun c hc => by subst hc; exact nb)
  simp -implicitDefEqProofs only [go_sem, ↓reduceIte, reduceCtorEq, Int.reduceEq, Int.reduceLT, Int.reduceLE, Nat.reduceEqDiff, Nat.reduceAdd, Nat.reduceMul, Nat.reduceLeDiff, Nat.reduceSub, Int.reduceNeg]
  refine AC_of (src_odd hs (by omega)) ?_
  rintro u h2 - ⟨⟨L, hL, hl, o⟩, d2⟩
  have hub : ∀ c, blk u = some c → ¬ c = b := fun c hc e => by subst e; exact hs.known (o.new c hc)
  simp -implicitDefEqProofs only [go_sem, ↓reduceIte, reduceCtorEq, Int.reduceEq, Int.reduceLT, Int.reduceLE, Nat.reduceEqDiff, Nat.reduceAdd, Nat.reduceMul, Nat.reduceLeDiff, Nat.reduceSub, Int.reduceNeg]
  refine AC_of (src_n d2.2 (by omega)) ?_
  rintro _ h3 - ⟨⟨k, rfl, k0, k1, -⟩, d3⟩
  have hk := k1 (by omega)
  simp -implicitDefEqProofs only [go_sem, ↓reduceIte, reduceCtorEq, Int.reduceEq, Int.reduceLT, Int.reduceLE, Nat.reduceEqDiff, Nat.reduceAdd, Nat.reduceMul, Nat.reduceLeDiff, Nat.reduceSub, Int.reduceNeg, wrap_i64 (show -(9223372036854775808 : Int) ≤ (k - 1) by omega) (show (k - 1) < 9223372036854775808 by omega)]
  exact ⟨ex (d2.trans d3), L, _, u, hL, hl, in64_small (by omega), rfl, (o.keep d3.1 hub).sl⟩
/-- spec.DrawSnapRead -/
def b_spec_DrawSnapRead : C := (.seq (.ops [q 2 (.mv (.c nils)), q 3 (.mv (.c nils)), q 4 (.mv (.c (i64 0)))])
 (.seq (.ops [q 8 (.mv (.t 0)), ⟨(some 9), none, .call (.c (.func (.func 145) #[] #[])) [(.t 8)]⟩, q 5 (.mv (.t 9))])
 (.seq (.ops [q 10 (.mv (.t 5)), ⟨(some 11), none, .call (.c (.func (.func 156) #[] #[])) [(.t 10)]⟩, q 6 (.mv (.t 11))])
 (.seq (.seq (.ops [q 12 (.mv (.t 6)), q 13 (.len (.t 12)), q 14 (.bin .eql (.t 13) (.c (i64 0)))])
 (.cond (.t 14) (.seq (.ops [q 15 (.mv (.t 6)), q 2 (.mv (.t 15)), q 3 (.mv (.c nils)), q 4 (.mv (.c (i64 0)))])
 .ret) .skip))
 (.seq (.ops [q 16 (.mv (.t 5)), q 17 (.mv (.t 6)), q 18 (.len (.t 17)), ⟨(some 19), none, .call (.c (.func (.func 152) #[] #[])) [(.t 16), (.t 18)]⟩, q 7 (.mv (.t 19))])
 (.seq (.ops [q 20 (.mv (.t 6)), q 21 (.mv (.t 7)), q 22 (.mv (.t 5)), q 23 (.mv (.t 6)), q 24 (.len (.t 23)), q 25 (.bin .add (.t 24) (.c (i64 2))), ⟨(some 26), none, .call (.c (.func (.func 147) #[] #[])) [(.t 22), (.t 25)]⟩, q 27 (.bin .sub (.t 26) (.c (i64 1))), q 2 (.mv (.t 20)), q 3 (.mv (.t 21)), q 4 (.mv (.t 27))])
 .ret))))))
theorem w_spec_DrawSnapRead {args : List Value} {h : H} {Q : Value → H → Prop} (hl : args.length ≤ 28) (hk : wpc Try.prog b_spec_DrawSnapRead (retw [.tmp 2, .tmp 3, .tmp 4] Q) (argsFr args) h) : AC Try.prog 65 args h Q :=
  AC.of_wpc mixedOrders Try.func65 (by kernel_rfl) (by kernel_rfl : prepF Try.prog Try.f65 = some ⟨28, [.tmp 2, .tmp 3, .tmp 4], b_spec_DrawSnapRead⟩) hl hk

theorem drawSnapRead_ac {h : H} {v : Value} {l : List UInt8} (hv : Sl h v 1 (bys l)) (hn : l.length ≤ 1048576) : AC Try.prog 65 [v] h fun r h' => Ext h h' ∧ ∃ (T : List (List UInt8)) (L : List UStep) (n : Int) (u w : Value), in64 n ∧ r = .tuple #[u, w, i64 n] ∧ ImgSteps h' u w T L := by
  refine w_spec_DrawSnapRead (by simp) ?_
  unfold b_spec_DrawSnapRead
  simp -implicitDefEqProofs only [go_sem, ↓reduceIte, reduceCtorEq, Int.reduceEq, Int.reduceLT, Int.reduceLE, Nat.reduceEqDiff, Nat.reduceAdd, Nat.reduceMul, Nat.reduceLeDiff, Nat.reduceSub, Int.reduceNeg]
  refine AC_of (source_ac hv hn) ?_
  rintro _ h1 - ⟨b, rfl, nb, e1, hs⟩
  have ex : ∀ {h' : H}, Drew v l b h1 h' → Ext h h' := fun d => Keep.ext (S := fun x => x = b) e1 d.1 (fun c hc => by subst hc; exact nb)
  simp -implicitDefEqProofs only [go_sem, ↓reduceIte, reduceCtorEq, Int.reduceEq, Int.reduceLT, Int.reduceLE, Nat.reduceEqDiff, Nat.reduceAdd, Nat.reduceMul, Nat.reduceLeDiff, Nat.reduceSub, Int.reduceNeg]
  refine AC_of (src_oddImage hs) ?_
  rintro u h2 - ⟨⟨T, hT, hl, o⟩, d2⟩
  have hub : ∀ c, blk u = some c → ¬ c = b := fun c hc e => by subst e; exact hs.known (o.new c hc)
  obtain ⟨au, cu, rfl⟩ := o.shape
  have htl : (strs T).length = T.length := by simp
  rw [htl] at o hub
  skip
  by_cases h0 : T.length = 0
  · simp -implicitDefEqProofs only [go_sem, ↓reduceIte, reduceCtorEq, Int.reduceEq, Int.reduceLT, Int.reduceLE, Nat.reduceEqDiff, Nat.reduceAdd, Nat.reduceMul, Nat.reduceLeDiff, Nat.reduceSub, Int.reduceNeg, h0, show ((0 : Nat) : Int) = 0 from rfl, htl]
    have : T = [] := List.length_eq_zero_iff.1 h0
    subst this
    exact ⟨ex d2, [], [], 0, _, nils, in64_small (by omega), rfl, ⟨by simp, by simp, by simp, by simp, o.sl, nilSl _ _⟩⟩
  simp -implicitDefEqProofs only [go_sem, ↓reduceIte, reduceCtorEq, Int.reduceEq, Int.reduceLT, Int.reduceLE, Nat.reduceEqDiff, Nat.reduceAdd, Nat.reduceMul, Nat.reduceLeDiff, Nat.reduceSub, Int.reduceNeg, show ¬ ((T.length : Int) = 0) by omega, htl]
  refine AC_of (src_odd d2.2 (by omega)) ?_
  rintro w h3 - ⟨⟨L, hL, hl2, o2⟩, d3⟩
  have hwb : ∀ c, blk w = some c → ¬ c = b := fun c hc e => by subst e; exact d2.2.known (o2.new c hc)
  simp -implicitDefEqProofs only [go_sem, ↓reduceIte, reduceCtorEq, Int.reduceEq, Int.reduceLT, Int.reduceLE, Nat.reduceEqDiff, Nat.reduceAdd, Nat.reduceMul, Nat.reduceLeDiff, Nat.reduceSub, Int.reduceNeg, wrap_i64 (show -(9223372036854775808 : Int) ≤ ((T.length : Int) + 2) by omega) (show ((T.length : Int) + 2) < 9223372036854775808 by omega), htl]
  have D3 := d2.trans d3
  refine AC_of (src_n D3.2 (by omega)) ?_
  rintro _ h4 - ⟨⟨k, rfl, k0, k1, -⟩, d4⟩
  have hk := k1 (by omega)
  simp -implicitDefEqProofs only [go_sem, ↓reduceIte, reduceCtorEq, Int.reduceEq, Int.reduceLT, Int.reduceLE, Nat.reduceEqDiff, Nat.reduceAdd, Nat.reduceMul, Nat.reduceLeDiff, Nat.reduceSub, Int.reduceNeg, wrap_i64 (show -(9223372036854775808 : Int) ≤ (k - 1) by omega) (show (k - 1) < 9223372036854775808 by omega), htl]
  exact ⟨ex (D3.trans d4), T, L, _, _, w, in64_small (by omega), rfl, ⟨hT, hl, hL, hl2, ((o.keep d3.1 hub).keep d4.1 hub).sl, (o2.keep d4.1 hwb).sl⟩⟩
/-- spec.DrawImageApply -/
def b_spec_DrawImageApply : C := (.seq (.ops [q 2 (.mv (.c nils)), q 3 (.mv (.c nils))])
 (.seq (.ops [q 6 (.mv (.t 0)), ⟨(some 7), none, .call (.c (.func (.func 145) #[] #[])) [(.t 6)]⟩, q 4 (.mv (.t 7))])
 (.seq (.ops [q 8 (.mv (.t 4)), ⟨(some 9), none, .call (.c (.func (.func 156) #[] #[])) [(.t 8)]⟩, q 5 (.mv (.t 9))])
 (.seq (.seq (.ops [q 10 (.mv (.t 5)), q 11 (.len (.t 10)), q 12 (.bin .eql (.t 11) (.c (i64 0)))])
 (.cond (.t 12) (.seq (.ops [q 13 (.mv (.t 5)), q 2 (.mv (.t 13)), q 3 (.mv (.c nils))])
 .ret) .skip))
 (.seq (.ops [q 14 (.mv (.t 5)), q 15 (.mv (.t 4)), q 16 (.mv (.t 5)), q 17 (.len (.t 16)), ⟨(some 18), none, .call (.c (.func (.func 152) #[] #[])) [(.t 15), (.t 17)]⟩, q 2 (.mv (.t 14)), q 3 (.mv (.t 18))])
 .ret)))))
theorem w_spec_DrawImageApply {args : List Value} {h : H} {Q : Value → H → Prop} (hl : args.length ≤ 19) (hk : wpc Try.prog b_spec_DrawImageApply (retw [.tmp 2, .tmp 3] Q) (argsFr args) h) : AC Try.prog 158 args h Q :=
  AC.of_wpc mixedOrders Try.func158 (by kernel_rfl) (by kernel_rfl : prepF Try.prog Try.f158 = some ⟨19, [.tmp 2, .tmp 3], b_spec_DrawImageApply⟩) hl hk

theorem drawImageApply_ac {h : H} {v : Value} {l : List UInt8} (hv : Sl h v 1 (bys l)) (hn : l.length ≤ 1048576) : AC Try.prog 158 [v] h fun r h' => Ext h h' ∧ ∃ (T : List (List UInt8)) (L : List UStep) (u w : Value), r = .tuple #[u, w] ∧ ImgSteps h' u w T L := by
  refine w_spec_DrawImageApply (by simp) ?_
  unfold b_spec_DrawImageApply
  simp -implicitDefEqProofs only [go_sem, ↓reduceIte, reduceCtorEq, Int.reduceEq, Int.reduceLT, Int.reduceLE, Nat.reduceEqDiff, Nat.reduceAdd, Nat.reduceMul, Nat.reduceLeDiff, Nat.reduceSub, Int.reduceNeg]
  refine AC_of (source_ac hv hn) ?_
  rintro _ h1 - ⟨b, rfl, nb, e1, hs⟩
  have ex : ∀ {h' : H}, Drew v l b h1 h' → Ext h h' := fun d => Keep.ext (S := fun x => x = b) e1 d.1 (fun c hc => by subst hc; exact nb)
  simp -implicitDefEqProofs only [go_sem, ↓reduceIte, reduceCtorEq, Int.reduceEq, Int.reduceLT, Int.reduceLE, Nat.reduceEqDiff, Nat.reduceAdd, Nat.reduceMul, Nat.reduceLeDiff, Nat.reduceSub, Int.reduceNeg]
  refine AC_of (src_oddImage hs) ?_
  rintro u h2 - ⟨⟨T, hT, hl, o⟩, d2⟩
  have hub : ∀ c, blk u = some c → ¬ c = b := fun c hc e => by subst e; exact hs.known (o.new c hc)
  obtain ⟨au, cu, rfl⟩ := o.shape
  have htl : (strs T).length = T.length := by simp
  rw [htl] at o hub
  skip
  by_cases h0 : T.length = 0
  · simp -implicitDefEqProofs only [go_sem, ↓reduceIte, reduceCtorEq, Int.reduceEq, Int.reduceLT, Int.reduceLE, Nat.reduceEqDiff, Nat.reduceAdd, Nat.reduceMul, Nat.reduceLeDiff, Nat.reduceSub, Int.reduceNeg, h0, show ((0 : Nat) : Int) = 0 from rfl, htl]
    have : T = [] := List.length_eq_zero_iff.1 h0
    subst this
    exact ⟨ex d2, [], [], _, nils, rfl, ⟨by simp, by simp, by simp, by simp, o.sl, nilSl _ _⟩⟩
  simp -implicitDefEqProofs only [go_sem, ↓reduceIte, reduceCtorEq, Int.reduceEq, Int.reduceLT, Int.reduceLE, Nat.reduceEqDiff, Nat.reduceAdd, Nat.reduceMul, Nat.reduceLeDiff, Nat.reduceSub, Int.reduceNeg, show ¬ ((T.length : Int) = 0) by omega, htl]
  refine AC_of (src_odd d2.2 (by omega)) ?_
  rintro w h3 - ⟨⟨L, hL, hl2, o2⟩, d3⟩
  simp -implicitDefEqProofs only [go_sem, ↓reduceIte, reduceCtorEq, Int.reduceEq, Int.reduceLT, Int.reduceLE, Nat.reduceEqDiff, Nat.reduceAdd, Nat.reduceMul, Nat.reduceLeDiff, Nat.reduceSub, Int.reduceNeg, htl]
  exact ⟨ex (d2.trans d3), T, L, _, w, rfl, ⟨hT, hl, hL, hl2, (o.keep d3.1 hub).sl, o2.sl⟩⟩
/-- spec.DrawSnapAll -/
def b_spec_DrawSnapAll : C := (.seq (.ops [q 2 (.mv (.c nils)), q 3 (.mv (.c nils))])
 (.seq (.ops [q 4 (.mv (.t 0)), ⟨(some 5), none, .call (.c (.func (.func 158) #[] #[])) [(.t 4)]⟩, q 6 (.ext 0 (.t 5)), q 7 (.ext 1 (.t 5)), q 2 (.mv (.t 6)), q 3 (.mv (.t 7))])
 .ret))
theorem w_spec_DrawSnapAll {args : List Value} {h : H} {Q : Value → H → Prop} (hl : args.length ≤ 8) (hk : wpc Try.prog b_spec_DrawSnapAll (retw [.tmp 2, .tmp 3] Q) (argsFr args) h) : AC Try.prog 68 args h Q :=
  AC.of_wpc mixedOrders Try.func68 (by kernel_rfl) (by kernel_rfl : prepF Try.prog Try.f68 = some ⟨8, [.tmp 2, .tmp 3], b_spec_DrawSnapAll⟩) hl hk

theorem drawSnapAll_ac {h : H} {v : Value} {l : List UInt8} (hv : Sl h v 1 (bys l)) (hn : l.length ≤ 1048576) : AC Try.prog 68 [v] h fun r h' => Ext h h' ∧ ∃ (T : List (List UInt8)) (L : List UStep) (u w : Value), r = .tuple #[u, w] ∧ ImgSteps h' u w T L := by
  refine w_spec_DrawSnapAll (by simp) ?_
  unfold b_spec_DrawSnapAll
  simp -implicitDefEqProofs only [go_sem, ↓reduceIte, reduceCtorEq, Int.reduceEq, Int.reduceLT, Int.reduceLE, Nat.reduceEqDiff, Nat.reduceAdd, Nat.reduceMul, Nat.reduceLeDiff, Nat.reduceSub, Int.reduceNeg]
  refine AC_of (drawImageApply_ac hv hn) ?_
  rintro _ h1 - ⟨e, T, L, u, w, rfl, hi⟩
  simp -implicitDefEqProofs only [go_sem, ↓reduceIte, reduceCtorEq, Int.reduceEq, Int.reduceLT, Int.reduceLE, Nat.reduceEqDiff, Nat.reduceAdd, Nat.reduceMul, Nat.reduceLeDiff, Nat.reduceSub, Int.reduceNeg]
  exact ⟨e, T, L, u, w, rfl, hi⟩
/-- laws.lwTexts -/
def b_laws_lwTexts : C := (.seq (.ops [q 4 (.mv (.c (.bool false)))])
 (.seq (.seq (.ops [q 6 (.mv (.t 0)), q 7 (.len (.t 6)), q 8 (.mv (.t 1)), q 9 (.len (.t 8)), q 10 (.bin .neq (.t 7) (.t 9))])
 (.cond (.t 10) (.seq (.ops [q 4 (.mv (.c (.bool false)))])
 .ret) .skip))
 (.seq (.seq (.ops [q 5 (.mv (.c (i64 0)))])
 (.block 0 (.loop (.seq (.seq (.ops [q 11 (.mv (.t 5)), q 12 (.mv (.t 0)), q 13 (.len (.t 12)), q 14 (.bin .lss (.t 11) (.t 13))])
 (.cond (.t 14) .skip (.exit 0)))
 (.seq (.block 1 (.seq (.dops true (.tk (q 17 (.mv (.t 0))) (.tk (q 18 (.mv (.t 5))) (.tk (q 19 (.idx 1 (.t 17) (.t 18))) (.tk (q 20 (.ld false 1 (.t 19))) (.tk (q 21 (.mv (.t 1))) (.tk (q 22 (.mv (.t 5))) (.tk (q 23 (.idx 1 (.t 21) (.t 22))) (.tk (q 24 (.ld false 1 (.t 23))) (.tk (q 25 (.bin .neq (.t 20) (.t 24))) .nil))))))))))
 (.cond (.t 25) (.seq (.ops [q 4 (.mv (.c (.bool false)))])
 .ret) .skip)))
 (.ops [q 15 (.mv (.t 5)), q 16 (.bin .add (.t 15) (.c (i64 1))), q 5 (.mv (.t 16))]))))))
 (.seq (.ops [q 4 (.mv (.c (.bool true)))])
 .ret))))
theorem w_laws_lwTexts {args : List Value} {h : H} {Q : Value → H → Prop} (hl : args.length ≤ 26) (hk : wpc Try.prog b_laws_lwTexts (retw [.tmp 4] Q) (argsFr args) h) : AC Try.prog 84 args h Q :=
  AC.of_wpc mixedOrders Try.func84 (by kernel_rfl) (by kernel_rfl : prepF Try.prog Try.f84 = some ⟨26, [.tmp 4], b_laws_lwTexts⟩) hl hk

theorem lwTexts_pc {h : H} {v1 v2 : Value} {l1 l2 : List (List UInt8)} (hv : Sl h v1 1 (strs l1)) (hu : Sl h v2 1 (strs l2)) (hn : l1.length ≤ 1048576) : PC Try.prog 84 [v1, v2] h (.bool (decide (l1 = l2))) := by
  obtain ⟨a, c, b, o, rfl, hc, r2, r3⟩ := hv
  obtain ⟨a', c', b', o', rfl, hc', q2, q3⟩ := hu
  have e1 : (strs l1).length = l1.length := by simp
  have e2 : (strs l2).length = l2.length := by simp
  rw [e1] at r2
  rw [e2] at q2
  skip
  by_cases hl : l1.length = l2.length
  rotate_left
  · refine w_laws_lwTexts (by simp) ?_
    unfold b_laws_lwTexts
    simp -implicitDefEqProofs only [go_sem, ↓reduceIte, reduceCtorEq, Int.reduceEq, Int.reduceLT, Int.reduceLE, Nat.reduceEqDiff, Nat.reduceAdd, Nat.reduceMul, Nat.reduceLeDiff, Nat.reduceSub, Int.reduceNeg, hl, show ¬ ((l1.length : Int) = (l2.length : Int)) by omega, e1, e2]
    exact dec_f fun h => hl (by rw [h])
  have hl0 : decide ((l1.length : Int) = (l2.length : Int)) = true := decide_eq_true (by omega)
  have hl1 : ((l1.length : Int) ≠ (l2.length : Int)) = False := eq_false fun h => h (by omega)
  refine w_laws_lwTexts (by simp) ?_
  unfold b_laws_lwTexts
  simp -implicitDefEqProofs only [go_sem, ↓reduceIte, reduceCtorEq, Int.reduceEq, Int.reduceLT, Int.reduceLE, Nat.reduceEqDiff, Nat.reduceAdd, Nat.reduceMul, Nat.reduceLeDiff, Nat.reduceSub, Int.reduceNeg, hl0, hl1, e1, e2]
  refine loopW_of (fun m f h' => ∃ k, m + k = l1.length ∧ h' = h ∧ f 0 = .slice a l1.length c ∧ f 1 = .slice a' l2.length c' ∧ f 5 = i64 k ∧ l1.take k = l2.take k) l1.length
    ⟨0, by simp, rfl, by simp -implicitDefEqProofs only [go_sem, ↓reduceIte, reduceCtorEq, Int.reduceEq, Int.reduceLT, Int.reduceLE, Nat.reduceEqDiff, Nat.reduceAdd, Nat.reduceMul, Nat.reduceLeDiff, Nat.reduceSub, Int.reduceNeg, e1, e2], by simp -implicitDefEqProofs only [go_sem, ↓reduceIte, reduceCtorEq, Int.reduceEq, Int.reduceLT, Int.reduceLE, Nat.reduceEqDiff, Nat.reduceAdd, Nat.reduceMul, Nat.reduceLeDiff, Nat.reduceSub, Int.reduceNeg, e1, e2], by simp -implicitDefEqProofs only [go_sem, ↓reduceIte, reduceCtorEq, Int.reduceEq, Int.reduceLT, Int.reduceLE, Nat.reduceEqDiff, Nat.reduceAdd, Nat.reduceMul, Nat.reduceLeDiff, Nat.reduceSub, Int.reduceNeg, e1, e2]; rfl, by simp⟩ ?_
  rintro m f h' ⟨k, hm, rfl, f0, f1, f5, ht⟩
  skip
  by_cases hk : k < l1.length
  · have hk2 : k < l2.length := by omega
    have d1 := r3 k _ (show (strs l1)[k]? = some [str l1[k]] by simp [hk])
    have d2 := q3 k _ (show (strs l2)[k]? = some [str l2[k]] by simp [hk2])
    have hs : l1.take (k + 1) = l2.take (k + 1) ↔ l1[k] = l2[k] := by
      rw [List.take_succ_eq_append_getElem hk, List.take_succ_eq_append_getElem hk2, ht]
      exact ⟨fun h => (List.cons.inj (List.append_cancel_left h)).1, fun h => by rw [h]⟩
    by_cases he : l1[k] = l2[k]
    · skip
      simp -implicitDefEqProofs only [go_sem, ↓reduceIte, reduceCtorEq, Int.reduceEq, Int.reduceLT, Int.reduceLE, Nat.reduceEqDiff, Nat.reduceAdd, Nat.reduceMul, Nat.reduceLeDiff, Nat.reduceSub, Int.reduceNeg, hk, hk2, r2, q2, d1, d2, he, wrap_i64 (show -(9223372036854775808 : Int) ≤ ((k : Int) + 1) by omega) (show ((k : Int) + 1) < 9223372036854775808 by omega), e1, e2, f0, f1, f5, Int.ofNat_lt, Int.natCast_nonneg]
      exact ⟨m - 1, by omega, h', Ext.refl _, k + 1, by omega, rfl, rfl, hs.2 he⟩
    · skip
      simp -implicitDefEqProofs only [go_sem, ↓reduceIte, reduceCtorEq, Int.reduceEq, Int.reduceLT, Int.reduceLE, Nat.reduceEqDiff, Nat.reduceAdd, Nat.reduceMul, Nat.reduceLeDiff, Nat.reduceSub, Int.reduceNeg, hk, hk2, r2, q2, d1, d2, he, e1, e2, f0, f1, f5, Int.ofNat_lt, Int.natCast_nonneg]
      exact dec_f fun h => he (hs.1 (by rw [h]))
  · have e : k = l1.length := by omega
    subst e
    simp -implicitDefEqProofs only [go_sem, ↓reduceIte, reduceCtorEq, Int.reduceEq, Int.reduceLT, Int.reduceLE, Nat.reduceEqDiff, Nat.reduceAdd, Nat.reduceMul, Nat.reduceLeDiff, Nat.reduceSub, Int.reduceNeg, Nat.lt_irrefl, e1, e2, f0, f1, f5, Int.ofNat_lt, Int.natCast_nonneg]
    exact dec_t (by rw [List.take_length, hl, List.take_length] at ht; exact ht)
/-- laws.lwImage -/
def b_laws_lwImage : C := (.seq (.ops [⟨(some 2), none, .box (.t 0)⟩, ⟨(some 3), none, .box (.t 1)⟩, q 4 (.mv (.c (.bool false)))])
 (.seq (.ops [q 5 (.fld 1 (.t 2)), q 6 (.ld false 1 (.t 5)), q 7 (.fld 1 (.t 3)), q 8 (.ld false 1 (.t 7)), q 9 (.bin .eql (.t 6) (.t 8)), q 10 (.mv (.t 9)), qg 11 10 true (.fld 0 (.t 2)), qg 12 10 true (.ld false 1 (.t 11)), qg 13 10 true (.fld 0 (.t 3)), qg 14 10 true (.ld false 1 (.t 13)), ⟨(some 15), (some (10, true)), .call (.c (.func (.func 84) #[] #[])) [(.t 12), (.t 14)]⟩, q 16 (.pick (.t 10) (.t 15) (.c (.bool false))), q 4 (.mv (.t 16))])
 .ret))
theorem w_laws_lwImage {args : List Value} {h : H} {Q : Value → H → Prop} (hl : args.length ≤ 17) (hk : wpc Try.prog b_laws_lwImage (retw [.tmp 4] Q) (argsFr args) h) : AC Try.prog 72 args h Q :=
  AC.of_wpc mixedOrders Try.func72 (by kernel_rfl) (by kernel_rfl : prepF Try.prog Try.f72 = some ⟨17, [.tmp 4], b_laws_lwImage⟩) hl hk

theorem lwImage_pc {h : H} {v1 v2 : Value} {l1 l2 : List (List UInt8)} {c1 c2 : Int} (hv : Sl h v1 1 (strs l1)) (hu : Sl h v2 1 (strs l2)) (hn : l1.length ≤ 1048576) : PC Try.prog 72 [.agg #[v1, i64 c1], .agg #[v2, i64 c2]] h (.bool (decide (c1 = c2 ∧ l1 = l2))) := by
  refine PC_of ?_
  refine w_laws_lwImage (by simp) ?_
  unfold b_laws_lwImage
  simp -implicitDefEqProofs only [go_sem, ↓reduceIte, reduceCtorEq, Int.reduceEq, Int.reduceLT, Int.reduceLE, Nat.reduceEqDiff, Nat.reduceAdd, Nat.reduceMul, Nat.reduceLeDiff, Nat.reduceSub, Int.reduceNeg]
  intro b2 hb_b2 n_b2
  simp -implicitDefEqProofs only [go_sem, ↓reduceIte, reduceCtorEq, Int.reduceEq, Int.reduceLT, Int.reduceLE, Nat.reduceEqDiff, Nat.reduceAdd, Nat.reduceMul, Nat.reduceLeDiff, Nat.reduceSub, Int.reduceNeg, hb_b2]
  intro b3 hb_b3 m0_b3
  obtain ⟨z_b3_b2, y_b3_b2, n_b3⟩ := fne m0_b3
  simp only [H.set_base] at hb_b3
  by_cases hc : c1 = c2
  · simp -implicitDefEqProofs only [go_sem, ↓reduceIte, reduceCtorEq, Int.reduceEq, Int.reduceLT, Int.reduceLE, Nat.reduceEqDiff, Nat.reduceAdd, Nat.reduceMul, Nat.reduceLeDiff, Nat.reduceSub, Int.reduceNeg, decide_eq_true hc, hb_b2, hb_b3, z_b3_b2, y_b3_b2]
    refine (lwTexts_pc (hv.ext (((Ext.refl _).set' n_b2 _).set' n_b3 _)) (hu.ext (((Ext.refl _).set' n_b2 _).set' n_b3 _)) hn).use ?_
    simp -implicitDefEqProofs only [go_sem, ↓reduceIte, reduceCtorEq, Int.reduceEq, Int.reduceLT, Int.reduceLE, Nat.reduceEqDiff, Nat.reduceAdd, Nat.reduceMul, Nat.reduceLeDiff, Nat.reduceSub, Int.reduceNeg, hb_b2, hb_b3, z_b3_b2, y_b3_b2]
    first | exact ⟨(((Ext.refl _).set' n_b2 _).set' n_b3 _), by simp [hc]⟩ | exact (((Ext.refl _).set' n_b2 _).set' n_b3 _)
  · simp -implicitDefEqProofs only [go_sem, ↓reduceIte, reduceCtorEq, Int.reduceEq, Int.reduceLT, Int.reduceLE, Nat.reduceEqDiff, Nat.reduceAdd, Nat.reduceMul, Nat.reduceLeDiff, Nat.reduceSub, Int.reduceNeg, hc, hb_b2, hb_b3, z_b3_b2, y_b3_b2]
    first | exact ⟨(((Ext.refl _).set' n_b2 _).set' n_b3 _), by simp [hc]⟩ | exact (((Ext.refl _).set' n_b2 _).set' n_b3 _)
end Go.Proofs.Ytpponffjeilhmaa
