/- A helper of this seat's claims (contracts of the functions): what it shows is shown for every input that its statements name, on no other condition. -/
import Derived.Test.YthheclnjaemjnaaGreatCM
import Derived.Test.YthheclnjaemjnaaGreatKD
set_option linter.unusedVariables false
set_option linter.unusedSimpArgs false
set_option maxRecDepth 100000
namespace Go.Proofs.YthheclnjaemjnaaGreat
open Go.KH

/-! ## The laws' helpers for acts -/
/-- laws.eqAct -/
def b_laws_eqAct : C := (.seq (.ops [⟨(some 2), none, .box (.t 0)⟩, ⟨(some 3), none, .box (.t 1)⟩, q 4 (.mv (.c (.bool false)))])
 (.seq (.seq (.ops [q 5 (.fld 0 (.t 2)), q 6 (.ld false 1 (.t 5)), q 7 (.fld 0 (.t 3)), q 8 (.ld false 1 (.t 7)), q 9 (.eqb true (.t 6) (.t 8))])
 (.cond (.t 9) (.seq (.ops [q 4 (.mv (.c (.bool false)))])
 .ret) .skip))
 (.seq (.seq (.ops [q 10 (.fld 1 (.t 2)), q 11 (.ld false 1 (.t 10)), q 12 (.fld 1 (.t 3)), q 13 (.ld false 1 (.t 12)), q 14 (.bin .neq (.t 11) (.t 13))])
 (.cond (.t 14) (.seq (.ops [q 4 (.mv (.c (.bool false)))])
 .ret) .skip))
 (.seq (.seq (.ops [q 15 (.fld 2 (.t 2)), q 16 (.ld false 1 (.t 15)), q 17 (.fld 2 (.t 3)), q 18 (.ld false 1 (.t 17)), q 19 (.bin .neq (.t 16) (.t 18))])
 (.cond (.t 19) (.seq (.ops [q 4 (.mv (.c (.bool false)))])
 .ret) .skip))
 (.seq (.ops [q 4 (.mv (.c (.bool true)))])
 .ret)))))
theorem w_laws_eqAct {args : List Value} {h : H} {Q : Value → H → Prop} (hl : args.length ≤ 20) (hk : wpc Tryz.prog b_laws_eqAct (retw [.tmp 4] Q) (argsFr args) h) : AC Tryz.prog 41 args h Q :=
  AC.of_wpc mixedOrders Tryz.func41 (by kernel_rfl) (by kernel_rfl : prepF Tryz.prog Tryz.f41 = some ⟨20, [.tmp 4], b_laws_eqAct⟩) hl hk

theorem eqAct_pc (h : H) (a b : UAct) : PC Tryz.prog 41 [.agg a.cells.toArray, .agg b.cells.toArray] h (.bool (decide (a = b))) := by
  obtain ⟨x1, x2, x3⟩ := a
  obtain ⟨u1, u2, u3⟩ := b
  refine PC_of ?_
  refine w_laws_eqAct (by simp) ?_
  unfold b_laws_eqAct
  simp -implicitDefEqProofs only [go_sem, ↓reduceIte, reduceCtorEq, Int.reduceEq, Int.reduceLT, Int.reduceLE, Nat.reduceEqDiff, Nat.reduceAdd, Nat.reduceMul, Nat.reduceLeDiff, Nat.reduceSub, Int.reduceNeg]
  intro b1 hb_b1 n_b1
  simp -implicitDefEqProofs only [go_sem, ↓reduceIte, reduceCtorEq, Int.reduceEq, Int.reduceLT, Int.reduceLE, Nat.reduceEqDiff, Nat.reduceAdd, Nat.reduceMul, Nat.reduceLeDiff, Nat.reduceSub, Int.reduceNeg, hb_b1]
  intro b2 hb_b2 m0_b2
  obtain ⟨z_b2_b1, y_b2_b1, n_b2⟩ := fne m0_b2
  simp only [H.set_base] at hb_b2
  simp -implicitDefEqProofs only [go_sem, ↓reduceIte, reduceCtorEq, Int.reduceEq, Int.reduceLT, Int.reduceLE, Nat.reduceEqDiff, Nat.reduceAdd, Nat.reduceMul, Nat.reduceLeDiff, Nat.reduceSub, Int.reduceNeg, hb_b1, hb_b2, z_b2_b1, y_b2_b1]
  repeat' (refine Br.of (fun hc => ?_) (fun hc => ?_) <;> simp -implicitDefEqProofs only [go_sem, ↓reduceIte, reduceCtorEq, Int.reduceEq, Int.reduceLT, Int.reduceLE, Nat.reduceEqDiff, Nat.reduceAdd, Nat.reduceMul, Nat.reduceLeDiff, Nat.reduceSub, Int.reduceNeg, hc, hb_b1, hb_b2, z_b2_b1, y_b2_b1])
  all_goals exact ⟨(((Ext.refl _).set' n_b1 _).set' n_b2 _), by simp_all⟩
/-- laws.eqActS -/
def b_laws_eqActS : C := (.seq (.ops [q 4 (.mv (.c (.bool false)))])
 (.seq (.seq (.ops [q 6 (.mv (.t 0)), q 7 (.len (.t 6)), q 8 (.mv (.t 1)), q 9 (.len (.t 8)), q 10 (.bin .neq (.t 7) (.t 9))])
 (.cond (.t 10) (.seq (.ops [q 4 (.mv (.c (.bool false)))])
 .ret) .skip))
 (.seq (.seq (.ops [q 5 (.mv (.c (i64 0)))])
 (.block 0 (.loop (.seq (.seq (.ops [q 11 (.mv (.t 5)), q 12 (.mv (.t 0)), q 13 (.len (.t 12)), q 14 (.bin .lss (.t 11) (.t 13))])
 (.cond (.t 14) .skip (.exit 0)))
 (.seq (.block 1 (.seq (.dops true (.tk (q 17 (.mv (.t 0))) (.tk (q 18 (.mv (.t 5))) (.tk (q 19 (.idx 3 (.t 17) (.t 18))) (.tk (q 20 (.ld true 3 (.t 19))) (.tk (q 21 (.mv (.t 1))) (.tk (q 22 (.mv (.t 5))) (.tk (q 23 (.idx 3 (.t 21) (.t 22))) (.tk (q 24 (.ld true 3 (.t 23))) (.sq (⟨(some 25), none, .call (.c (.func (.func 41) #[] #[])) [(.t 20), (.t 24)]⟩) (.tk (q 26 (.un .not (.t 25))) .nil)))))))))))
 (.cond (.t 26) (.seq (.ops [q 4 (.mv (.c (.bool false)))])
 .ret) .skip)))
 (.ops [q 15 (.mv (.t 5)), q 16 (.bin .add (.t 15) (.c (i64 1))), q 5 (.mv (.t 16))]))))))
 (.seq (.ops [q 4 (.mv (.c (.bool true)))])
 .ret))))
theorem w_laws_eqActS {args : List Value} {h : H} {Q : Value → H → Prop} (hl : args.length ≤ 27) (hk : wpc Tryz.prog b_laws_eqActS (retw [.tmp 4] Q) (argsFr args) h) : AC Tryz.prog 19 args h Q :=
  AC.of_wpc mixedOrders Tryz.func19 (by kernel_rfl) (by kernel_rfl : prepF Tryz.prog Tryz.f19 = some ⟨27, [.tmp 4], b_laws_eqActS⟩) hl hk

theorem eqActS_pc {h : H} {v1 v2 : Value} {l1 l2 : List UAct} (hv : Sl h v1 3 (l1.map UAct.cells)) (hu : Sl h v2 3 (l2.map UAct.cells)) (hn : l1.length ≤ maxLen) : PC Tryz.prog 19 [v1, v2] h (.bool (decide (l1 = l2))) :=
  w_laws_eqActS (by simp) (eq_wpc hv hu hn (fun a b _ _ => eqAct_pc h a b) ⟨rfl, rfl⟩)
abbrev gAct (k : Int) : List Value := [.bool (decide (Int.tmod k 3 = 0)), i64 (k + 1), str (markT (k + 2))]
/-- laws.markActS -/
def b_laws_markActS : C := (.seq (.ops [q 4 (.mv (.c (i64 0)))])
 (.seq (.seq (.ops [q 5 (.mv (.c (i64 0)))])
 (.block 0 (.loop (.seq (.seq (.ops [q 6 (.mv (.t 5)), q 7 (.mv (.t 0)), q 8 (.len (.t 7)), q 9 (.bin .lss (.t 6) (.t 8))])
 (.cond (.t 9) .skip (.exit 0)))
 (.seq (.block 1 (.seq (.ops [q 12 (.mv (.t 0)), q 13 (.mv (.t 5)), q 14 (.mv (.t 1)), q 15 (.bin .rem (.t 14) (.c (i64 3))), q 16 (.bin .eql (.t 15) (.c (i64 0))), q 17 (.idx 3 (.t 12) (.t 13)), q 18 (.fld 0 (.t 17)), ⟨none, none, .st 1 (.t 18) (.t 16)⟩])
 (.seq (.ops [q 19 (.mv (.t 1)), q 20 (.bin .add (.t 19) (.c (i64 1))), q 1 (.mv (.t 20))])
 (.seq (.ops [q 21 (.mv (.t 0)), q 22 (.mv (.t 5)), q 23 (.mv (.t 1)), q 24 (.idx 3 (.t 21) (.t 22)), q 25 (.fld 1 (.t 24)), ⟨none, none, .st 1 (.t 25) (.t 23)⟩])
 (.seq (.ops [q 26 (.mv (.t 1)), q 27 (.bin .add (.t 26) (.c (i64 1))), q 1 (.mv (.t 27))])
 (.seq (.ops [q 28 (.mv (.t 0)), q 29 (.mv (.t 5)), q 30 (.mv (.t 1)), ⟨(some 31), none, .call (.c (.func (.func 42) #[] #[])) [(.t 30)]⟩, q 32 (.idx 3 (.t 28) (.t 29)), q 33 (.fld 2 (.t 32)), ⟨none, none, .st 1 (.t 33) (.t 31)⟩])
 (.ops [q 34 (.mv (.t 1)), q 35 (.bin .add (.t 34) (.c (i64 1))), q 1 (.mv (.t 35))])))))))
 (.ops [q 10 (.mv (.t 5)), q 11 (.bin .add (.t 10) (.c (i64 1))), q 5 (.mv (.t 11))]))))))
 (.seq (.ops [q 36 (.mv (.t 1)), q 4 (.mv (.t 36))])
 .ret)))
theorem w_laws_markActS {args : List Value} {h : H} {Q : Value → H → Prop} (hl : args.length ≤ 37) (hk : wpc Tryz.prog b_laws_markActS (retw [.tmp 4] Q) (argsFr args) h) : AC Tryz.prog 20 args h Q :=
  AC.of_wpc mixedOrders Tryz.func20 (by kernel_rfl) (by kernel_rfl : prepF Tryz.prog Tryz.f20 = some ⟨37, [.tmp 4], b_laws_markActS⟩) hl hk

theorem markActS_ac {h0 h : H} {v : Value} {l : List UAct} {k0 : Int} (hv : Fre h0 h v 3 (l.map UAct.cells)) (hn : l.length ≤ 2097152) (hk : 1 ≤ k0 ∧ k0 ≤ 16777216) :
    AC Tryz.prog 20 [v, i64 k0] h fun r h' => r = i64 (k0 + (3 * l.length : Nat)) ∧ Keep (fun b => blk v = some b) h h' ∧ Fre h0 h' v 3 (mks gAct 3 k0 l.length) := by
  have hll : (l.map UAct.cells).length = l.length := by simp
  rcases fre_cases hv with ⟨a, c, rfl, hr⟩ | ⟨b, c, cells, z, rfl, hlc, hb, h0b, hg, hw, hbl⟩
  · have hl0 : l = [] := List.map_eq_nil_iff.1 hr
    subst hl0
    refine w_laws_markActS (by simp) ?_
    unfold b_laws_markActS
    simp -implicitDefEqProofs only [go_sem, ↓reduceIte, reduceCtorEq, Int.reduceEq, Int.reduceLT, Int.reduceLE, Nat.reduceEqDiff, Nat.reduceAdd, Nat.reduceMul, Nat.reduceLeDiff, Nat.reduceSub, Int.reduceNeg, Int.lt_irrefl]
    refine loopW_of (fun m f h' => h' = h ∧ f 0 = .slice a 0 c ∧ f 1 = i64 k0 ∧ f 5 = i64 0) 0 ⟨rfl, by simp -implicitDefEqProofs only [go_sem, ↓reduceIte, reduceCtorEq, Int.reduceEq, Int.reduceLT, Int.reduceLE, Nat.reduceEqDiff, Nat.reduceAdd, Nat.reduceMul, Nat.reduceLeDiff, Nat.reduceSub, Int.reduceNeg], by simp -implicitDefEqProofs only [go_sem, ↓reduceIte, reduceCtorEq, Int.reduceEq, Int.reduceLT, Int.reduceLE, Nat.reduceEqDiff, Nat.reduceAdd, Nat.reduceMul, Nat.reduceLeDiff, Nat.reduceSub, Int.reduceNeg], by simp -implicitDefEqProofs only [go_sem, ↓reduceIte, reduceCtorEq, Int.reduceEq, Int.reduceLT, Int.reduceLE, Nat.reduceEqDiff, Nat.reduceAdd, Nat.reduceMul, Nat.reduceLeDiff, Nat.reduceSub, Int.reduceNeg]⟩ ?_
    rintro m f h' ⟨rfl, f0, f1, f5⟩
    simp -implicitDefEqProofs only [go_sem, ↓reduceIte, reduceCtorEq, Int.reduceEq, Int.reduceLT, Int.reduceLE, Nat.reduceEqDiff, Nat.reduceAdd, Nat.reduceMul, Nat.reduceLeDiff, Nat.reduceSub, Int.reduceNeg, f0, f1, f5, Int.lt_irrefl, Int.ofNat_lt, Nat.lt_irrefl, show ((0 : Nat) : Int) = 0 from rfl]
    exact ⟨by simp, Keep.refl _ _, .inl ⟨a, c, rfl, by simp [mks]⟩⟩
  · have hw1 : ∀ k, (gAct k).length = 3 := fun _ => rfl
    have hfl := flat_length hw
    rw [hll] at hlc hfl hbl
    rw [hll]
    rw [hll] at hv
    refine w_laws_markActS (by simp) ?_
    unfold b_laws_markActS
    simp -implicitDefEqProofs only [go_sem, ↓reduceIte, reduceCtorEq, Int.reduceEq, Int.reduceLT, Int.reduceLE, Nat.reduceEqDiff, Nat.reduceAdd, Nat.reduceMul, Nat.reduceLeDiff, Nat.reduceSub, Int.reduceNeg]
    refine loopW_of (fun m f h' => ∃ k B, m + k = l.length ∧ h' = h.set b ⟨(mks gAct 3 k0 k).flatten ++ B, z⟩ ∧ B.length = m * 3 + cells.length ∧ f 0 = sl b 0 l.length c ∧ f 1 = i64 (k0 + (3 * k : Nat)) ∧ f 5 = i64 k) l.length
      ⟨0, (l.map UAct.cells).flatten ++ cells, by simp, ?_, by simp only [List.length_append, hfl], by simp -implicitDefEqProofs only [go_sem, ↓reduceIte, reduceCtorEq, Int.reduceEq, Int.reduceLT, Int.reduceLE, Nat.reduceEqDiff, Nat.reduceAdd, Nat.reduceMul, Nat.reduceLeDiff, Nat.reduceSub, Int.reduceNeg], by simp -implicitDefEqProofs only [go_sem, ↓reduceIte, reduceCtorEq, Int.reduceEq, Int.reduceLT, Int.reduceLE, Nat.reduceEqDiff, Nat.reduceAdd, Nat.reduceMul, Nat.reduceLeDiff, Nat.reduceSub, Int.reduceNeg]; simp, by simp -implicitDefEqProofs only [go_sem, ↓reduceIte, reduceCtorEq, Int.reduceEq, Int.reduceLT, Int.reduceLE, Nat.reduceEqDiff, Nat.reduceAdd, Nat.reduceMul, Nat.reduceLeDiff, Nat.reduceSub, Int.reduceNeg]; rfl⟩ ?_
    · simp only [mks, List.range_zero, List.map_nil, List.flatten_nil, List.nil_append]
      exact (H.set_id hg).symm
    rintro m f h' ⟨k, B, hm, rfl, hB, f0, f1, f5⟩
    have hml : (mks gAct 3 k0 k).flatten.length = k * 3 := by rw [flat_length (mks_wid hw1 _ _ _), mks_len]
    by_cases hkk : k < l.length
    · obtain ⟨x0, x1, x2, B', rfl⟩ : ∃ x0 x1 x2 B', B = x0 :: x1 :: x2 :: B' := by
        match B, hB with
        | x0 :: x1 :: x2 :: B', _ => exact ⟨x0, x1, x2, B', rfl⟩
        | [], hB => exact absurd hB (by simp; omega)
        | [_], hB => exact absurd hB (by simp; omega)
        | [_, _], hB => exact absurd hB (by simp; omega)
      simp only [List.length_cons] at hB
      have hsp0 : ∀ B r, splice ((mks gAct 3 k0 k).flatten ++ B) (k * 3) r = (mks gAct 3 k0 k).flatten ++ splice B 0 r := fun B r => splice_app _ _ _ 0 (by omega)
      have hsp : ∀ B r j, splice ((mks gAct 3 k0 k).flatten ++ B) (k * 3 + j) r = (mks gAct 3 k0 k).flatten ++ splice B j r := fun B r j => splice_app _ _ _ j (by omega)
      have kq1 : IntKind.i64.wrap (k0 + ((3 * k : Nat) : Int) + 1) = k0 + ((3 * k : Nat) : Int) + 1 := wrap_i64 (by omega) (by omega)
      have kq2 : IntKind.i64.wrap (k0 + ((3 * k : Nat) : Int) + 1 + 1) = k0 + ((3 * k : Nat) : Int) + 2 := by rw [wrap_i64 (by omega) (by omega)]; omega
      have kq4 : IntKind.i64.wrap (k0 + ((3 * k : Nat) : Int) + 2 + 1) = k0 + ((3 * (k + 1) : Nat) : Int) := by rw [wrap_i64 (by omega) (by omega)]; omega
      have q0 : k * 3 + 1 ≤ k * 3 + (B'.length + 1 + 1 + 1) := by omega
      have q1 : k * 3 + 1 + 1 ≤ k * 3 + (B'.length + 1 + 1 + 1) := by omega
      have q2 : k * 3 + 2 + 1 ≤ k * 3 + (B'.length + 1 + 1 + 1) := by omega
      simp -implicitDefEqProofs only [go_sem, ↓reduceIte, reduceCtorEq, Int.reduceEq, Int.reduceLT, Int.reduceLE, Nat.reduceEqDiff, Nat.reduceAdd, Nat.reduceMul, Nat.reduceLeDiff, Nat.reduceSub, Int.reduceNeg, f0, f1, f5, hkk, hb, hsp0, hsp, Int.ofNat_lt, Int.natCast_nonneg, List.length_append, hml, q0, q1, q2, kq1, kq2]
      refine (markText_pc _ (k0 + (3 * k : Nat) + 2) (by omega)).use ?_
      simp -implicitDefEqProofs only [go_sem, ↓reduceIte, reduceCtorEq, Int.reduceEq, Int.reduceLT, Int.reduceLE, Nat.reduceEqDiff, Nat.reduceAdd, Nat.reduceMul, Nat.reduceLeDiff, Nat.reduceSub, Int.reduceNeg, f0, f1, f5, hkk, hb, hsp0, hsp, Int.ofNat_lt, Int.natCast_nonneg, List.length_append, hml, q0, q1, q2, kq1, kq2, kq4, wrap_i64 (show -(9223372036854775808 : Int) ≤ ((k : Int) + 1) by omega) (show ((k : Int) + 1) < 9223372036854775808 by omega)]
      refine ⟨m - 1, by omega, _, Ext.refl _, k + 1, B', by omega, ?_, by omega, rfl, rfl⟩
      rw [mks_succ]; simp
    · have e : k = l.length := by omega
      subst e
      simp -implicitDefEqProofs only [go_sem, ↓reduceIte, reduceCtorEq, Int.reduceEq, Int.reduceLT, Int.reduceLE, Nat.reduceEqDiff, Nat.reduceAdd, Nat.reduceMul, Nat.reduceLeDiff, Nat.reduceSub, Int.reduceNeg, f0, f1, f5, Int.ofNat_lt, Nat.lt_irrefl]
      exact ⟨(Keep.refl _ h).set (.inl hbl) _, .inr ⟨b, c, _, by rw [mks_len], by rw [mks_len]; exact hlc, hb, h0b, H.set_get_same _ _ _, List.prefix_append _ _, mks_wid hw1 _ _ _⟩⟩
/-- laws.heldActS -/
def b_laws_heldActS : C := (.seq (.ops [q 4 (.mv (.c (i64 0)))])
 (.seq (.seq (.ops [q 5 (.mv (.c (i64 0)))])
 (.block 0 (.loop (.seq (.seq (.ops [q 6 (.mv (.t 5)), q 7 (.mv (.t 0)), q 8 (.len (.t 7)), q 9 (.bin .lss (.t 6) (.t 8))])
 (.cond (.t 9) .skip (.exit 0)))
 (.seq (.block 1 (.seq (.seq (.ops [q 12 (.mv (.t 0)), q 13 (.mv (.t 5)), q 14 (.idx 3 (.t 12) (.t 13)), q 15 (.fld 0 (.t 14)), q 16 (.ld false 1 (.t 15)), q 17 (.mv (.t 1)), q 18 (.bin .rem (.t 17) (.c (i64 3))), q 19 (.bin .eql (.t 18) (.c (i64 0))), q 20 (.eqb true (.t 16) (.t 19))])
 (.cond (.t 20) (.seq (.ops [q 4 (.mv (.c (i64 (-1))))])
 .ret) .skip))
 (.seq (.ops [q 21 (.mv (.t 1)), q 22 (.bin .add (.t 21) (.c (i64 1))), q 1 (.mv (.t 22))])
 (.seq (.seq (.ops [q 23 (.mv (.t 0)), q 24 (.mv (.t 5)), q 25 (.idx 3 (.t 23) (.t 24)), q 26 (.fld 1 (.t 25)), q 27 (.ld false 1 (.t 26)), q 28 (.mv (.t 1)), q 29 (.bin .neq (.t 27) (.t 28))])
 (.cond (.t 29) (.seq (.ops [q 4 (.mv (.c (i64 (-1))))])
 .ret) .skip))
 (.seq (.ops [q 30 (.mv (.t 1)), q 31 (.bin .add (.t 30) (.c (i64 1))), q 1 (.mv (.t 31))])
 (.seq (.seq (.dops true (.tk (q 32 (.mv (.t 0))) (.tk (q 33 (.mv (.t 5))) (.tk (q 34 (.idx 3 (.t 32) (.t 33))) (.tk (q 35 (.fld 2 (.t 34))) (.tk (q 36 (.ld false 1 (.t 35))) (.tk (q 37 (.mv (.t 1))) (.sq (⟨(some 38), none, .call (.c (.func (.func 42) #[] #[])) [(.t 37)]⟩) (.tk (q 39 (.bin .neq (.t 36) (.t 38))) .nil)))))))))
 (.cond (.t 39) (.seq (.ops [q 4 (.mv (.c (i64 (-1))))])
 .ret) .skip))
 (.ops [q 40 (.mv (.t 1)), q 41 (.bin .add (.t 40) (.c (i64 1))), q 1 (.mv (.t 41))])))))))
 (.ops [q 10 (.mv (.t 5)), q 11 (.bin .add (.t 10) (.c (i64 1))), q 5 (.mv (.t 11))]))))))
 (.seq (.ops [q 42 (.mv (.t 1)), q 4 (.mv (.t 42))])
 .ret)))
theorem w_laws_heldActS {args : List Value} {h : H} {Q : Value → H → Prop} (hl : args.length ≤ 43) (hk : wpc Tryz.prog b_laws_heldActS (retw [.tmp 4] Q) (argsFr args) h) : AC Tryz.prog 21 args h Q :=
  AC.of_wpc mixedOrders Tryz.func21 (by kernel_rfl) (by kernel_rfl : prepF Tryz.prog Tryz.f21 = some ⟨43, [.tmp 4], b_laws_heldActS⟩) hl hk

theorem heldActS_pc {h : H} {v : Value} {n : Nat} {k0 : Int} (hv : Sl h v 3 (mks gAct 3 k0 n)) (hn : n ≤ 2097152) (hk : 1 ≤ k0 ∧ k0 ≤ 16777216) : PC Tryz.prog 21 [v, i64 k0] h (i64 (k0 + (3 * n : Nat))) := by
  obtain ⟨a, c, b, o, rfl, hcap, h2, h3⟩ := hv
  rw [mks_len] at h2 hcap
  refine w_laws_heldActS (by simp) ?_
  unfold b_laws_heldActS
  simp -implicitDefEqProofs only [go_sem, ↓reduceIte, reduceCtorEq, Int.reduceEq, Int.reduceLT, Int.reduceLE, Nat.reduceEqDiff, Nat.reduceAdd, Nat.reduceMul, Nat.reduceLeDiff, Nat.reduceSub, Int.reduceNeg, mks_len]
  refine loopW_of (fun m f h' => ∃ k, m + k = n ∧ h' = h ∧ f 0 = .slice a n c ∧ f 1 = i64 (k0 + (3 * k : Nat)) ∧ f 5 = i64 k) n ⟨0, by simp, rfl, by simp -implicitDefEqProofs only [go_sem, ↓reduceIte, reduceCtorEq, Int.reduceEq, Int.reduceLT, Int.reduceLE, Nat.reduceEqDiff, Nat.reduceAdd, Nat.reduceMul, Nat.reduceLeDiff, Nat.reduceSub, Int.reduceNeg, mks_len], by simp -implicitDefEqProofs only [go_sem, ↓reduceIte, reduceCtorEq, Int.reduceEq, Int.reduceLT, Int.reduceLE, Nat.reduceEqDiff, Nat.reduceAdd, Nat.reduceMul, Nat.reduceLeDiff, Nat.reduceSub, Int.reduceNeg]; simp, by simp -implicitDefEqProofs only [go_sem, ↓reduceIte, reduceCtorEq, Int.reduceEq, Int.reduceLT, Int.reduceLE, Nat.reduceEqDiff, Nat.reduceAdd, Nat.reduceMul, Nat.reduceLeDiff, Nat.reduceSub, Int.reduceNeg]; rfl⟩ ?_
  rintro m f h' ⟨k, hm, rfl, f0, f1, f5⟩
  by_cases hkk : k < n
  · have e1 := h3 k _ (mks_get gAct 3 k0 n k hkk)
    have p0 := ldc_part e1 0 1 (by omega)
    have p1 := ldc_part e1 1 1 (by omega)
    have p2 := ldc_part e1 2 1 (by omega)
    simp only [List.drop_zero, List.drop_succ_cons, List.take_succ_cons, List.take_zero, Nat.add_zero] at p0 p1 p2
    have kq0 : IntKind.i64.wrap (k0 + ((3 * k : Nat) : Int)) = k0 + ((3 * k : Nat) : Int) := wrap_i64 (by omega) (by omega)
    have kq1 : IntKind.i64.wrap (k0 + ((3 * k : Nat) : Int) + 1) = k0 + ((3 * k : Nat) : Int) + 1 := wrap_i64 (by omega) (by omega)
    have kq2 : IntKind.i64.wrap (k0 + ((3 * k : Nat) : Int) + 1 + 1) = k0 + ((3 * k : Nat) : Int) + 2 := by rw [wrap_i64 (by omega) (by omega)]; omega
    have kq4 : IntKind.i64.wrap (k0 + ((3 * k : Nat) : Int) + 2 + 1) = k0 + ((3 * (k + 1) : Nat) : Int) := by rw [wrap_i64 (by omega) (by omega)]; omega
    simp -implicitDefEqProofs only [go_sem, ↓reduceIte, reduceCtorEq, Int.reduceEq, Int.reduceLT, Int.reduceLE, Nat.reduceEqDiff, Nat.reduceAdd, Nat.reduceMul, Nat.reduceLeDiff, Nat.reduceSub, Int.reduceNeg, f0, f1, f5, hkk, h2, p0, p1, p2, Int.ofNat_lt, Int.natCast_nonneg, kq0, kq1, kq2]
    refine (markText_pc _ (k0 + (3 * k : Nat) + 2) (by omega)).use ?_
    simp -implicitDefEqProofs only [go_sem, ↓reduceIte, reduceCtorEq, Int.reduceEq, Int.reduceLT, Int.reduceLE, Nat.reduceEqDiff, Nat.reduceAdd, Nat.reduceMul, Nat.reduceLeDiff, Nat.reduceSub, Int.reduceNeg, f0, f1, f5, wrap_i64 (show -(9223372036854775808 : Int) ≤ ((k : Int) + 1) by omega) (show ((k : Int) + 1) < 9223372036854775808 by omega), kq4]
    exact ⟨m - 1, by omega, _, Ext.refl _, k + 1, by omega, rfl, rfl, rfl⟩
  · have e : k = n := by omega
    subst e
    simp -implicitDefEqProofs only [go_sem, ↓reduceIte, reduceCtorEq, Int.reduceEq, Int.reduceLT, Int.reduceLE, Nat.reduceEqDiff, Nat.reduceAdd, Nat.reduceMul, Nat.reduceLeDiff, Nat.reduceSub, Int.reduceNeg, f0, f1, f5, Int.ofNat_lt, Nat.lt_irrefl]
end Go.Proofs.YthheclnjaemjnaaGreat
