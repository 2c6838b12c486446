/- A helper of this seat's claims (contracts of the functions): what it shows is shown for every input that its statements name, on no other condition. -/
import Derived.Test.YtiokibikhanfcaaGreatC10t
import Derived.Test.YtiokibikhanfcaaGreatC0
import Derived.Test.YtiokibikhanfcaaGreatKD
set_option linter.unusedVariables false
set_option linter.unusedSimpArgs false
set_option maxRecDepth 100000
namespace Go.Proofs.YtiokibikhanfcaaGreat
open Go.KH

/-! ## Marks of moves; plans out -/
abbrev gMove (k : Int) : List Value := [i64 k, i64 (k + 1), i64 (k + 2), i64 (k + 3)]
/-- laws.markMoveS -/
def b_laws_markMoveS : C := (.seq (.ops [q 4 (.mv (.c (i64 0)))])
 (.seq (.seq (.ops [q 5 (.mv (.c (i64 0)))])
 (.block 0 (.loop (.seq (.seq (.ops [q 6 (.mv (.t 5)), q 7 (.mv (.t 0)), q 8 (.len (.t 7)), q 9 (.bin .lss (.t 6) (.t 8))])
 (.cond (.t 9) .skip (.exit 0)))
 (.seq (.block 1 (.seq (.ops [q 12 (.mv (.t 0)), q 13 (.mv (.t 5)), q 14 (.mv (.t 1)), q 15 (.idx 4 (.t 12) (.t 13)), q 16 (.fld 0 (.t 15)), ⟨none, none, .st 1 (.t 16) (.t 14)⟩])
 (.seq (.ops [q 17 (.mv (.t 1)), q 18 (.bin .add (.t 17) (.c (i64 1))), q 1 (.mv (.t 18))])
 (.seq (.ops [q 19 (.mv (.t 0)), q 20 (.mv (.t 5)), q 21 (.mv (.t 1)), q 22 (.idx 4 (.t 19) (.t 20)), q 23 (.fld 1 (.t 22)), ⟨none, none, .st 1 (.t 23) (.t 21)⟩])
 (.seq (.ops [q 24 (.mv (.t 1)), q 25 (.bin .add (.t 24) (.c (i64 1))), q 1 (.mv (.t 25))])
 (.seq (.ops [q 26 (.mv (.t 0)), q 27 (.mv (.t 5)), q 28 (.mv (.t 1)), q 29 (.idx 4 (.t 26) (.t 27)), q 30 (.fld 2 (.t 29)), ⟨none, none, .st 1 (.t 30) (.t 28)⟩])
 (.seq (.ops [q 31 (.mv (.t 1)), q 32 (.bin .add (.t 31) (.c (i64 1))), q 1 (.mv (.t 32))])
 (.seq (.ops [q 33 (.mv (.t 0)), q 34 (.mv (.t 5)), q 35 (.mv (.t 1)), q 36 (.idx 4 (.t 33) (.t 34)), q 37 (.fld 3 (.t 36)), ⟨none, none, .st 1 (.t 37) (.t 35)⟩])
 (.ops [q 38 (.mv (.t 1)), q 39 (.bin .add (.t 38) (.c (i64 1))), q 1 (.mv (.t 39))])))))))))
 (.ops [q 10 (.mv (.t 5)), q 11 (.bin .add (.t 10) (.c (i64 1))), q 5 (.mv (.t 11))]))))))
 (.seq (.ops [q 40 (.mv (.t 1)), q 4 (.mv (.t 40))])
 .ret)))
theorem w_laws_markMoveS {args : List Value} {h : H} {Q : Value → H → Prop} (hl : args.length ≤ 41) (hk : wpc Tryz.prog b_laws_markMoveS (retw [.tmp 4] Q) (argsFr args) h) : AC Tryz.prog 16 args h Q :=
  AC.of_wpc mixedOrders Tryz.func16 (by kernel_rfl) (by kernel_rfl : prepF Tryz.prog Tryz.f16 = some ⟨41, [.tmp 4], b_laws_markMoveS⟩) hl hk

theorem markMoveS_ac {h0 h : H} {v : Value} {l : List UMove} {k0 : Int} (hv : Fre h0 h v 4 (l.map UMove.cells)) (hn : l.length ≤ 2097152) (hk : 1 ≤ k0 ∧ k0 ≤ 16777216) :
    AC Tryz.prog 16 [v, i64 k0] h fun r h' => r = i64 (k0 + (4 * l.length : Nat)) ∧ Keep (fun b => blk v = some b) h h' ∧ Fre h0 h' v 4 (mks gMove 4 k0 l.length) := by
  have hll : (l.map UMove.cells).length = l.length := by simp
  rcases fre_cases hv with ⟨a, c, rfl, hr⟩ | ⟨b, c, cells, z, rfl, hlc, hb, h0b, hg, hw, hbl⟩
  · have hl0 : l = [] := List.map_eq_nil_iff.1 hr
    subst hl0
    refine w_laws_markMoveS (by simp) ?_
    unfold b_laws_markMoveS
    simp -implicitDefEqProofs only [go_sem, ↓reduceIte, reduceCtorEq, Int.reduceEq, Int.reduceLT, Int.reduceLE, Nat.reduceEqDiff, Nat.reduceAdd, Nat.reduceMul, Nat.reduceLeDiff, Nat.reduceSub, Int.reduceNeg, Int.lt_irrefl]
    refine loopW_of (fun m f h' => h' = h ∧ f 0 = .slice a 0 c ∧ f 1 = i64 k0 ∧ f 5 = i64 0) 0 ⟨rfl, by simp -implicitDefEqProofs only [go_sem, ↓reduceIte, reduceCtorEq, Int.reduceEq, Int.reduceLT, Int.reduceLE, Nat.reduceEqDiff, Nat.reduceAdd, Nat.reduceMul, Nat.reduceLeDiff, Nat.reduceSub, Int.reduceNeg], by simp -implicitDefEqProofs only [go_sem, ↓reduceIte, reduceCtorEq, Int.reduceEq, Int.reduceLT, Int.reduceLE, Nat.reduceEqDiff, Nat.reduceAdd, Nat.reduceMul, Nat.reduceLeDiff, Nat.reduceSub, Int.reduceNeg], by simp -implicitDefEqProofs only [go_sem, ↓reduceIte, reduceCtorEq, Int.reduceEq, Int.reduceLT, Int.reduceLE, Nat.reduceEqDiff, Nat.reduceAdd, Nat.reduceMul, Nat.reduceLeDiff, Nat.reduceSub, Int.reduceNeg]⟩ ?_
    rintro m f h' ⟨rfl, f0, f1, f5⟩
    simp -implicitDefEqProofs only [go_sem, ↓reduceIte, reduceCtorEq, Int.reduceEq, Int.reduceLT, Int.reduceLE, Nat.reduceEqDiff, Nat.reduceAdd, Nat.reduceMul, Nat.reduceLeDiff, Nat.reduceSub, Int.reduceNeg, f0, f1, f5, Int.lt_irrefl, Int.ofNat_lt, Nat.lt_irrefl, show ((0 : Nat) : Int) = 0 from rfl]
    exact ⟨by simp, Keep.refl _ _, .inl ⟨a, c, rfl, by simp [mks]⟩⟩
  · have hw1 : ∀ k, (gMove k).length = 4 := fun _ => rfl
    have hfl := flat_length hw
    rw [hll] at hlc hfl hbl
    rw [hll]
    rw [hll] at hv
    refine w_laws_markMoveS (by simp) ?_
    unfold b_laws_markMoveS
    simp -implicitDefEqProofs only [go_sem, ↓reduceIte, reduceCtorEq, Int.reduceEq, Int.reduceLT, Int.reduceLE, Nat.reduceEqDiff, Nat.reduceAdd, Nat.reduceMul, Nat.reduceLeDiff, Nat.reduceSub, Int.reduceNeg]
    refine loopW_of (fun m f h' => ∃ k B, m + k = l.length ∧ h' = h.set b ⟨(mks gMove 4 k0 k).flatten ++ B, z⟩ ∧ B.length = m * 4 + cells.length ∧ f 0 = sl b 0 l.length c ∧ f 1 = i64 (k0 + (4 * k : Nat)) ∧ f 5 = i64 k) l.length
      ⟨0, (l.map UMove.cells).flatten ++ cells, by simp, ?_, by simp only [List.length_append, hfl], by simp -implicitDefEqProofs only [go_sem, ↓reduceIte, reduceCtorEq, Int.reduceEq, Int.reduceLT, Int.reduceLE, Nat.reduceEqDiff, Nat.reduceAdd, Nat.reduceMul, Nat.reduceLeDiff, Nat.reduceSub, Int.reduceNeg], by simp -implicitDefEqProofs only [go_sem, ↓reduceIte, reduceCtorEq, Int.reduceEq, Int.reduceLT, Int.reduceLE, Nat.reduceEqDiff, Nat.reduceAdd, Nat.reduceMul, Nat.reduceLeDiff, Nat.reduceSub, Int.reduceNeg]; simp, by simp -implicitDefEqProofs only [go_sem, ↓reduceIte, reduceCtorEq, Int.reduceEq, Int.reduceLT, Int.reduceLE, Nat.reduceEqDiff, Nat.reduceAdd, Nat.reduceMul, Nat.reduceLeDiff, Nat.reduceSub, Int.reduceNeg]; rfl⟩ ?_
    · simp only [mks, List.range_zero, List.map_nil, List.flatten_nil, List.nil_append]
      exact (H.set_id hg).symm
    rintro m f h' ⟨k, B, hm, rfl, hB, f0, f1, f5⟩
    have hml : (mks gMove 4 k0 k).flatten.length = k * 4 := by rw [flat_length (mks_wid hw1 _ _ _), mks_len]
    by_cases hkk : k < l.length
    · obtain ⟨x0, x1, x2, x3, B', rfl⟩ : ∃ x0 x1 x2 x3 B', B = x0 :: x1 :: x2 :: x3 :: B' := by
        match B, hB with
        | x0 :: x1 :: x2 :: x3 :: B', _ => exact ⟨x0, x1, x2, x3, B', rfl⟩
        | [], hB | [_], hB | [_, _], hB | [_, _, _], hB => simp only [List.length_cons, List.length_nil] at hB; omega
      simp only [List.length_cons] at hB
      have hsp0 : ∀ B r, splice ((mks gMove 4 k0 k).flatten ++ B) (k * 4) r = (mks gMove 4 k0 k).flatten ++ splice B 0 r := fun B r => splice_app _ _ _ 0 (by omega)
      have hsp : ∀ B r j, splice ((mks gMove 4 k0 k).flatten ++ B) (k * 4 + j) r = (mks gMove 4 k0 k).flatten ++ splice B j r := fun B r j => splice_app _ _ _ j (by omega)
      have kq1 : IntKind.i64.wrap (k0 + ((4 * k : Nat) : Int) + 1) = k0 + ((4 * k : Nat) : Int) + 1 := wrap_i64 (by omega) (by omega)
      have kq2 : IntKind.i64.wrap (k0 + ((4 * k : Nat) : Int) + 1 + 1) = k0 + ((4 * k : Nat) : Int) + 2 := by rw [wrap_i64 (by omega) (by omega)]; omega
      have kq3 : IntKind.i64.wrap (k0 + ((4 * k : Nat) : Int) + 2 + 1) = k0 + ((4 * k : Nat) : Int) + 3 := by rw [wrap_i64 (by omega) (by omega)]; omega
      have kq4 : IntKind.i64.wrap (k0 + ((4 * k : Nat) : Int) + 3 + 1) = k0 + ((4 * (k + 1) : Nat) : Int) := by rw [wrap_i64 (by omega) (by omega)]; omega
      have q0 : k * 4 + 1 ≤ k * 4 + (B'.length + 1 + 1 + 1 + 1) := by omega
      have q1 : k * 4 + 1 + 1 ≤ k * 4 + (B'.length + 1 + 1 + 1 + 1) := by omega
      have q2 : k * 4 + 2 + 1 ≤ k * 4 + (B'.length + 1 + 1 + 1 + 1) := by omega
      have q3 : k * 4 + 3 + 1 ≤ k * 4 + (B'.length + 1 + 1 + 1 + 1) := by omega
      simp -implicitDefEqProofs only [go_sem, ↓reduceIte, reduceCtorEq, Int.reduceEq, Int.reduceLT, Int.reduceLE, Nat.reduceEqDiff, Nat.reduceAdd, Nat.reduceMul, Nat.reduceLeDiff, Nat.reduceSub, Int.reduceNeg, f0, f1, f5, hkk, hb, hsp0, hsp, Int.ofNat_lt, Int.natCast_nonneg, List.length_append, hml, q0, q1, q2, q3, kq1, kq2, kq3, kq4, wrap_i64 (show -(9223372036854775808 : Int) ≤ ((k : Int) + 1) by omega) (show ((k : Int) + 1) < 9223372036854775808 by omega)]
      refine ⟨m - 1, by omega, _, Ext.refl _, k + 1, B', by omega, ?_, by omega, rfl, rfl⟩
      rw [mks_succ]; simp
    · have e : k = l.length := by omega
      subst e
      simp -implicitDefEqProofs only [go_sem, ↓reduceIte, reduceCtorEq, Int.reduceEq, Int.reduceLT, Int.reduceLE, Nat.reduceEqDiff, Nat.reduceAdd, Nat.reduceMul, Nat.reduceLeDiff, Nat.reduceSub, Int.reduceNeg, f0, f1, f5, Int.ofNat_lt, Nat.lt_irrefl]
      exact ⟨(Keep.refl _ h).set (.inl hbl) _, .inr ⟨b, c, _, by rw [mks_len], by rw [mks_len]; exact hlc, hb, h0b, H.set_get_same _ _ _, List.prefix_append _ _, mks_wid hw1 _ _ _⟩⟩
/-- laws.heldMoveS -/
def b_laws_heldMoveS : C := (.seq (.ops [q 4 (.mv (.c (i64 0)))])
 (.seq (.seq (.ops [q 5 (.mv (.c (i64 0)))])
 (.block 0 (.loop (.seq (.seq (.ops [q 6 (.mv (.t 5)), q 7 (.mv (.t 0)), q 8 (.len (.t 7)), q 9 (.bin .lss (.t 6) (.t 8))])
 (.cond (.t 9) .skip (.exit 0)))
 (.seq (.block 1 (.seq (.seq (.ops [q 12 (.mv (.t 0)), q 13 (.mv (.t 5)), q 14 (.idx 4 (.t 12) (.t 13)), q 15 (.fld 0 (.t 14)), q 16 (.ld false 1 (.t 15)), q 17 (.mv (.t 1)), q 18 (.bin .neq (.t 16) (.t 17))])
 (.cond (.t 18) (.seq (.ops [q 4 (.mv (.c (i64 (-1))))])
 .ret) .skip))
 (.seq (.ops [q 19 (.mv (.t 1)), q 20 (.bin .add (.t 19) (.c (i64 1))), q 1 (.mv (.t 20))])
 (.seq (.seq (.ops [q 21 (.mv (.t 0)), q 22 (.mv (.t 5)), q 23 (.idx 4 (.t 21) (.t 22)), q 24 (.fld 1 (.t 23)), q 25 (.ld false 1 (.t 24)), q 26 (.mv (.t 1)), q 27 (.bin .neq (.t 25) (.t 26))])
 (.cond (.t 27) (.seq (.ops [q 4 (.mv (.c (i64 (-1))))])
 .ret) .skip))
 (.seq (.ops [q 28 (.mv (.t 1)), q 29 (.bin .add (.t 28) (.c (i64 1))), q 1 (.mv (.t 29))])
 (.seq (.seq (.ops [q 30 (.mv (.t 0)), q 31 (.mv (.t 5)), q 32 (.idx 4 (.t 30) (.t 31)), q 33 (.fld 2 (.t 32)), q 34 (.ld false 1 (.t 33)), q 35 (.mv (.t 1)), q 36 (.bin .neq (.t 34) (.t 35))])
 (.cond (.t 36) (.seq (.ops [q 4 (.mv (.c (i64 (-1))))])
 .ret) .skip))
 (.seq (.ops [q 37 (.mv (.t 1)), q 38 (.bin .add (.t 37) (.c (i64 1))), q 1 (.mv (.t 38))])
 (.seq (.seq (.ops [q 39 (.mv (.t 0)), q 40 (.mv (.t 5)), q 41 (.idx 4 (.t 39) (.t 40)), q 42 (.fld 3 (.t 41)), q 43 (.ld false 1 (.t 42)), q 44 (.mv (.t 1)), q 45 (.bin .neq (.t 43) (.t 44))])
 (.cond (.t 45) (.seq (.ops [q 4 (.mv (.c (i64 (-1))))])
 .ret) .skip))
 (.ops [q 46 (.mv (.t 1)), q 47 (.bin .add (.t 46) (.c (i64 1))), q 1 (.mv (.t 47))])))))))))
 (.ops [q 10 (.mv (.t 5)), q 11 (.bin .add (.t 10) (.c (i64 1))), q 5 (.mv (.t 11))]))))))
 (.seq (.ops [q 48 (.mv (.t 1)), q 4 (.mv (.t 48))])
 .ret)))
theorem w_laws_heldMoveS {args : List Value} {h : H} {Q : Value → H → Prop} (hl : args.length ≤ 49) (hk : wpc Tryz.prog b_laws_heldMoveS (retw [.tmp 4] Q) (argsFr args) h) : AC Tryz.prog 17 args h Q :=
  AC.of_wpc mixedOrders Tryz.func17 (by kernel_rfl) (by kernel_rfl : prepF Tryz.prog Tryz.f17 = some ⟨49, [.tmp 4], b_laws_heldMoveS⟩) hl hk

theorem heldMoveS_pc {h : H} {v : Value} {n : Nat} {k0 : Int} (hv : Sl h v 4 (mks gMove 4 k0 n)) (hn : n ≤ 2097152) (hk : 1 ≤ k0 ∧ k0 ≤ 16777216) : PC Tryz.prog 17 [v, i64 k0] h (i64 (k0 + (4 * n : Nat))) := by
  obtain ⟨a, c, b, o, rfl, hcap, h2, h3⟩ := hv
  rw [mks_len] at h2 hcap
  refine w_laws_heldMoveS (by simp) ?_
  unfold b_laws_heldMoveS
  simp -implicitDefEqProofs only [go_sem, ↓reduceIte, reduceCtorEq, Int.reduceEq, Int.reduceLT, Int.reduceLE, Nat.reduceEqDiff, Nat.reduceAdd, Nat.reduceMul, Nat.reduceLeDiff, Nat.reduceSub, Int.reduceNeg, mks_len]
  refine loopW_of (fun m f h' => ∃ k, m + k = n ∧ h' = h ∧ f 0 = .slice a n c ∧ f 1 = i64 (k0 + (4 * k : Nat)) ∧ f 5 = i64 k) n ⟨0, by simp, rfl, by simp -implicitDefEqProofs only [go_sem, ↓reduceIte, reduceCtorEq, Int.reduceEq, Int.reduceLT, Int.reduceLE, Nat.reduceEqDiff, Nat.reduceAdd, Nat.reduceMul, Nat.reduceLeDiff, Nat.reduceSub, Int.reduceNeg, mks_len], by simp -implicitDefEqProofs only [go_sem, ↓reduceIte, reduceCtorEq, Int.reduceEq, Int.reduceLT, Int.reduceLE, Nat.reduceEqDiff, Nat.reduceAdd, Nat.reduceMul, Nat.reduceLeDiff, Nat.reduceSub, Int.reduceNeg]; simp, by simp -implicitDefEqProofs only [go_sem, ↓reduceIte, reduceCtorEq, Int.reduceEq, Int.reduceLT, Int.reduceLE, Nat.reduceEqDiff, Nat.reduceAdd, Nat.reduceMul, Nat.reduceLeDiff, Nat.reduceSub, Int.reduceNeg]; rfl⟩ ?_
  rintro m f h' ⟨k, hm, rfl, f0, f1, f5⟩
  by_cases hkk : k < n
  · have e1 := h3 k _ (mks_get gMove 4 k0 n k hkk)
    have p0 := ldc_part e1 0 1 (by omega)
    have p1 := ldc_part e1 1 1 (by omega)
    have p2 := ldc_part e1 2 1 (by omega)
    have p3 := ldc_part e1 3 1 (by omega)
    simp only [List.drop_zero, List.drop_succ_cons, List.take_succ_cons, List.take_zero, Nat.add_zero] at p0 p1 p2 p3
    have kq1 : IntKind.i64.wrap (k0 + ((4 * k : Nat) : Int) + 1) = k0 + ((4 * k : Nat) : Int) + 1 := wrap_i64 (by omega) (by omega)
    have kq2 : IntKind.i64.wrap (k0 + ((4 * k : Nat) : Int) + 1 + 1) = k0 + ((4 * k : Nat) : Int) + 2 := by rw [wrap_i64 (by omega) (by omega)]; omega
    have kq3 : IntKind.i64.wrap (k0 + ((4 * k : Nat) : Int) + 2 + 1) = k0 + ((4 * k : Nat) : Int) + 3 := by rw [wrap_i64 (by omega) (by omega)]; omega
    have kq4 : IntKind.i64.wrap (k0 + ((4 * k : Nat) : Int) + 3 + 1) = k0 + ((4 * (k + 1) : Nat) : Int) := by rw [wrap_i64 (by omega) (by omega)]; omega
    simp -implicitDefEqProofs only [go_sem, ↓reduceIte, reduceCtorEq, Int.reduceEq, Int.reduceLT, Int.reduceLE, Nat.reduceEqDiff, Nat.reduceAdd, Nat.reduceMul, Nat.reduceLeDiff, Nat.reduceSub, Int.reduceNeg, f0, f1, f5, hkk, h2, p0, p1, p2, p3, Int.ofNat_lt, Int.natCast_nonneg, kq1, kq2, kq3, kq4, wrap_i64 (show -(9223372036854775808 : Int) ≤ ((k : Int) + 1) by omega) (show ((k : Int) + 1) < 9223372036854775808 by omega)]
    exact ⟨m - 1, by omega, _, Ext.refl _, k + 1, by omega, rfl, rfl, rfl⟩
  · have e : k = n := by omega
    subst e
    simp -implicitDefEqProofs only [go_sem, ↓reduceIte, reduceCtorEq, Int.reduceEq, Int.reduceLT, Int.reduceLE, Nat.reduceEqDiff, Nat.reduceAdd, Nat.reduceMul, Nat.reduceLeDiff, Nat.reduceSub, Int.reduceNeg, f0, f1, f5, Int.ofNat_lt, Nat.lt_irrefl]
end Go.Proofs.YtiokibikhanfcaaGreat
