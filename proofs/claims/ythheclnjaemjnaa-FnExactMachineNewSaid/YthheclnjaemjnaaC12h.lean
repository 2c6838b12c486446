/- A helper of this seat's claims (contracts of the functions): what it shows is shown for every input that its statements name, on no other condition. -/
import Derived.Test.YthheclnjaemjnaaC12
set_option linter.unusedVariables false
set_option linter.unusedSimpArgs false
set_option maxRecDepth 100000
namespace Go.Proofs.Ythheclnjaemjnaa
open Go.KH

/-! ## The laws' helpers for states -/
/-- The cells of a state whose lists are slices. -/
def StR (h : H) (cs : List Value) (s : UState) : Prop := ∃ vh vm, cs = s.cells vh vm ∧ Sl h vh 1 (ints s.held) ∧ Sl h vm 1 (ints s.mine)
/-- The same, of the call's own memory. -/
def StF (h0 h : H) (cs : List Value) (s : UState) : Prop := ∃ vh vm, cs = s.cells vh vm ∧ Fre h0 h vh 1 (ints s.held) ∧ Fre h0 h vm 1 (ints s.mine) ∧ Dj vh vm
theorem StF.r {h0 h : H} {cs : List Value} {s : UState} (f : StF h0 h cs s) : StR h cs s := by obtain ⟨vh, vm, rfl, a, b, _⟩ := f; exact ⟨vh, vm, rfl, a.sl, b.sl⟩
theorem StR.ext {h h' : H} {cs : List Value} {s : UState} (f : StR h cs s) (e : Ext h h') : StR h' cs s := by obtain ⟨vh, vm, rfl, a, b⟩ := f; exact ⟨vh, vm, rfl, a.ext e, b.ext e⟩
theorem StF.ext {h0 h h' : H} {cs : List Value} {s : UState} (f : StF h0 h cs s) (e : Ext h h') : StF h0 h' cs s := by obtain ⟨vh, vm, rfl, a, b, d⟩ := f; exact ⟨vh, vm, rfl, a.ext e, b.ext e, d⟩
/-- laws.eqState -/
def b_laws_eqState : C := (.seq (.ops [⟨(some 2), none, .box (.t 0)⟩, ⟨(some 3), none, .box (.t 1)⟩, q 4 (.mv (.c (.bool false)))])
 (.seq (.seq (.ops [q 5 (.fld 0 (.t 2)), q 6 (.ld false 1 (.t 5)), q 7 (.fld 0 (.t 3)), q 8 (.ld false 1 (.t 7)), q 9 (.bin .neq (.t 6) (.t 8))])
 (.cond (.t 9) (.seq (.ops [q 4 (.mv (.c (.bool false)))])
 .ret) .skip))
 (.seq (.seq (.ops [q 10 (.fld 1 (.t 2)), q 11 (.ld false 1 (.t 10)), q 12 (.fld 1 (.t 3)), q 13 (.ld false 1 (.t 12)), q 14 (.bin .neq (.t 11) (.t 13))])
 (.cond (.t 14) (.seq (.ops [q 4 (.mv (.c (.bool false)))])
 .ret) .skip))
 (.seq (.seq (.ops [q 15 (.fld 2 (.t 2)), q 16 (.ld false 1 (.t 15)), q 17 (.fld 2 (.t 3)), q 18 (.ld false 1 (.t 17)), q 19 (.bin .neq (.t 16) (.t 18))])
 (.cond (.t 19) (.seq (.ops [q 4 (.mv (.c (.bool false)))])
 .ret) .skip))
 (.seq (.seq (.ops [q 20 (.fld 3 (.t 2)), q 21 (.ld false 1 (.t 20)), q 22 (.fld 3 (.t 3)), q 23 (.ld false 1 (.t 22)), q 24 (.bin .neq (.t 21) (.t 23))])
 (.cond (.t 24) (.seq (.ops [q 4 (.mv (.c (.bool false)))])
 .ret) .skip))
 (.seq (.seq (.ops [q 25 (.fld 4 (.t 2)), q 26 (.ld false 1 (.t 25)), q 27 (.fld 4 (.t 3)), q 28 (.ld false 1 (.t 27)), q 29 (.bin .neq (.t 26) (.t 28))])
 (.cond (.t 29) (.seq (.ops [q 4 (.mv (.c (.bool false)))])
 .ret) .skip))
 (.seq (.seq (.ops [q 30 (.fld 5 (.t 2)), q 31 (.ld false 1 (.t 30)), q 32 (.fld 5 (.t 3)), q 33 (.ld false 1 (.t 32)), q 34 (.bin .neq (.t 31) (.t 33))])
 (.cond (.t 34) (.seq (.ops [q 4 (.mv (.c (.bool false)))])
 .ret) .skip))
 (.seq (.seq (.ops [q 35 (.fld 6 (.t 2)), q 36 (.ld false 1 (.t 35)), q 37 (.fld 6 (.t 3)), q 38 (.ld false 1 (.t 37)), ⟨(some 39), none, .call (.c (.func (.func 196) #[] #[])) [(.t 36), (.t 38)]⟩, q 40 (.un .not (.t 39))])
 (.cond (.t 40) (.seq (.ops [q 4 (.mv (.c (.bool false)))])
 .ret) .skip))
 (.seq (.seq (.ops [q 41 (.fld 7 (.t 2)), q 42 (.ld false 1 (.t 41)), q 43 (.fld 7 (.t 3)), q 44 (.ld false 1 (.t 43)), ⟨(some 45), none, .call (.c (.func (.func 196) #[] #[])) [(.t 42), (.t 44)]⟩, q 46 (.un .not (.t 45))])
 (.cond (.t 46) (.seq (.ops [q 4 (.mv (.c (.bool false)))])
 .ret) .skip))
 (.seq (.ops [q 4 (.mv (.c (.bool true)))])
 .ret))))))))))
theorem w_laws_eqState {args : List Value} {h : H} {Q : Value → H → Prop} (hl : args.length ≤ 47) (hk : wpc Try.prog b_laws_eqState (retw [.tmp 4] Q) (argsFr args) h) : AC Try.prog 127 args h Q :=
  AC.of_wpc mixedOrders Try.func127 (by kernel_rfl) (by kernel_rfl : prepF Try.prog Try.f127 = some ⟨47, [.tmp 4], b_laws_eqState⟩) hl hk

theorem eqState_pc {h : H} {c1 c2 : List Value} {a b : UState} (ha : StR h c1 a) (hb : StR h c2 b) (hn : a.held.length ≤ maxLen) (hn2 : a.mine.length ≤ maxLen) : PC Try.prog 127 [.agg c1.toArray, .agg c2.toArray] h (.bool (decide (a = b))) := by
  obtain ⟨vh, vm, rfl, a1, a2⟩ := ha
  obtain ⟨uh, um, rfl, b1', b2'⟩ := hb
  obtain ⟨x1, x2, x3, x4, x5, x6, x7, x8⟩ := a
  obtain ⟨u1, u2, u3, u4, u5, u6, u7, u8⟩ := b
  refine PC_of ?_
  refine w_laws_eqState (by simp) ?_
  unfold b_laws_eqState
  simp -implicitDefEqProofs only [go_sem, ↓reduceIte, reduceCtorEq, Int.reduceEq, Int.reduceLT, Int.reduceLE, Nat.reduceEqDiff, Nat.reduceAdd, Nat.reduceMul, Nat.reduceLeDiff, Nat.reduceSub, Int.reduceNeg]
  intro b1 hb_b1 n_b1
  simp -implicitDefEqProofs only [go_sem, ↓reduceIte, reduceCtorEq, Int.reduceEq, Int.reduceLT, Int.reduceLE, Nat.reduceEqDiff, Nat.reduceAdd, Nat.reduceMul, Nat.reduceLeDiff, Nat.reduceSub, Int.reduceNeg, hb_b1]
  intro b2 hb_b2 m0_b2
  obtain ⟨z_b2_b1, y_b2_b1, n_b2⟩ := fne m0_b2
  simp only [H.set_base] at hb_b2
  simp -implicitDefEqProofs only [go_sem, ↓reduceIte, reduceCtorEq, Int.reduceEq, Int.reduceLT, Int.reduceLE, Nat.reduceEqDiff, Nat.reduceAdd, Nat.reduceMul, Nat.reduceLeDiff, Nat.reduceSub, Int.reduceNeg, hb_b1, hb_b2, z_b2_b1, y_b2_b1]
  repeat' first | (refine Br.of (fun hc => ?_) (fun hc => ?_) <;> simp -implicitDefEqProofs only [go_sem, ↓reduceIte, reduceCtorEq, Int.reduceEq, Int.reduceLT, Int.reduceLE, Nat.reduceEqDiff, Nat.reduceAdd, Nat.reduceMul, Nat.reduceLeDiff, Nat.reduceSub, Int.reduceNeg, hc, hb_b1, hb_b2, z_b2_b1, y_b2_b1]) | (refine PC.use (eqInt64S_pc (a1.ext (((Ext.refl _).set' n_b1 _).set' n_b2 _)) (b1'.ext (((Ext.refl _).set' n_b1 _).set' n_b2 _)) hn) ?_; simp -implicitDefEqProofs only [go_sem, ↓reduceIte, reduceCtorEq, Int.reduceEq, Int.reduceLT, Int.reduceLE, Nat.reduceEqDiff, Nat.reduceAdd, Nat.reduceMul, Nat.reduceLeDiff, Nat.reduceSub, Int.reduceNeg, hc, hb_b1, hb_b2, z_b2_b1, y_b2_b1]) | (refine PC.use (eqInt64S_pc (a2.ext (((Ext.refl _).set' n_b1 _).set' n_b2 _)) (b2'.ext (((Ext.refl _).set' n_b1 _).set' n_b2 _)) hn2) ?_; simp -implicitDefEqProofs only [go_sem, ↓reduceIte, reduceCtorEq, Int.reduceEq, Int.reduceLT, Int.reduceLE, Nat.reduceEqDiff, Nat.reduceAdd, Nat.reduceMul, Nat.reduceLeDiff, Nat.reduceSub, Int.reduceNeg, hc, hb_b1, hb_b2, z_b2_b1, y_b2_b1])
  all_goals exact ⟨(((Ext.refl _).set' n_b1 _).set' n_b2 _), by simp_all⟩
theorem StR.len {h : H} {cs : List Value} {s : UState} (r : StR h cs s) : cs.length = 8 := by obtain ⟨vh, vm, rfl, _, _⟩ := r; rfl
theorem StR.one {h : H} {cs : List Value} {s : UState} (r : StR h cs s) : cs.all Value.oneCell' = true := by
  obtain ⟨vh, vm, rfl, a, b⟩ := r
  simp [UState.cells, a.one, b.one, oneCell_int, oneCell_str]
theorem StR.known {h : H} {cs : List Value} {s : UState} (r : StR h cs s) : KnownL h cs := by
  obtain ⟨vh, vm, rfl, a, b⟩ := r
  intro v hv
  simp only [UState.cells, List.mem_cons, List.not_mem_nil, or_false] at hv
  rcases hv with rfl | rfl | rfl | rfl | rfl | rfl | rfl | rfl <;> first | exact a.known | exact b.known | exact Known.of_none rfl
theorem StF.new {h0 h : H} {cs : List Value} {s : UState} (r : StF h0 h cs s) : NewL h0 cs := by
  obtain ⟨vh, vm, rfl, a, b, _⟩ := r
  intro v hv
  simp only [UState.cells, List.mem_cons, List.not_mem_nil, or_false] at hv
  rcases hv with rfl | rfl | rfl | rfl | rfl | rfl | rfl | rfl <;> first | exact a.new | exact b.new | exact New.of_none rfl
theorem StR.keep {h h' : H} {cs ds : List Value} {s : UState} (r : StR h cs s) (k : Keep (blks ds) h h') (d : DjL cs ds) : StR h' cs s := by
  obtain ⟨vh, vm, rfl, a, b⟩ := r
  exact ⟨vh, vm, rfl, a.keep k (d.not (by simp)), b.keep k (d.not (by simp))⟩
theorem StF.keep {h0 h h' : H} {cs ds : List Value} {s : UState} (r : StF h0 h cs s) (k : Keep (blks ds) h h') (d : DjL cs ds) : StF h0 h' cs s := by
  obtain ⟨vh, vm, rfl, a, b, e⟩ := r
  exact ⟨vh, vm, rfl, a.keep k (d.not (by simp)), b.keep k (d.not (by simp)), e⟩
/-- A marked state. -/
def StM (h : H) (cs : List Value) (s : UState) (k0 : Int) : Prop := ∃ vh vm, cs = s.cells vh vm ∧ Sl h vh 1 (mks gInt 1 k0 s.held.length) ∧ Sl h vm 1 (mks gInt 1 (k0 + s.held.length) s.mine.length)
theorem StM.ext {h h' : H} {cs : List Value} {s : UState} {k0 : Int} (r : StM h cs s k0) (e : Ext h h') : StM h' cs s k0 := by obtain ⟨vh, vm, rfl, a, b⟩ := r; exact ⟨vh, vm, rfl, a.ext e, b.ext e⟩
def stN (s : UState) : Int := s.held.length + s.mine.length
/-- laws.markState -/
def b_laws_markState : C := (.seq (.ops [⟨(some 2), none, .box (.t 0)⟩, q 4 (.mv (.c (i64 0)))])
 (.seq (.ops [q 5 (.fld 6 (.t 2)), q 6 (.ld false 1 (.t 5)), q 7 (.mv (.t 1)), ⟨(some 8), none, .call (.c (.func (.func 198) #[] #[])) [(.t 6), (.t 7)]⟩, q 1 (.mv (.t 8))])
 (.seq (.ops [q 9 (.fld 7 (.t 2)), q 10 (.ld false 1 (.t 9)), q 11 (.mv (.t 1)), ⟨(some 12), none, .call (.c (.func (.func 198) #[] #[])) [(.t 10), (.t 11)]⟩, q 1 (.mv (.t 12))])
 (.seq (.ops [q 13 (.mv (.t 1)), q 4 (.mv (.t 13))])
 .ret))))
theorem w_laws_markState {args : List Value} {h : H} {Q : Value → H → Prop} (hl : args.length ≤ 14) (hk : wpc Try.prog b_laws_markState (retw [.tmp 4] Q) (argsFr args) h) : AC Try.prog 129 args h Q :=
  AC.of_wpc mixedOrders Try.func129 (by kernel_rfl) (by kernel_rfl : prepF Try.prog Try.f129 = some ⟨14, [.tmp 4], b_laws_markState⟩) hl hk

theorem markState_ac {h0 h : H} {cs : List Value} {s : UState} {k0 : Int} (hv : StF h0 h cs s) (hs : s.small) (hk : 0 ≤ k0 ∧ k0 ≤ 1048576) : AC Try.prog 129 [.agg cs.toArray, i64 k0] h fun r h' =>
    r = i64 (k0 + stN s) ∧ Keep (blks cs) h h' ∧ StM h' cs s k0 := by
  obtain ⟨vh, vm, rfl, f1, f2, d⟩ := hv
  obtain ⟨hs1, hs2⟩ := hs
  refine w_laws_markState (by simp) ?_
  unfold b_laws_markState
  simp -implicitDefEqProofs only [go_sem, ↓reduceIte, reduceCtorEq, Int.reduceEq, Int.reduceLT, Int.reduceLE, Nat.reduceEqDiff, Nat.reduceAdd, Nat.reduceMul, Nat.reduceLeDiff, Nat.reduceSub, Int.reduceNeg]
  intro b1 hb_b1 n_b1
  simp -implicitDefEqProofs only [go_sem, ↓reduceIte, reduceCtorEq, Int.reduceEq, Int.reduceLT, Int.reduceLE, Nat.reduceEqDiff, Nat.reduceAdd, Nat.reduceMul, Nat.reduceLeDiff, Nat.reduceSub, Int.reduceNeg, hb_b1]
  refine AC_of (markInt64S_ac (f1.ext ((Ext.refl _).set' n_b1 _)) (by omega) (by omega)) ?_
  rintro r h1 - ⟨rfl, k1, m1⟩
  have nb : ∀ b, blk vh = some b → ¬ b = b1 := fun b hb e => by subst e; exact absurd (f1.known b hb) (by rw [n_b1]; simp)
  have g1 := k1.2.1 b1 _ (fun e => nb _ e rfl) (by simp -implicitDefEqProofs only [go_sem, ↓reduceIte, reduceCtorEq, Int.reduceEq, Int.reduceLT, Int.reduceLE, Nat.reduceEqDiff, Nat.reduceAdd, Nat.reduceMul, Nat.reduceLeDiff, Nat.reduceSub, Int.reduceNeg, hb_b1]; rfl)
  simp -implicitDefEqProofs only [go_sem, ↓reduceIte, reduceCtorEq, Int.reduceEq, Int.reduceLT, Int.reduceLE, Nat.reduceEqDiff, Nat.reduceAdd, Nat.reduceMul, Nat.reduceLeDiff, Nat.reduceSub, Int.reduceNeg, ldc_get g1, hb_b1]
  refine AC_of (markInt64S_ac ((f2.ext ((Ext.refl _).set' n_b1 _)).keep k1 (fun b hb e => d b e hb)) (by omega) (by omega)) ?_
  rintro r h2 - ⟨rfl, k2, m2⟩
  simp -implicitDefEqProofs only [go_sem, ↓reduceIte, reduceCtorEq, Int.reduceEq, Int.reduceLT, Int.reduceLE, Nat.reduceEqDiff, Nat.reduceAdd, Nat.reduceMul, Nat.reduceLeDiff, Nat.reduceSub, Int.reduceNeg, hb_b1]
  refine ⟨by unfold stN; rw [Int.add_assoc], ((((Ext.refl _).set' n_b1 _)).keep _).trans ((k1.mono fun b hb => ⟨vh, by simp, hb⟩).trans (k2.mono fun b hb => ⟨vm, by simp, hb⟩)), vh, vm, rfl, (m1.keep k2 fun b hb => d b hb).sl, m2.sl⟩
/-- laws.heldState -/
def b_laws_heldState : C := (.seq (.ops [⟨(some 2), none, .box (.t 0)⟩, q 4 (.mv (.c (i64 0)))])
 (.seq (.ops [q 5 (.fld 6 (.t 2)), q 6 (.ld false 1 (.t 5)), q 7 (.mv (.t 1)), ⟨(some 8), none, .call (.c (.func (.func 199) #[] #[])) [(.t 6), (.t 7)]⟩, q 1 (.mv (.t 8))])
 (.seq (.seq (.ops [q 9 (.mv (.t 1)), q 10 (.bin .lss (.t 9) (.c (i64 0)))])
 (.cond (.t 10) (.seq (.ops [q 4 (.mv (.c (i64 (-1))))])
 .ret) .skip))
 (.seq (.ops [q 11 (.fld 7 (.t 2)), q 12 (.ld false 1 (.t 11)), q 13 (.mv (.t 1)), ⟨(some 14), none, .call (.c (.func (.func 199) #[] #[])) [(.t 12), (.t 13)]⟩, q 1 (.mv (.t 14))])
 (.seq (.seq (.ops [q 15 (.mv (.t 1)), q 16 (.bin .lss (.t 15) (.c (i64 0)))])
 (.cond (.t 16) (.seq (.ops [q 4 (.mv (.c (i64 (-1))))])
 .ret) .skip))
 (.seq (.ops [q 17 (.mv (.t 1)), q 4 (.mv (.t 17))])
 .ret))))))
theorem w_laws_heldState {args : List Value} {h : H} {Q : Value → H → Prop} (hl : args.length ≤ 18) (hk : wpc Try.prog b_laws_heldState (retw [.tmp 4] Q) (argsFr args) h) : AC Try.prog 130 args h Q :=
  AC.of_wpc mixedOrders Try.func130 (by kernel_rfl) (by kernel_rfl : prepF Try.prog Try.f130 = some ⟨18, [.tmp 4], b_laws_heldState⟩) hl hk

theorem heldState_pc {h : H} {cs : List Value} {s : UState} {k0 : Int} (hv : StM h cs s k0) (hs : s.small) (hk : 0 ≤ k0 ∧ k0 ≤ 1048576) :
    PC Try.prog 130 [.agg cs.toArray, i64 k0] h (i64 (k0 + stN s)) := by
  obtain ⟨vh, vm, rfl, hh, hm⟩ := hv
  obtain ⟨hs1, hs2⟩ := hs
  refine PC_of ?_
  refine w_laws_heldState (by simp) ?_
  unfold b_laws_heldState
  simp -implicitDefEqProofs only [go_sem, ↓reduceIte, reduceCtorEq, Int.reduceEq, Int.reduceLT, Int.reduceLE, Nat.reduceEqDiff, Nat.reduceAdd, Nat.reduceMul, Nat.reduceLeDiff, Nat.reduceSub, Int.reduceNeg]
  intro b1 hb_b1 n_b1
  simp -implicitDefEqProofs only [go_sem, ↓reduceIte, reduceCtorEq, Int.reduceEq, Int.reduceLT, Int.reduceLE, Nat.reduceEqDiff, Nat.reduceAdd, Nat.reduceMul, Nat.reduceLeDiff, Nat.reduceSub, Int.reduceNeg, hb_b1]
  refine (heldInt64S_pc (hh.ext ((Ext.refl _).set' n_b1 _)) (by omega) (by omega)).use ?_
  simp -implicitDefEqProofs only [go_sem, ↓reduceIte, reduceCtorEq, Int.reduceEq, Int.reduceLT, Int.reduceLE, Nat.reduceEqDiff, Nat.reduceAdd, Nat.reduceMul, Nat.reduceLeDiff, Nat.reduceSub, Int.reduceNeg, show ¬ (k0 + (s.held.length : Int) < 0) by omega, hb_b1]
  refine (heldInt64S_pc (hm.ext ((Ext.refl _).set' n_b1 _)) (by omega) (by omega)).use ?_
  simp -implicitDefEqProofs only [go_sem, ↓reduceIte, reduceCtorEq, Int.reduceEq, Int.reduceLT, Int.reduceLE, Nat.reduceEqDiff, Nat.reduceAdd, Nat.reduceMul, Nat.reduceLeDiff, Nat.reduceSub, Int.reduceNeg, show ¬ (k0 + (s.held.length : Int) + (s.mine.length : Int) < 0) by omega, hb_b1]
  exact ⟨((Ext.refl _).set' n_b1 _), by unfold stN; rw [Int.add_assoc]⟩
theorem ints_of (rows : List (List Value)) (h : ∀ r ∈ rows, fitsF [.int .i64] r) : ∃ l : List Int, rows = ints l ∧ ∀ n ∈ l, in64 n :=
  rows_of (fun n => [i64 n]) in64 rows fun r hr => by
    obtain ⟨_, _, rfl, h1, h⟩ := fitsF_cons (h r hr)
    obtain rfl := fitsF_nil h
    obtain ⟨a, rfl, k1⟩ := okF_i h1
    exact ⟨a, rfl, k1⟩
abbrev stLT : List LT := [.f (.int .i64), .f (.int .i64), .f (.int .i64), .f (.int .i64), .f (.int .i64), .f .str, .sl [.int .i64], .sl [.int .i64]]
def UState.ok (s : UState) : Prop := in64 s.phase ∧ in64 s.tries ∧ in64 s.need ∧ in64 s.stash ∧ in64 s.done ∧ s.digest.length ≤ maxLen ∧ s.held.length ≤ maxLen ∧ s.mine.length ≤ maxLen
theorem state_of {h : H} {cs : List Value} (q : fitsT h stLT cs) : ∃ s : UState, StR h cs s ∧ s.ok := by
  obtain ⟨_, _, rfl, h1, q⟩ := fitsT_cons q
  obtain ⟨_, _, rfl, h2, q⟩ := fitsT_cons q
  obtain ⟨_, _, rfl, h3, q⟩ := fitsT_cons q
  obtain ⟨_, _, rfl, h4, q⟩ := fitsT_cons q
  obtain ⟨_, _, rfl, h5, q⟩ := fitsT_cons q
  obtain ⟨_, _, rfl, h6, q⟩ := fitsT_cons q
  obtain ⟨v7, _, rfl, ⟨r7, s7, h7, l7⟩, q⟩ := fitsT_cons q
  obtain ⟨v8, _, rfl, ⟨r8, s8, h8, l8⟩, q⟩ := fitsT_cons q
  obtain rfl := fitsT_nil q
  obtain ⟨a1, rfl, k1⟩ := okF_i h1
  obtain ⟨a2, rfl, k2⟩ := okF_i h2
  obtain ⟨a3, rfl, k3⟩ := okF_i h3
  obtain ⟨a4, rfl, k4⟩ := okF_i h4
  obtain ⟨a5, rfl, k5⟩ := okF_i h5
  obtain ⟨a6, rfl, k6⟩ := h6
  obtain ⟨a7, rfl, -⟩ := ints_of r7 h7
  obtain ⟨a8, rfl, -⟩ := ints_of r8 h8
  exact ⟨⟨a1, a2, a3, a4, a5, a6, a7, a8⟩, ⟨v7, v8, rfl, s7, s8⟩, k1, k2, k3, k4, k5, k6, by simpa using l7, by simpa using l8⟩
end Go.Proofs.Ythheclnjaemjnaa
