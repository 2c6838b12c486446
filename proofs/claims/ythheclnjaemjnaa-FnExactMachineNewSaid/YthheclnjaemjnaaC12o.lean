/- A helper of this seat's claims (contracts of the functions): what it shows is shown for every input that its statements name, on no other condition. -/
import Derived.Test.YthheclnjaemjnaaC12r
set_option linter.unusedVariables false
set_option linter.unusedSimpArgs false
set_option maxRecDepth 100000
namespace Go.Proofs.Ythheclnjaemjnaa
open Go.KH

/-! ## What StateRead answers: the laws' helpers -/
abbrev spSto (o : UState × Int) : List Sp := [.v (i64 o.1.phase), .v (i64 o.1.tries), .v (i64 o.1.need), .v (i64 o.1.stash), .v (i64 o.1.done), .v (str o.1.digest), .s 1 (ints o.1.held), .s 1 (ints o.1.mine), .v (i64 o.2)]
abbrev spMSto (o : UState × Int) (k : Int) : List Sp := [.v (i64 o.1.phase), .v (i64 o.1.tries), .v (i64 o.1.need), .v (i64 o.1.stash), .v (i64 o.1.done), .v (str o.1.digest), .s 1 (mks gInt 1 k o.1.held.length), .s 1 (mks gInt 1 (k + o.1.held.length) o.1.mine.length), .v (i64 o.2)]
theorem sto_r {h : H} {o : UState × Int} {cs : List Value} : RepR h (spSto o) cs ↔ ∃ vh vm, cs = o.1.cells vh vm ++ [i64 o.2] ∧ Sl h vh 1 (ints o.1.held) ∧ Sl h vm 1 (ints o.1.mine) := by
  simp only [spSto, RepR_i, RepR_str, RepR_s, RepR_nil]
  constructor
  · rintro ⟨_, rfl, _, rfl, _, rfl, _, rfl, _, rfl, _, rfl, vh, _, rfl, h1, vm, _, rfl, h2, _, rfl, rfl⟩; exact ⟨vh, vm, rfl, h1, h2⟩
  · rintro ⟨vh, vm, rfl, h1, h2⟩; exact ⟨_, rfl, _, rfl, _, rfl, _, rfl, _, rfl, _, rfl, vh, _, rfl, h1, vm, _, rfl, h2, _, rfl, rfl⟩
theorem sto_m {h : H} {o : UState × Int} {cs : List Value} {k : Int} : RepR h (spMSto o k) cs ↔ ∃ vh vm, cs = o.1.cells vh vm ++ [i64 o.2] ∧ Sl h vh 1 (mks gInt 1 k o.1.held.length) ∧ Sl h vm 1 (mks gInt 1 (k + o.1.held.length) o.1.mine.length) := by
  simp only [spMSto, RepR_i, RepR_str, RepR_s, RepR_nil]
  constructor
  · rintro ⟨_, rfl, _, rfl, _, rfl, _, rfl, _, rfl, _, rfl, vh, _, rfl, h1, vm, _, rfl, h2, _, rfl, rfl⟩; exact ⟨vh, vm, rfl, h1, h2⟩
  · rintro ⟨vh, vm, rfl, h1, h2⟩; exact ⟨_, rfl, _, rfl, _, rfl, _, rfl, _, rfl, _, rfl, vh, _, rfl, h1, vm, _, rfl, h2, _, rfl, rfl⟩
theorem sto_f {h0 h : H} {o : UState × Int} {cs : List Value} : RepF h0 h (spSto o) cs ↔ StoF h0 h cs o := by
  simp only [spSto, RepF_i, RepF_str, RepF_s, RepF_nil]
  constructor
  · rintro ⟨_, rfl, _, rfl, _, rfl, _, rfl, _, rfl, _, rfl, vh, _, rfl, h1, d1, vm, _, rfl, h2, d2, _, rfl, rfl⟩; exact ⟨_, rfl, vh, vm, rfl, h1, h2, d1 vm (by simp)⟩
  · rintro ⟨_, rfl, vh, vm, rfl, h1, h2, d⟩
    simp only [UState.cells, List.cons_append, List.nil_append]
    refine ⟨_, rfl, _, rfl, _, rfl, _, rfl, _, rfl, _, rfl, vh, _, rfl, h1, ?_, vm, _, rfl, h2, ?_, _, rfl, rfl⟩
    · intro x hx
      simp only [List.mem_cons, List.not_mem_nil, or_false] at hx
      rcases hx with rfl | rfl <;> first | exact d | exact Dj.nb rfl
    · intro x hx
      simp only [List.mem_cons, List.not_mem_nil, or_false] at hx
      subst hx; exact Dj.nb rfl
/-- laws.eqStateOut -/
def b_laws_eqStateOut : C := (.seq (.ops [⟨(some 2), none, .box (.t 0)⟩, ⟨(some 3), none, .box (.t 1)⟩, q 4 (.mv (.c (.bool false)))])
 (.seq (.seq (.ops [q 5 (.fld 0 (.t 2)), q 6 (.ld true 8 (.t 5)), q 7 (.fld 0 (.t 3)), q 8 (.ld true 8 (.t 7)), ⟨(some 9), none, .call (.c (.func (.func 127) #[] #[])) [(.t 6), (.t 8)]⟩, q 10 (.un .not (.t 9))])
 (.cond (.t 10) (.seq (.ops [q 4 (.mv (.c (.bool false)))])
 .ret) .skip))
 (.seq (.seq (.ops [q 11 (.fld 8 (.t 2)), q 12 (.ld false 1 (.t 11)), q 13 (.fld 8 (.t 3)), q 14 (.ld false 1 (.t 13)), q 15 (.bin .neq (.t 12) (.t 14))])
 (.cond (.t 15) (.seq (.ops [q 4 (.mv (.c (.bool false)))])
 .ret) .skip))
 (.seq (.ops [q 4 (.mv (.c (.bool true)))])
 .ret))))
theorem w_laws_eqStateOut {args : List Value} {h : H} {Q : Value → H → Prop} (hl : args.length ≤ 16) (hk : wpc Try.prog b_laws_eqStateOut (retw [.tmp 4] Q) (argsFr args) h) : AC Try.prog 60 args h Q :=
  AC.of_wpc mixedOrders Try.func60 (by kernel_rfl) (by kernel_rfl : prepF Try.prog Try.f60 = some ⟨16, [.tmp 4], b_laws_eqStateOut⟩) hl hk

theorem eqStateOut_pc {h : H} {c1 c2 : List Value} {a b : UState × Int} (ha : RepR h (spSto a) c1) (hb : RepR h (spSto b) c2) (hn : a.1.held.length ≤ maxLen ∧ a.1.mine.length ≤ maxLen) : PC Try.prog 60 [.agg c1.toArray, .agg c2.toArray] h (.bool (decide (a = b))) := by
  obtain ⟨v1, v2, rfl, p1, p2⟩ := sto_r.1 ha
  obtain ⟨u1, u2, rfl, q1, q2⟩ := sto_r.1 hb
  obtain ⟨x1, x2⟩ := a
  obtain ⟨w1, w2⟩ := b
  refine PC_of ?_
  refine w_laws_eqStateOut (by simp) ?_
  unfold b_laws_eqStateOut
  simp -implicitDefEqProofs only [go_sem, ↓reduceIte, reduceCtorEq, Int.reduceEq, Int.reduceLT, Int.reduceLE, Nat.reduceEqDiff, Nat.reduceAdd, Nat.reduceMul, Nat.reduceLeDiff, Nat.reduceSub, Int.reduceNeg]
  intro b1 hb_b1 n_b1
  simp -implicitDefEqProofs only [go_sem, ↓reduceIte, reduceCtorEq, Int.reduceEq, Int.reduceLT, Int.reduceLE, Nat.reduceEqDiff, Nat.reduceAdd, Nat.reduceMul, Nat.reduceLeDiff, Nat.reduceSub, Int.reduceNeg, hb_b1]
  intro b2 hb_b2 m0_b2
  obtain ⟨z_b2_b1, y_b2_b1, n_b2⟩ := fne m0_b2
  simp only [H.set_base] at hb_b2
  simp -implicitDefEqProofs only [go_sem, ↓reduceIte, reduceCtorEq, Int.reduceEq, Int.reduceLT, Int.reduceLE, Nat.reduceEqDiff, Nat.reduceAdd, Nat.reduceMul, Nat.reduceLeDiff, Nat.reduceSub, Int.reduceNeg, hb_b1, hb_b2, z_b2_b1, y_b2_b1]
  refine (eqState_pc ⟨v1, v2, rfl, p1.ext (((Ext.refl _).set' n_b1 _).set' n_b2 _), p2.ext (((Ext.refl _).set' n_b1 _).set' n_b2 _)⟩ ⟨u1, u2, rfl, q1.ext (((Ext.refl _).set' n_b1 _).set' n_b2 _), q2.ext (((Ext.refl _).set' n_b1 _).set' n_b2 _)⟩ hn.1 hn.2).use ?_
  simp -implicitDefEqProofs only [go_sem, ↓reduceIte, reduceCtorEq, Int.reduceEq, Int.reduceLT, Int.reduceLE, Nat.reduceEqDiff, Nat.reduceAdd, Nat.reduceMul, Nat.reduceLeDiff, Nat.reduceSub, Int.reduceNeg, hb_b1, hb_b2, z_b2_b1, y_b2_b1]
  repeat' first | (refine Br.of (fun hc => ?_) (fun hc => ?_) <;> simp -implicitDefEqProofs only [go_sem, ↓reduceIte, reduceCtorEq, Int.reduceEq, Int.reduceLT, Int.reduceLE, Nat.reduceEqDiff, Nat.reduceAdd, Nat.reduceMul, Nat.reduceLeDiff, Nat.reduceSub, Int.reduceNeg, hc, hb_b1, hb_b2, z_b2_b1, y_b2_b1])
  all_goals exact ⟨(((Ext.refl _).set' n_b1 _).set' n_b2 _), by simp_all⟩
/-- laws.markStateOut -/
def b_laws_markStateOut : C := (.seq (.ops [⟨(some 2), none, .box (.t 0)⟩, q 4 (.mv (.c (i64 0)))])
 (.seq (.ops [q 5 (.fld 0 (.t 2)), q 6 (.ld true 8 (.t 5)), q 7 (.mv (.t 1)), ⟨(some 8), none, .call (.c (.func (.func 129) #[] #[])) [(.t 6), (.t 7)]⟩, q 1 (.mv (.t 8))])
 (.seq (.ops [q 9 (.mv (.t 1)), q 4 (.mv (.t 9))])
 .ret)))
theorem w_laws_markStateOut {args : List Value} {h : H} {Q : Value → H → Prop} (hl : args.length ≤ 10) (hk : wpc Try.prog b_laws_markStateOut (retw [.tmp 4] Q) (argsFr args) h) : AC Try.prog 62 args h Q :=
  AC.of_wpc mixedOrders Try.func62 (by kernel_rfl) (by kernel_rfl : prepF Try.prog Try.f62 = some ⟨10, [.tmp 4], b_laws_markStateOut⟩) hl hk

theorem markStateOut_ac {h0 h : H} {o : UState × Int} {cs : List Value} {k0 : Int} (hv : RepF h0 h (spSto o) cs) (hs : o.1.small) (hk : 1 ≤ k0 ∧ k0 ≤ 1048576) :
    AC Try.prog 62 [.agg cs.toArray, i64 k0] h fun r h' => r = i64 (k0 + stN o.1) ∧ Keep (blks cs) h h' ∧ RepR h' (spMSto o k0) cs := by
  obtain ⟨_, rfl, f⟩ := sto_f.1 hv
  have f' := f
  obtain ⟨vh, vm, rfl, f1, f2, d⟩ := f
  refine w_laws_markStateOut (by simp) ?_
  unfold b_laws_markStateOut
  simp -implicitDefEqProofs only [go_sem, ↓reduceIte, reduceCtorEq, Int.reduceEq, Int.reduceLT, Int.reduceLE, Nat.reduceEqDiff, Nat.reduceAdd, Nat.reduceMul, Nat.reduceLeDiff, Nat.reduceSub, Int.reduceNeg]
  intro b1 hb_b1 n_b1
  simp -implicitDefEqProofs only [go_sem, ↓reduceIte, reduceCtorEq, Int.reduceEq, Int.reduceLT, Int.reduceLE, Nat.reduceEqDiff, Nat.reduceAdd, Nat.reduceMul, Nat.reduceLeDiff, Nat.reduceSub, Int.reduceNeg, hb_b1]
  refine AC_of (markState_ac (f'.ext ((Ext.refl _).set' n_b1 _)) hs (by omega)) ?_
  rintro r h1 - ⟨rfl, k1, uh, um, e, m1, m2⟩
  simp only [List.cons.injEq, and_true, true_and] at e
  obtain ⟨rfl, rfl⟩ := e
  simp -implicitDefEqProofs only [go_sem, ↓reduceIte, reduceCtorEq, Int.reduceEq, Int.reduceLT, Int.reduceLE, Nat.reduceEqDiff, Nat.reduceAdd, Nat.reduceMul, Nat.reduceLeDiff, Nat.reduceSub, Int.reduceNeg, hb_b1]
  exact ⟨((((Ext.refl _).set' n_b1 _)).keep _).trans (k1.mono fun b ⟨v, hv, hb⟩ => ⟨v, List.mem_append_left _ hv, hb⟩), sto_m.2 ⟨_, _, rfl, m1, m2⟩⟩
/-- laws.heldStateOut -/
def b_laws_heldStateOut : C := (.seq (.ops [⟨(some 2), none, .box (.t 0)⟩, q 4 (.mv (.c (i64 0)))])
 (.seq (.ops [q 5 (.fld 0 (.t 2)), q 6 (.ld true 8 (.t 5)), q 7 (.mv (.t 1)), ⟨(some 8), none, .call (.c (.func (.func 130) #[] #[])) [(.t 6), (.t 7)]⟩, q 1 (.mv (.t 8))])
 (.seq (.seq (.ops [q 9 (.mv (.t 1)), q 10 (.bin .lss (.t 9) (.c (i64 0)))])
 (.cond (.t 10) (.seq (.ops [q 4 (.mv (.c (i64 (-1))))])
 .ret) .skip))
 (.seq (.ops [q 11 (.mv (.t 1)), q 4 (.mv (.t 11))])
 .ret))))
theorem w_laws_heldStateOut {args : List Value} {h : H} {Q : Value → H → Prop} (hl : args.length ≤ 12) (hk : wpc Try.prog b_laws_heldStateOut (retw [.tmp 4] Q) (argsFr args) h) : AC Try.prog 63 args h Q :=
  AC.of_wpc mixedOrders Try.func63 (by kernel_rfl) (by kernel_rfl : prepF Try.prog Try.f63 = some ⟨12, [.tmp 4], b_laws_heldStateOut⟩) hl hk

theorem heldStateOut_pc {h : H} {o : UState × Int} {cs : List Value} {k0 : Int} (hv : RepR h (spMSto o k0) cs) (hs : o.1.small) (hk : 1 ≤ k0 ∧ k0 ≤ 1048576) :
    PC Try.prog 63 [.agg cs.toArray, i64 k0] h (i64 (k0 + stN o.1)) := by
  obtain ⟨vh, vm, rfl, m1, m2⟩ := sto_m.1 hv
  refine PC_of ?_
  refine w_laws_heldStateOut (by simp) ?_
  unfold b_laws_heldStateOut
  simp -implicitDefEqProofs only [go_sem, ↓reduceIte, reduceCtorEq, Int.reduceEq, Int.reduceLT, Int.reduceLE, Nat.reduceEqDiff, Nat.reduceAdd, Nat.reduceMul, Nat.reduceLeDiff, Nat.reduceSub, Int.reduceNeg]
  intro b1 hb_b1 n_b1
  simp -implicitDefEqProofs only [go_sem, ↓reduceIte, reduceCtorEq, Int.reduceEq, Int.reduceLT, Int.reduceLE, Nat.reduceEqDiff, Nat.reduceAdd, Nat.reduceMul, Nat.reduceLeDiff, Nat.reduceSub, Int.reduceNeg, hb_b1]
  refine (heldState_pc ⟨vh, vm, rfl, m1.ext ((Ext.refl _).set' n_b1 _), m2.ext ((Ext.refl _).set' n_b1 _)⟩ hs (by omega)).use ?_
  simp -implicitDefEqProofs only [go_sem, ↓reduceIte, reduceCtorEq, Int.reduceEq, Int.reduceLT, Int.reduceLE, Nat.reduceEqDiff, Nat.reduceAdd, Nat.reduceMul, Nat.reduceLeDiff, Nat.reduceSub, Int.reduceNeg, show ¬ (k0 + stN o.1 < 0) by unfold stN; omega, hb_b1]
  exact ((Ext.refl _).set' n_b1 _)
theorem stOut_fin (t : List UInt8) : (stOut t).1.held.length ≤ 24 ∧ (stOut t).1.mine.length ≤ 24 := by
  unfold stOut
  split
  · simp [zeroS]
  · cases hs : stI t with
    | none => simp [zeroS]
    | some s =>
      by_cases h : ∃ v1 v2 v3 v4 v5 v6 v7 v8 e, RdS t v1 v2 v3 v4 v5 v6 v7 v8 e
      · obtain ⟨v1, v2, v3, v4, v5, v6, v7, v8, e, r⟩ := h
        have h1 := r.st
        rw [hs] at h1
        split at h1
        · rename_i hc
          simp only [Option.some.injEq] at h1
          subst h1
          exact ⟨fromI_len _, fromI_len _⟩
        · cases h1
      · rw [stI_rd h] at hs; cases hs
end Go.Proofs.Ythheclnjaemjnaa
