/- A helper of this seat's claims (contracts of the functions): what it shows is shown for every input that its statements name, on no other condition. -/
import Derived.Test.YtneiikjafpnapaaC01
import Derived.Test.YtneiikjafpnapaaC06
set_option linter.unusedVariables false
set_option linter.unusedSimpArgs false
set_option maxRecDepth 100000
namespace Go.Proofs.Ytneiikjafpnapaa
open Go.KH

/-! ## Notes -/
def noteB (n at_ : Int) (data : List UInt8) : List UInt8 := sealB (putNum n ++ putNum at_ ++ putText data)
def noteBytes (n at_ : Int) (data : List UInt8) : List UInt8 := if (0 ≤ n ∧ n ≤ 1000000) ∧ (0 ≤ at_ ∧ at_ ≤ 39) ∧ data.length = 8 then noteB n at_ data else []
theorem putText_le {t : List UInt8} (h : t.length ≤ 1099511627776) : (putText t).length ≤ t.length + 10 := by
  have := putNum_le (n := (t.length : Int)) ⟨by omega, by omega⟩
  unfold putText; rw [List.length_append]; omega
/-- impl.noteBytes -/
def b_impl_noteBytes : C := (.seq (.ops [q 6 (.mv (.c (str [])))])
 (.seq (.ops [q 7 (.mv (.t 0)), q 8 (.mv (.t 1)), ⟨(some 9), none, .bsl 2 [(i64 0), (i64 0)] [(0, 1, (.t 7)), (1, 1, (.t 8))]⟩, ⟨(some 10), none, .call (.c (.func (.func 104) #[] #[])) [(.t 9)]⟩, q 11 (.mv (.t 2)), ⟨(some 12), none, .call (.c (.func (.func 105) #[] #[])) [(.t 11)]⟩, q 13 (.bin .add (.t 10) (.t 12)), ⟨(some 14), none, .call (.c (.func (.func 103) #[] #[])) [(.t 13)]⟩, q 6 (.mv (.t 14))])
 .ret))
theorem w_impl_noteBytes {args : List Value} {h : H} {Q : Value → H → Prop} (hl : args.length ≤ 15) (hk : wpc Try.prog b_impl_noteBytes (retw [.tmp 6] Q) (argsFr args) h) : AC Try.prog 72 args h Q :=
  AC.of_wpc mixedOrders Try.func72 (by kernel_rfl) (by kernel_rfl : prepF Try.prog Try.f72 = some ⟨15, [.tmp 6], b_impl_noteBytes⟩) hl hk

theorem implNoteB_pc (h : H) (n at_ : Int) (data : List UInt8) (hn : in64 n) (ha : in64 at_) (hd : data.length ≤ 8000) : PC Try.prog 72 [i64 n, i64 at_, str data] h (str (noteB n at_ data)) := by
  have l1 := putNum_le hn
  have l2 := putNum_le ha
  have l3 := putText_le (t := data) (by omega)
  refine PC_of ?_
  refine w_impl_noteBytes (by simp) ?_
  unfold b_impl_noteBytes
  simp -implicitDefEqProofs only [go_sem, ↓reduceIte, reduceCtorEq, Int.reduceEq, Int.reduceLT, Int.reduceLE, Nat.reduceEqDiff, Nat.reduceAdd, Nat.reduceMul, Nat.reduceLeDiff, Nat.reduceSub, Int.reduceNeg]
  intro b1 hb_b1 n_b1
  simp -implicitDefEqProofs only [go_sem, ↓reduceIte, reduceCtorEq, Int.reduceEq, Int.reduceLT, Int.reduceLE, Nat.reduceEqDiff, Nat.reduceAdd, Nat.reduceMul, Nat.reduceLeDiff, Nat.reduceSub, Int.reduceNeg, hb_b1]
  have hs : Sl (h.set b1 ⟨[i64 n, i64 at_], 2⟩) (sl b1 0 2 2) 1 ([n, at_].map fun n => [i64 n]) :=
    ⟨_, _, b1, 0, rfl, Nat.le_refl _, rfl, fun i r hr => by
      match i, hr with
      | 0, hr => simp only [List.map_cons, List.map_nil, List.getElem?_cons_zero, Option.some.injEq] at hr; subst hr; simp [ldc]
      | 1, hr => simp only [List.map_cons, List.map_nil, List.getElem?_cons_succ, List.getElem?_cons_zero, Option.some.injEq] at hr; subst hr; simp [ldc]
      | i + 2, hr => simp at hr⟩
  refine (putNums_pc hs (by simp) (by intro x hx; simp at hx; rcases hx with rfl | rfl; exact hn; exact ha)).use ?_
  simp -implicitDefEqProofs only [go_sem, ↓reduceIte, reduceCtorEq, Int.reduceEq, Int.reduceLT, Int.reduceLE, Nat.reduceEqDiff, Nat.reduceAdd, Nat.reduceMul, Nat.reduceLeDiff, Nat.reduceSub, Int.reduceNeg, hb_b1]
  refine (putText_pc _ _ (by omega)).use ?_
  simp -implicitDefEqProofs only [go_sem, ↓reduceIte, reduceCtorEq, Int.reduceEq, Int.reduceLT, Int.reduceLE, Nat.reduceEqDiff, Nat.reduceAdd, Nat.reduceMul, Nat.reduceLeDiff, Nat.reduceSub, Int.reduceNeg, hb_b1]
  have e : [n, at_].flatMap putNum = putNum n ++ putNum at_ := by simp
  rw [e]
  refine Req.of (by simp only [List.length_append]; omega) ?_
  simp -implicitDefEqProofs only [go_sem, ↓reduceIte, reduceCtorEq, Int.reduceEq, Int.reduceLT, Int.reduceLE, Nat.reduceEqDiff, Nat.reduceAdd, Nat.reduceMul, Nat.reduceLeDiff, Nat.reduceSub, Int.reduceNeg, hb_b1]
  refine (seal_pc _ _ (by simp only [List.length_append]; omega)).use ?_
  simp -implicitDefEqProofs only [go_sem, ↓reduceIte, reduceCtorEq, Int.reduceEq, Int.reduceLT, Int.reduceLE, Nat.reduceEqDiff, Nat.reduceAdd, Nat.reduceMul, Nat.reduceLeDiff, Nat.reduceSub, Int.reduceNeg, hb_b1]
  exact ⟨((Ext.refl _).set' n_b1 _), rfl⟩
/-- impl.NoteBytes -/
def b_impl_NoteBytes : C := (.seq (.ops [q 6 (.mv (.c (str [])))])
 (.seq (.seq (.ops [q 7 (.mv (.t 0)), ⟨(some 8), none, .call (.c (.func (.func 71) #[] #[])) [(.t 7)]⟩, q 9 (.un .not (.t 8)), q 10 (.mv (.t 9)), qg 11 10 false (.mv (.t 1)), ⟨(some 12), (some (10, false)), .call (.c (.func (.func 61) #[] #[])) [(.t 11), (.c (i64 0)), (.c (i64 39))]⟩, qg 13 10 false (.un .not (.t 12)), q 14 (.pick (.t 10) (.c (.bool true)) (.t 13)), q 15 (.mv (.t 14)), qg 16 15 false (.mv (.t 2)), qg 17 15 false (.slen (.t 16)), qg 18 15 false (.bin .neq (.t 17) (.c (i64 8))), q 19 (.pick (.t 15) (.c (.bool true)) (.t 18))])
 (.cond (.t 19) (.seq (.ops [q 6 (.mv (.c (str [])))])
 .ret) .skip))
 (.seq (.ops [q 20 (.mv (.t 0)), q 21 (.mv (.t 1)), q 22 (.mv (.t 2)), ⟨(some 23), none, .call (.c (.func (.func 72) #[] #[])) [(.t 20), (.t 21), (.t 22)]⟩, q 6 (.mv (.t 23))])
 .ret)))
theorem w_impl_NoteBytes {args : List Value} {h : H} {Q : Value → H → Prop} (hl : args.length ≤ 24) (hk : wpc Try.prog b_impl_NoteBytes (retw [.tmp 6] Q) (argsFr args) h) : AC Try.prog 30 args h Q :=
  AC.of_wpc mixedOrders Try.func30 (by kernel_rfl) (by kernel_rfl : prepF Try.prog Try.f30 = some ⟨24, [.tmp 6], b_impl_NoteBytes⟩) hl hk

theorem implNoteBytes_pc (h : H) (n at_ : Int) (data : List UInt8) (hn : in64 n) (ha : in64 at_) : PC Try.prog 30 [i64 n, i64 at_, str data] h (str (noteBytes n at_ data)) := by
  refine w_impl_NoteBytes (by simp) ?_
  unfold b_impl_NoteBytes
  simp -implicitDefEqProofs only [go_sem, ↓reduceIte, reduceCtorEq, Int.reduceEq, Int.reduceLT, Int.reduceLE, Nat.reduceEqDiff, Nat.reduceAdd, Nat.reduceMul, Nat.reduceLeDiff, Nat.reduceSub, Int.reduceNeg]
  refine (isTime_pc _ _).use ?_
  simp -implicitDefEqProofs only [go_sem, ↓reduceIte, reduceCtorEq, Int.reduceEq, Int.reduceLT, Int.reduceLE, Nat.reduceEqDiff, Nat.reduceAdd, Nat.reduceMul, Nat.reduceLeDiff, Nat.reduceSub, Int.reduceNeg]
  unfold noteBytes
  refine Br.of (fun h1 => ?_) (fun h1 => ?_)
  · simp -implicitDefEqProofs only [go_sem, ↓reduceIte, reduceCtorEq, Int.reduceEq, Int.reduceLT, Int.reduceLE, Nat.reduceEqDiff, Nat.reduceAdd, Nat.reduceMul, Nat.reduceLeDiff, Nat.reduceSub, Int.reduceNeg, h1]
    refine (within_pc _ _ _ _).use ?_
    simp -implicitDefEqProofs only [go_sem, ↓reduceIte, reduceCtorEq, Int.reduceEq, Int.reduceLT, Int.reduceLE, Nat.reduceEqDiff, Nat.reduceAdd, Nat.reduceMul, Nat.reduceLeDiff, Nat.reduceSub, Int.reduceNeg, h1]
    refine Br.of (fun h2 => ?_) (fun h2 => ?_)
    · simp -implicitDefEqProofs only [go_sem, ↓reduceIte, reduceCtorEq, Int.reduceEq, Int.reduceLT, Int.reduceLE, Nat.reduceEqDiff, Nat.reduceAdd, Nat.reduceMul, Nat.reduceLeDiff, Nat.reduceSub, Int.reduceNeg, h1, h2]
      refine Br.of (fun h3 => ?_) (fun h3 => ?_)
      · simp -implicitDefEqProofs only [go_sem, ↓reduceIte, reduceCtorEq, Int.reduceEq, Int.reduceLT, Int.reduceLE, Nat.reduceEqDiff, Nat.reduceAdd, Nat.reduceMul, Nat.reduceLeDiff, Nat.reduceSub, Int.reduceNeg, h1, h2, h3]
        refine (implNoteB_pc _ _ _ _ hn ha (by omega)).use ?_
        simp -implicitDefEqProofs only [go_sem, ↓reduceIte, reduceCtorEq, Int.reduceEq, Int.reduceLT, Int.reduceLE, Nat.reduceEqDiff, Nat.reduceAdd, Nat.reduceMul, Nat.reduceLeDiff, Nat.reduceSub, Int.reduceNeg]
        rw [if_pos (by omega)]
      · simp -implicitDefEqProofs only [go_sem, ↓reduceIte, reduceCtorEq, Int.reduceEq, Int.reduceLT, Int.reduceLE, Nat.reduceEqDiff, Nat.reduceAdd, Nat.reduceMul, Nat.reduceLeDiff, Nat.reduceSub, Int.reduceNeg, h1, h2, h3]
        rw [if_neg (by omega)]
    · simp -implicitDefEqProofs only [go_sem, ↓reduceIte, reduceCtorEq, Int.reduceEq, Int.reduceLT, Int.reduceLE, Nat.reduceEqDiff, Nat.reduceAdd, Nat.reduceMul, Nat.reduceLeDiff, Nat.reduceSub, Int.reduceNeg, h1, h2]
  · simp -implicitDefEqProofs only [go_sem, ↓reduceIte, reduceCtorEq, Int.reduceEq, Int.reduceLT, Int.reduceLE, Nat.reduceEqDiff, Nat.reduceAdd, Nat.reduceMul, Nat.reduceLeDiff, Nat.reduceSub, Int.reduceNeg, h1]
/-- spec.NoteBytes -/
def b_spec_NoteBytes : C := (.seq (.ops [q 6 (.mv (.c (str [])))])
 (.seq (.seq (.ops [q 7 (.mv (.t 0)), ⟨(some 8), none, .call (.c (.func (.func 59) #[] #[])) [(.t 7), (.c (i64 0)), (.c (i64 1000000))]⟩, q 9 (.un .not (.t 8)), q 10 (.mv (.t 9)), qg 11 10 false (.mv (.t 1)), ⟨(some 12), (some (10, false)), .call (.c (.func (.func 59) #[] #[])) [(.t 11), (.c (i64 0)), (.c (i64 39))]⟩, qg 13 10 false (.un .not (.t 12)), q 14 (.pick (.t 10) (.c (.bool true)) (.t 13)), q 15 (.mv (.t 14)), qg 16 15 false (.mv (.t 2)), qg 17 15 false (.slen (.t 16)), qg 18 15 false (.bin .neq (.t 17) (.c (i64 8))), q 19 (.pick (.t 15) (.c (.bool true)) (.t 18))])
 (.cond (.t 19) (.seq (.ops [q 6 (.mv (.c (str [])))])
 .ret) .skip))
 (.seq (.ops [q 20 (.mv (.t 0)), ⟨(some 21), none, .call (.c (.func (.func 69) #[] #[])) [(.t 20)]⟩, q 22 (.mv (.t 1)), ⟨(some 23), none, .call (.c (.func (.func 69) #[] #[])) [(.t 22)]⟩, q 24 (.bin .add (.t 21) (.t 23)), q 25 (.mv (.t 2)), ⟨(some 26), none, .call (.c (.func (.func 70) #[] #[])) [(.t 25)]⟩, q 27 (.bin .add (.t 24) (.t 26)), ⟨(some 28), none, .call (.c (.func (.func 68) #[] #[])) [(.t 27)]⟩, q 6 (.mv (.t 28))])
 .ret)))
theorem w_spec_NoteBytes {args : List Value} {h : H} {Q : Value → H → Prop} (hl : args.length ≤ 29) (hk : wpc Try.prog b_spec_NoteBytes (retw [.tmp 6] Q) (argsFr args) h) : AC Try.prog 29 args h Q :=
  AC.of_wpc mixedOrders Try.func29 (by kernel_rfl) (by kernel_rfl : prepF Try.prog Try.f29 = some ⟨29, [.tmp 6], b_spec_NoteBytes⟩) hl hk

theorem specNoteBytes_pc (h : H) (n at_ : Int) (data : List UInt8) (hn : in64 n) (ha : in64 at_) : PC Try.prog 29 [i64 n, i64 at_, str data] h (str (noteBytes n at_ data)) := by
  have l1 := putNum_le hn
  have l2 := putNum_le ha
  refine w_spec_NoteBytes (by simp) ?_
  unfold b_spec_NoteBytes
  simp -implicitDefEqProofs only [go_sem, ↓reduceIte, reduceCtorEq, Int.reduceEq, Int.reduceLT, Int.reduceLE, Nat.reduceEqDiff, Nat.reduceAdd, Nat.reduceMul, Nat.reduceLeDiff, Nat.reduceSub, Int.reduceNeg]
  refine (l03Is_pc _ _ _ _).use ?_
  simp -implicitDefEqProofs only [go_sem, ↓reduceIte, reduceCtorEq, Int.reduceEq, Int.reduceLT, Int.reduceLE, Nat.reduceEqDiff, Nat.reduceAdd, Nat.reduceMul, Nat.reduceLeDiff, Nat.reduceSub, Int.reduceNeg]
  unfold noteBytes
  refine Br.of (fun h1 => ?_) (fun h1 => ?_)
  · simp -implicitDefEqProofs only [go_sem, ↓reduceIte, reduceCtorEq, Int.reduceEq, Int.reduceLT, Int.reduceLE, Nat.reduceEqDiff, Nat.reduceAdd, Nat.reduceMul, Nat.reduceLeDiff, Nat.reduceSub, Int.reduceNeg, h1]
    refine (l03Is_pc _ _ _ _).use ?_
    simp -implicitDefEqProofs only [go_sem, ↓reduceIte, reduceCtorEq, Int.reduceEq, Int.reduceLT, Int.reduceLE, Nat.reduceEqDiff, Nat.reduceAdd, Nat.reduceMul, Nat.reduceLeDiff, Nat.reduceSub, Int.reduceNeg, h1]
    refine Br.of (fun h2 => ?_) (fun h2 => ?_)
    · simp -implicitDefEqProofs only [go_sem, ↓reduceIte, reduceCtorEq, Int.reduceEq, Int.reduceLT, Int.reduceLE, Nat.reduceEqDiff, Nat.reduceAdd, Nat.reduceMul, Nat.reduceLeDiff, Nat.reduceSub, Int.reduceNeg, h1, h2]
      refine Br.of (fun h3 => ?_) (fun h3 => ?_)
      · simp -implicitDefEqProofs only [go_sem, ↓reduceIte, reduceCtorEq, Int.reduceEq, Int.reduceLT, Int.reduceLE, Nat.reduceEqDiff, Nat.reduceAdd, Nat.reduceMul, Nat.reduceLeDiff, Nat.reduceSub, Int.reduceNeg, h1, h2, h3]
        have l3 := putText_le (t := data) (by omega)
        refine (specPutNum_pc _ _ hn).use ?_
        simp -implicitDefEqProofs only [go_sem, ↓reduceIte, reduceCtorEq, Int.reduceEq, Int.reduceLT, Int.reduceLE, Nat.reduceEqDiff, Nat.reduceAdd, Nat.reduceMul, Nat.reduceLeDiff, Nat.reduceSub, Int.reduceNeg]
        refine (specPutNum_pc _ _ ha).use ?_
        simp -implicitDefEqProofs only [go_sem, ↓reduceIte, reduceCtorEq, Int.reduceEq, Int.reduceLT, Int.reduceLE, Nat.reduceEqDiff, Nat.reduceAdd, Nat.reduceMul, Nat.reduceLeDiff, Nat.reduceSub, Int.reduceNeg]
        refine Req.of (by omega) ?_
        simp -implicitDefEqProofs only [go_sem, ↓reduceIte, reduceCtorEq, Int.reduceEq, Int.reduceLT, Int.reduceLE, Nat.reduceEqDiff, Nat.reduceAdd, Nat.reduceMul, Nat.reduceLeDiff, Nat.reduceSub, Int.reduceNeg]
        refine (specPutText_pc _ _ (by omega)).use ?_
        simp -implicitDefEqProofs only [go_sem, ↓reduceIte, reduceCtorEq, Int.reduceEq, Int.reduceLT, Int.reduceLE, Nat.reduceEqDiff, Nat.reduceAdd, Nat.reduceMul, Nat.reduceLeDiff, Nat.reduceSub, Int.reduceNeg]
        refine Req.of (by simp only [List.length_append]; omega) ?_
        simp -implicitDefEqProofs only [go_sem, ↓reduceIte, reduceCtorEq, Int.reduceEq, Int.reduceLT, Int.reduceLE, Nat.reduceEqDiff, Nat.reduceAdd, Nat.reduceMul, Nat.reduceLeDiff, Nat.reduceSub, Int.reduceNeg]
        refine (specSeal_pc _ _ (by simp only [List.length_append]; omega)).use ?_
        simp -implicitDefEqProofs only [go_sem, ↓reduceIte, reduceCtorEq, Int.reduceEq, Int.reduceLT, Int.reduceLE, Nat.reduceEqDiff, Nat.reduceAdd, Nat.reduceMul, Nat.reduceLeDiff, Nat.reduceSub, Int.reduceNeg]
        rw [if_pos (by omega)]; rfl
      · simp -implicitDefEqProofs only [go_sem, ↓reduceIte, reduceCtorEq, Int.reduceEq, Int.reduceLT, Int.reduceLE, Nat.reduceEqDiff, Nat.reduceAdd, Nat.reduceMul, Nat.reduceLeDiff, Nat.reduceSub, Int.reduceNeg, h1, h2, h3]
        rw [if_neg (by omega)]
    · simp -implicitDefEqProofs only [go_sem, ↓reduceIte, reduceCtorEq, Int.reduceEq, Int.reduceLT, Int.reduceLE, Nat.reduceEqDiff, Nat.reduceAdd, Nat.reduceMul, Nat.reduceLeDiff, Nat.reduceSub, Int.reduceNeg, h1, h2]
  · simp -implicitDefEqProofs only [go_sem, ↓reduceIte, reduceCtorEq, Int.reduceEq, Int.reduceLT, Int.reduceLE, Nat.reduceEqDiff, Nat.reduceAdd, Nat.reduceMul, Nat.reduceLeDiff, Nat.reduceSub, Int.reduceNeg, h1]
end Go.Proofs.Ytneiikjafpnapaa
