/- A helper of this seat's claims (contracts of the functions): what it shows is shown for every input that its statements name, on no other condition. -/
import Derived.Test.YtiokibikhanfcaaGreatCM
import Derived.Test.YtiokibikhanfcaaGreatC06
set_option linter.unusedVariables false
set_option linter.unusedSimpArgs false
set_option maxRecDepth 100000
namespace Go.Proofs.YtiokibikhanfcaaGreat
open Go.KH

/-! ## Images -/
def imageOk (l : List (List UInt8)) : Prop := (1 ≤ l.length ∧ l.length ≤ 8) ∧ ∀ s ∈ l, s.length = 8
instance (l : List (List UInt8)) : Decidable (imageOk l) := by unfold imageOk; infer_instance
theorem firstAt_any {α : Type} (p : α → Bool) (l : List α) : decide (0 ≤ firstAt p l) = l.any p := by
  cases h : l.any p with
  | true =>
    obtain ⟨x, hx, hp⟩ := List.any_eq_true.1 h
    obtain ⟨k, hk, e⟩ : ∃ k, ∃ hk : k < l.length, p l[k] = true := by obtain ⟨k, hk, rfl⟩ := List.getElem_of_mem hx; exact ⟨k, hk, hp⟩
    apply decide_eq_true
    by_cases h0 : 0 ≤ firstAt p l
    · exact h0
    · have hle := firstAt_le p l
      have : firstAt p l = -1 := by omega
      unfold firstAt at this
      split at this
      · omega
      · rename_i hn; rw [List.findIdx?_eq_none_iff] at hn; have := hn _ (List.getElem_mem hk); rw [e] at this; cases this
  | false =>
    apply decide_eq_false
    rw [firstAt_none (fun i hi => by
      have := List.any_eq_false.1 h l[i] (List.getElem_mem hi)
      simpa using this)]
    omega
/-- impl.size[string] -/
def b_impl_size_string : C := (.seq (.ops [q 2 (.mv (.c (i64 0)))])
 (.seq (.ops [q 3 (.mv (.t 0)), q 4 (.len (.t 3)), q 2 (.mv (.t 4))])
 .ret))
theorem w_impl_size_string {args : List Value} {h : H} {Q : Value → H → Prop} (hl : args.length ≤ 5) (hk : wpc Tryz.prog b_impl_size_string (retw [.tmp 2] Q) (argsFr args) h) : AC Tryz.prog 85 args h Q :=
  AC.of_wpc mixedOrders Tryz.func85 (by kernel_rfl) (by kernel_rfl : prepF Tryz.prog Tryz.f85 = some ⟨5, [.tmp 2], b_impl_size_string⟩) hl hk

theorem sizeStr_pc {h : H} {v : Value} {l : List (List UInt8)} (hv : Sl h v 1 (strs l)) : PC Tryz.prog 85 [v] h (i64 l.length) := by
  obtain ⟨a, c, b, o, rfl, hcap, h2, h3⟩ := hv
  rw [List.length_map]
  refine w_impl_size_string (by simp) ?_
  unfold b_impl_size_string
  simp -implicitDefEqProofs only [go_sem, ↓reduceIte, reduceCtorEq, Int.reduceEq, Int.reduceLT, Int.reduceLE, Nat.reduceEqDiff, Nat.reduceAdd, Nat.reduceMul, Nat.reduceLeDiff, Nat.reduceSub, Int.reduceNeg]
/-- impl.isBlocks -/
def b_impl_isBlocks : C := (.seq (.ops [q 2 (.mv (.c (.bool false)))])
 (.seq (.ops [q 3 (.mv (.t 0)), ⟨(some 4), none, .call (.c (.func (.func 148) #[] #[])) [(.t 3), (.c (i64 1)), (.c (i64 8))]⟩, q 2 (.mv (.t 4))])
 .ret))
theorem w_impl_isBlocks {args : List Value} {h : H} {Q : Value → H → Prop} (hl : args.length ≤ 5) (hk : wpc Tryz.prog b_impl_isBlocks (retw [.tmp 2] Q) (argsFr args) h) : AC Tryz.prog 83 args h Q :=
  AC.of_wpc mixedOrders Tryz.func83 (by kernel_rfl) (by kernel_rfl : prepF Tryz.prog Tryz.f83 = some ⟨5, [.tmp 2], b_impl_isBlocks⟩) hl hk

theorem isBlocks_pc (h : H) (n : Int) : PC Tryz.prog 83 [i64 n] h (.bool (decide (1 ≤ n ∧ n ≤ 8))) := by
  refine w_impl_isBlocks (by simp) ?_
  unfold b_impl_isBlocks
  simp -implicitDefEqProofs only [go_sem, ↓reduceIte, reduceCtorEq, Int.reduceEq, Int.reduceLT, Int.reduceLE, Nat.reduceEqDiff, Nat.reduceAdd, Nat.reduceMul, Nat.reduceLeDiff, Nat.reduceSub, Int.reduceNeg]
  refine (within_pc _ _ _ _).use ?_
  simp -implicitDefEqProofs only [go_sem, ↓reduceIte, reduceCtorEq, Int.reduceEq, Int.reduceLT, Int.reduceLE, Nat.reduceEqDiff, Nat.reduceAdd, Nat.reduceMul, Nat.reduceLeDiff, Nat.reduceSub, Int.reduceNeg]
/-- slices.IndexFunc[[]string,string] -/
def b_slices_IndexFunc_string_string : C := (.seq (.ops [q 4 (.mv (.c (i64 0)))])
 (.seq (.seq (.ops [q 6 (.mv (.t 0)), q 7 (.len (.t 6)), q 8 (.mv (.c (i64 0)))])
 (.block 0 (.loop (.seq (.ops [q 9 (.bin .lss (.t 8) (.t 7))])
 (.seq (.cond (.t 9) .skip (.exit 0))
 (.seq (.block 1 (.seq (.ops [q 10 (.mv (.t 8)), q 5 (.mv (.t 10))])
 (.seq (.ops [q 11 (.mv (.t 1)), q 12 (.mv (.t 0)), q 13 (.mv (.t 5)), q 14 (.idx 1 (.t 12) (.t 13)), q 15 (.ld false 1 (.t 14)), ⟨(some 16), none, .call (.t 11) [(.t 15)]⟩])
 (.cond (.t 16) (.seq (.ops [q 17 (.mv (.t 5)), q 4 (.mv (.t 17))])
 .ret) .skip))))
 (.ops [q 18 (.bin .add (.t 8) (.c (i64 1))), q 8 (.mv (.t 18))])))))))
 (.seq (.ops [q 4 (.mv (.c (i64 (-1))))])
 .ret)))
theorem w_slices_IndexFunc_string_string {args : List Value} {h : H} {Q : Value → H → Prop} (hl : args.length ≤ 19) (hk : wpc Tryz.prog b_slices_IndexFunc_string_string (retw [.tmp 4] Q) (argsFr args) h) : AC Tryz.prog 205 args h Q :=
  AC.of_wpc mixedOrders Tryz.func205 (by kernel_rfl) (by kernel_rfl : prepF Tryz.prog Tryz.f205 = some ⟨19, [.tmp 4], b_slices_IndexFunc_string_string⟩) hl hk

theorem indexStr_pc {h : H} {v : Value} {l : List (List UInt8)} {p : List UInt8 → Bool} {n : Nat} {caps : List Value} (hv : Sl h v 1 (strs l)) (hn : l.length ≤ 1048576) (hc : ∀ x, x ∈ l → PC Tryz.prog n (str x :: caps) h (.bool (p x))) :
    PC Tryz.prog 205 [v, .func (.func n) #[] caps.toArray] h (i64 (firstAt p l)) :=
  w_slices_IndexFunc_string_string (by simp) (if1_wpc hv hn hc ⟨rfl, rfl⟩)
/-- slices.ContainsFunc[[]string,string] -/
def b_slices_ContainsFunc_string_string : C := (.seq (.ops [q 4 (.mv (.c (.bool false)))])
 (.seq (.ops [q 5 (.mv (.t 0)), q 6 (.mv (.t 1)), ⟨(some 7), none, .call (.c (.func (.func 205) #[] #[])) [(.t 5), (.t 6)]⟩, q 8 (.bin .geq (.t 7) (.c (i64 0))), q 4 (.mv (.t 8))])
 .ret))
theorem w_slices_ContainsFunc_string_string {args : List Value} {h : H} {Q : Value → H → Prop} (hl : args.length ≤ 9) (hk : wpc Tryz.prog b_slices_ContainsFunc_string_string (retw [.tmp 4] Q) (argsFr args) h) : AC Tryz.prog 149 args h Q :=
  AC.of_wpc mixedOrders Tryz.func149 (by kernel_rfl) (by kernel_rfl : prepF Tryz.prog Tryz.f149 = some ⟨9, [.tmp 4], b_slices_ContainsFunc_string_string⟩) hl hk

theorem containsStr_pc {h : H} {v : Value} {l : List (List UInt8)} {p : List UInt8 → Bool} {n : Nat} {caps : List Value} (hv : Sl h v 1 (strs l)) (hn : l.length ≤ 1048576) (hc : ∀ x, x ∈ l → PC Tryz.prog n (str x :: caps) h (.bool (p x))) :
    PC Tryz.prog 149 [v, .func (.func n) #[] caps.toArray] h (.bool (l.any p)) := by
  rw [← firstAt_any]
  refine w_slices_ContainsFunc_string_string (by simp) ?_
  unfold b_slices_ContainsFunc_string_string
  simp -implicitDefEqProofs only [go_sem, ↓reduceIte, reduceCtorEq, Int.reduceEq, Int.reduceLT, Int.reduceLE, Nat.reduceEqDiff, Nat.reduceAdd, Nat.reduceMul, Nat.reduceLeDiff, Nat.reduceSub, Int.reduceNeg]
  refine (indexStr_pc hv hn hc).use ?_
  simp -implicitDefEqProofs only [go_sem, ↓reduceIte, reduceCtorEq, Int.reduceEq, Int.reduceLT, Int.reduceLE, Nat.reduceEqDiff, Nat.reduceAdd, Nat.reduceMul, Nat.reduceLeDiff, Nat.reduceSub, Int.reduceNeg]
/-- slices.Clone[[]string,string] -/
def b_slices_Clone_string_string : C := (.seq (.ops [q 2 (.mv (.c nils))])
 (.seq (.seq (.ops [q 3 (.mv (.t 0)), q 4 (.eqs false (.t 3) (.c nils))])
 (.cond (.t 4) (.seq (.ops [q 2 (.mv (.c nils))])
 .ret) .skip))
 (.seq (.ops [⟨(some 5), none, .bsl 0 [] []⟩, q 6 (.mv (.t 0)), ⟨(some 7), none, .app 1 16 (.t 5) (.t 6)⟩, q 2 (.mv (.t 7))])
 .ret)))
theorem w_slices_Clone_string_string {args : List Value} {h : H} {Q : Value → H → Prop} (hl : args.length ≤ 8) (hk : wpc Tryz.prog b_slices_Clone_string_string (retw [.tmp 2] Q) (argsFr args) h) : AC Tryz.prog 178 args h Q :=
  AC.of_wpc mixedOrders Tryz.func178 (by kernel_rfl) (by kernel_rfl : prepF Tryz.prog Tryz.f178 = some ⟨8, [.tmp 2], b_slices_Clone_string_string⟩) hl hk

end Go.Proofs.YtiokibikhanfcaaGreat
