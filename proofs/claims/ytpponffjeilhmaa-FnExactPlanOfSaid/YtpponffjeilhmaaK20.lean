/- A helper of this seat's claims (the logic of the walks): what it shows is shown for every input that its statements name, on no other condition. -/
import Derived.Test.YtpponffjeilhmaaK19
set_option linter.unusedVariables false
set_option linter.unusedSimpArgs false
set_option maxRecDepth 100000
namespace Go.KH
open Go.RowKit

/-! ## Plain facts of lists -/
/-- A fold that knows the places. -/
def foldi {α β : Type} (f : β → Nat → α → β) (b : β) (l : List α) : β := l.zipIdx.foldl (fun b p => f b p.2 p.1) b
theorem foldi_take {α β : Type} (f : β → Nat → α → β) (b : β) (l : List α) (k : Nat) (hk : k < l.length) : foldi f b (l.take (k + 1)) = f (foldi f b (l.take k)) k l[k] := by
  unfold foldi
  have h1 : (l.take k).length = k := by simp; omega
  rw [List.take_succ_eq_append_getElem hk, List.zipIdx_append, List.foldl_append, h1]
  simp
theorem foldi_nil {α β : Type} (f : β → Nat → α → β) (b : β) : foldi f b [] = b := rfl
/-- The first place at which something holds; -1: there is none. -/
def firstAt {α : Type} (p : α → Bool) (l : List α) : Int := match l.findIdx? p with | some i => i | none => -1
theorem firstAt_some {α : Type} {p : α → Bool} {l : List α} {k : Nat} (hk : k < l.length) (h : p l[k] = true) (hn : ∀ i, (hi : i < k) → p (l[i]'(by omega)) = false) : firstAt p l = k := by
  unfold firstAt
  rw [List.findIdx?_eq_some_iff_getElem.2 ⟨hk, h, fun j hj => by simp [hn j hj]⟩]
theorem firstAt_none {α : Type} {p : α → Bool} {l : List α} (hn : ∀ i, (hi : i < l.length) → p l[i] = false) : firstAt p l = -1 := by
  unfold firstAt
  rw [List.findIdx?_eq_none_iff.2 (fun x hx => by obtain ⟨i, hi, rfl⟩ := List.getElem_of_mem hx; exact hn i hi)]
theorem firstAt_le {α : Type} (p : α → Bool) (l : List α) : -1 ≤ firstAt p l ∧ firstAt p l < l.length := by
  unfold firstAt
  split
  · rename_i i h
    have := (List.findIdx?_eq_some_iff_getElem.1 h).1
    omega
  · omega
theorem firstAt_get {α : Type} {p : α → Bool} {l : List α} (h : 0 ≤ firstAt p l) : ∃ k, ∃ hk : k < l.length, firstAt p l = k ∧ p l[k] = true ∧ ∀ i, (hi : i < k) → p (l[i]'(by omega)) = false := by
  unfold firstAt at h ⊢
  split at h
  · rename_i i hi
    obtain ⟨h1, h2, h3⟩ := List.findIdx?_eq_some_iff_getElem.1 hi
    exact ⟨i, h1, rfl, h2, fun j hj => by simpa using h3 j hj⟩
  · omega

/-! ## slices.IndexFunc and its like -/
section
variable {P : Program}

def ifB (w : Nat) : C := (.seq (.ops [q 4 (.mv (.c (i64 0)))])
 (.seq (.seq (.ops [q 6 (.mv (.t 0)), q 7 (.len (.t 6)), q 8 (.mv (.c (i64 0)))])
 (.block 0 (.loop (.seq (.ops [q 9 (.bin .lss (.t 8) (.t 7))])
 (.seq (.cond (.t 9) .skip (.exit 0))
 (.seq (.block 1 (.seq (.ops [q 10 (.mv (.t 8)), q 5 (.mv (.t 10))])
 (.seq (.ops [q 11 (.mv (.t 1)), q 12 (.mv (.t 0)), q 13 (.mv (.t 5)), q 14 (.idx w (.t 12) (.t 13)), q 15 (.ld true w (.t 14)), ⟨(some 16), none, .call (.t 11) [(.t 15)]⟩])
 (.cond (.t 16) (.seq (.ops [q 17 (.mv (.t 5)), q 4 (.mv (.t 17))])
 .ret) .skip))))
 (.ops [q 18 (.bin .add (.t 8) (.c (i64 1))), q 8 (.mv (.t 18))])))))))
 (.seq (.ops [q 4 (.mv (.c (i64 (-1))))])
 .ret)))
theorem if_wpc {α : Type} {h : H} {v : Value} {l : List α} {ce : α → List Value} {p : α → Bool} {w n : Nat} {caps : List Value} (hv : Sl h v w (l.map ce)) (hn : l.length ≤ 1048576)
    (hc : ∀ x, x ∈ l → PC P n (.agg (ce x).toArray :: caps) h (.bool (p x))) {Q : Value → H → Prop} (hq : Q (i64 (firstAt p l)) h) :
    wpc P (ifB w) (retw [.tmp 4] Q) (argsFr [v, .func (.func n) #[] caps.toArray]) h := by
  obtain ⟨a, c, b, o, rfl, hcap, h2, h3⟩ := hv
  simp only [List.length_map] at h2
  unfold ifB
  simp -implicitDefEqProofs only [go_sem, ↓reduceIte, reduceCtorEq, Int.reduceEq, Int.reduceLT, Int.reduceLE, Nat.reduceEqDiff, Nat.reduceAdd, Nat.reduceMul, Nat.reduceLeDiff, Nat.reduceSub, Int.reduceNeg, List.length_map]
  refine loopW_of (fun m f h' => ∃ k, m + k = l.length ∧ h' = h ∧ f 0 = .slice a l.length c ∧ f 1 = .func (.func n) #[] caps.toArray ∧ f 7 = i64 l.length ∧ f 8 = i64 k ∧ ∀ i, (hi : i < l.length) → i < k → p l[i] = false) l.length
    ⟨0, by simp, rfl, by simp -implicitDefEqProofs only [go_sem, ↓reduceIte, reduceCtorEq, Int.reduceEq, Int.reduceLT, Int.reduceLE, Nat.reduceEqDiff, Nat.reduceAdd, Nat.reduceMul, Nat.reduceLeDiff, Nat.reduceSub, Int.reduceNeg, List.length_map], by simp -implicitDefEqProofs only [go_sem, ↓reduceIte, reduceCtorEq, Int.reduceEq, Int.reduceLT, Int.reduceLE, Nat.reduceEqDiff, Nat.reduceAdd, Nat.reduceMul, Nat.reduceLeDiff, Nat.reduceSub, Int.reduceNeg], by simp -implicitDefEqProofs only [go_sem, ↓reduceIte, reduceCtorEq, Int.reduceEq, Int.reduceLT, Int.reduceLE, Nat.reduceEqDiff, Nat.reduceAdd, Nat.reduceMul, Nat.reduceLeDiff, Nat.reduceSub, Int.reduceNeg], by simp -implicitDefEqProofs only [go_sem, ↓reduceIte, reduceCtorEq, Int.reduceEq, Int.reduceLT, Int.reduceLE, Nat.reduceEqDiff, Nat.reduceAdd, Nat.reduceMul, Nat.reduceLeDiff, Nat.reduceSub, Int.reduceNeg]; rfl, by omega⟩ ?_
  rintro m f h' ⟨k, hm, rfl, f0, f1, f7, f8, hno⟩
  skip
  by_cases hk : k < l.length
  · have e1 := h3 k (ce l[k]) (by simp [hk])
    simp -implicitDefEqProofs only [go_sem, ↓reduceIte, reduceCtorEq, Int.reduceEq, Int.reduceLT, Int.reduceLE, Nat.reduceEqDiff, Nat.reduceAdd, Nat.reduceMul, Nat.reduceLeDiff, Nat.reduceSub, Int.reduceNeg, hk, e1, f0, f1, f7, f8, h2, Int.ofNat_lt, Int.natCast_nonneg]
    refine (hc l[k] (List.getElem_mem hk)).use ?_
    simp -implicitDefEqProofs only [go_sem, ↓reduceIte, reduceCtorEq, Int.reduceEq, Int.reduceLT, Int.reduceLE, Nat.reduceEqDiff, Nat.reduceAdd, Nat.reduceMul, Nat.reduceLeDiff, Nat.reduceSub, Int.reduceNeg, f0, f1, f7, f8, h2, Int.ofNat_lt, Int.natCast_nonneg]
    refine Br.of (fun h4 => ?_) (fun h4 => ?_)
    · simp -implicitDefEqProofs only [go_sem, ↓reduceIte, reduceCtorEq, Int.reduceEq, Int.reduceLT, Int.reduceLE, Nat.reduceEqDiff, Nat.reduceAdd, Nat.reduceMul, Nat.reduceLeDiff, Nat.reduceSub, Int.reduceNeg, h4, f0, f1, f7, f8, h2, Int.ofNat_lt, Int.natCast_nonneg]
      rw [firstAt_some hk h4 (fun i hi => hno i (by omega) hi)] at hq
      exact hq
    · simp -implicitDefEqProofs only [go_sem, ↓reduceIte, reduceCtorEq, Int.reduceEq, Int.reduceLT, Int.reduceLE, Nat.reduceEqDiff, Nat.reduceAdd, Nat.reduceMul, Nat.reduceLeDiff, Nat.reduceSub, Int.reduceNeg, h4, wrap_i64 (show -(9223372036854775808 : Int) ≤ ((k : Int) + 1) by omega) (show ((k : Int) + 1) < 9223372036854775808 by omega), f0, f1, f7, f8, h2, Int.ofNat_lt, Int.natCast_nonneg]
      refine ⟨m - 1, by omega, _, Ext.refl _, k + 1, by omega, rfl, rfl, fun i hi1 hi2 => ?_⟩
      by_cases e : i = k
      · subst e; simpa using h4
      · exact hno i hi1 (by omega)
  · have e : k = l.length := by omega
    subst e
    simp -implicitDefEqProofs only [go_sem, ↓reduceIte, reduceCtorEq, Int.reduceEq, Int.reduceLT, Int.reduceLE, Nat.reduceEqDiff, Nat.reduceAdd, Nat.reduceMul, Nat.reduceLeDiff, Nat.reduceSub, Int.reduceNeg, Nat.lt_irrefl, f0, f1, f7, f8, h2, Int.ofNat_lt, Int.natCast_nonneg]
    rw [firstAt_none (fun i hi => hno i hi hi)] at hq
    exact hq
def ifB1 : C := (.seq (.ops [q 4 (.mv (.c (i64 0)))])
 (.seq (.seq (.ops [q 6 (.mv (.t 0)), q 7 (.len (.t 6)), q 8 (.mv (.c (i64 0)))])
 (.block 0 (.loop (.seq (.ops [q 9 (.bin .lss (.t 8) (.t 7))])
 (.seq (.cond (.t 9) .skip (.exit 0))
 (.seq (.block 1 (.seq (.ops [q 10 (.mv (.t 8)), q 5 (.mv (.t 10))])
 (.seq (.ops [q 11 (.mv (.t 1)), q 12 (.mv (.t 0)), q 13 (.mv (.t 5)), q 14 (.idx 1 (.t 12) (.t 13)), q 15 (.ld false 1 (.t 14)), ⟨(some 16), none, .call (.t 11) [(.t 15)]⟩])
 (.cond (.t 16) (.seq (.ops [q 17 (.mv (.t 5)), q 4 (.mv (.t 17))])
 .ret) .skip))))
 (.ops [q 18 (.bin .add (.t 8) (.c (i64 1))), q 8 (.mv (.t 18))])))))))
 (.seq (.ops [q 4 (.mv (.c (i64 (-1))))])
 .ret)))
theorem if1_wpc {α : Type} {h : H} {v : Value} {l : List α} {ce : α → Value} {p : α → Bool} {n : Nat} {caps : List Value} (hv : Sl h v 1 (l.map fun x => [ce x])) (hn : l.length ≤ 1048576)
    (hc : ∀ x, x ∈ l → PC P n (ce x :: caps) h (.bool (p x))) {Q : Value → H → Prop} (hq : Q (i64 (firstAt p l)) h) :
    wpc P ifB1 (retw [.tmp 4] Q) (argsFr [v, .func (.func n) #[] caps.toArray]) h := by
  obtain ⟨a, c, b, o, rfl, hcap, h2, h3⟩ := hv
  simp only [List.length_map] at h2
  unfold ifB1
  simp -implicitDefEqProofs only [go_sem, ↓reduceIte, reduceCtorEq, Int.reduceEq, Int.reduceLT, Int.reduceLE, Nat.reduceEqDiff, Nat.reduceAdd, Nat.reduceMul, Nat.reduceLeDiff, Nat.reduceSub, Int.reduceNeg, List.length_map]
  refine loopW_of (fun m f h' => ∃ k, m + k = l.length ∧ h' = h ∧ f 0 = .slice a l.length c ∧ f 1 = .func (.func n) #[] caps.toArray ∧ f 7 = i64 l.length ∧ f 8 = i64 k ∧ ∀ i, (hi : i < l.length) → i < k → p l[i] = false) l.length
    ⟨0, by simp, rfl, by simp -implicitDefEqProofs only [go_sem, ↓reduceIte, reduceCtorEq, Int.reduceEq, Int.reduceLT, Int.reduceLE, Nat.reduceEqDiff, Nat.reduceAdd, Nat.reduceMul, Nat.reduceLeDiff, Nat.reduceSub, Int.reduceNeg, List.length_map], by simp -implicitDefEqProofs only [go_sem, ↓reduceIte, reduceCtorEq, Int.reduceEq, Int.reduceLT, Int.reduceLE, Nat.reduceEqDiff, Nat.reduceAdd, Nat.reduceMul, Nat.reduceLeDiff, Nat.reduceSub, Int.reduceNeg], by simp -implicitDefEqProofs only [go_sem, ↓reduceIte, reduceCtorEq, Int.reduceEq, Int.reduceLT, Int.reduceLE, Nat.reduceEqDiff, Nat.reduceAdd, Nat.reduceMul, Nat.reduceLeDiff, Nat.reduceSub, Int.reduceNeg], by simp -implicitDefEqProofs only [go_sem, ↓reduceIte, reduceCtorEq, Int.reduceEq, Int.reduceLT, Int.reduceLE, Nat.reduceEqDiff, Nat.reduceAdd, Nat.reduceMul, Nat.reduceLeDiff, Nat.reduceSub, Int.reduceNeg]; rfl, by omega⟩ ?_
  rintro m f h' ⟨k, hm, rfl, f0, f1, f7, f8, hno⟩
  skip
  by_cases hk : k < l.length
  · have e1 := h3 k [ce l[k]] (by simp [hk])
    simp -implicitDefEqProofs only [go_sem, ↓reduceIte, reduceCtorEq, Int.reduceEq, Int.reduceLT, Int.reduceLE, Nat.reduceEqDiff, Nat.reduceAdd, Nat.reduceMul, Nat.reduceLeDiff, Nat.reduceSub, Int.reduceNeg, hk, e1, f0, f1, f7, f8, h2, Int.ofNat_lt, Int.natCast_nonneg]
    refine (hc l[k] (List.getElem_mem hk)).use ?_
    simp -implicitDefEqProofs only [go_sem, ↓reduceIte, reduceCtorEq, Int.reduceEq, Int.reduceLT, Int.reduceLE, Nat.reduceEqDiff, Nat.reduceAdd, Nat.reduceMul, Nat.reduceLeDiff, Nat.reduceSub, Int.reduceNeg, f0, f1, f7, f8, h2, Int.ofNat_lt, Int.natCast_nonneg]
    refine Br.of (fun h4 => ?_) (fun h4 => ?_)
    · simp -implicitDefEqProofs only [go_sem, ↓reduceIte, reduceCtorEq, Int.reduceEq, Int.reduceLT, Int.reduceLE, Nat.reduceEqDiff, Nat.reduceAdd, Nat.reduceMul, Nat.reduceLeDiff, Nat.reduceSub, Int.reduceNeg, h4, f0, f1, f7, f8, h2, Int.ofNat_lt, Int.natCast_nonneg]
      rw [firstAt_some hk h4 (fun i hi => hno i (by omega) hi)] at hq
      exact hq
    · simp -implicitDefEqProofs only [go_sem, ↓reduceIte, reduceCtorEq, Int.reduceEq, Int.reduceLT, Int.reduceLE, Nat.reduceEqDiff, Nat.reduceAdd, Nat.reduceMul, Nat.reduceLeDiff, Nat.reduceSub, Int.reduceNeg, h4, wrap_i64 (show -(9223372036854775808 : Int) ≤ ((k : Int) + 1) by omega) (show ((k : Int) + 1) < 9223372036854775808 by omega), f0, f1, f7, f8, h2, Int.ofNat_lt, Int.natCast_nonneg]
      refine ⟨m - 1, by omega, _, Ext.refl _, k + 1, by omega, rfl, rfl, fun i hi1 hi2 => ?_⟩
      by_cases e : i = k
      · subst e; simpa using h4
      · exact hno i hi1 (by omega)
  · have e : k = l.length := by omega
    subst e
    simp -implicitDefEqProofs only [go_sem, ↓reduceIte, reduceCtorEq, Int.reduceEq, Int.reduceLT, Int.reduceLE, Nat.reduceEqDiff, Nat.reduceAdd, Nat.reduceMul, Nat.reduceLeDiff, Nat.reduceSub, Int.reduceNeg, Nat.lt_irrefl, f0, f1, f7, f8, h2, Int.ofNat_lt, Int.natCast_nonneg]
    rw [firstAt_none (fun i hi => hno i hi hi)] at hq
    exact hq
end
end Go.KH
