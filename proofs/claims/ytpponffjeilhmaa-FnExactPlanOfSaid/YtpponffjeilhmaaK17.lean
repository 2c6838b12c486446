/- A helper of this seat's claims (the logic of the walks): what it shows is shown for every input that its statements name, on no other condition. -/
import Derived.Test.YtpponffjeilhmaaK16
set_option linter.unusedVariables false
set_option linter.unusedSimpArgs false
set_option maxRecDepth 100000
namespace Go.KH
open Go.RowKit
abbrev q (d : Nat) (o : PO) : GO := ⟨some d, none, .p o⟩
abbrev qg (d t : Nat) (b : Bool) (o : PO) : GO := ⟨some d, some (t, b), .p o⟩

/-! ## The helpers of the laws: one text for all element types -/
theorem stc_row {h : H} {b z w : Nat} {rows : List (List Value)} {k : Nat} {r : List Value} (hw : Wid w rows) (hk : k < rows.length) (hr : r.length = w) (h1 : r.all Value.oneCell' = true) :
    stc (h.set b ⟨rows.flatten, z⟩) b (k * w) r w = some (h.set b ⟨(rows.set k r).flatten, z⟩) := by
  have h2 : k * w + w = (k + 1) * w := by rw [Nat.add_mul]; omega
  have h3 : k * w + w ≤ rows.flatten.length := by rw [flat_length hw, h2]; exact Nat.mul_le_mul_right _ hk
  rw [stc_same, if_pos ⟨hr, h3, h1⟩, flat_splice hw k hk hr]
theorem mid_set {α : Type} (l : List α) (z : α) (k : Nat) (hk : k < l.length) : (l.take k ++ List.replicate (l.length - k) z).set k l[k] = l.take (k + 1) ++ List.replicate (l.length - (k + 1)) z := by
  have h1 : (l.take k).length = k := by simp; omega
  rw [List.set_append_right _ _ (by omega), h1, Nat.sub_self, show l.length - k = (l.length - (k + 1)) + 1 by omega, List.replicate_succ, List.set_cons_zero, List.take_succ_eq_append_getElem hk, List.append_assoc, List.singleton_append]

/-- What is left of a size. -/
def lessn (left n : Int) : Int := if left - n < 0 then -1 else left - n

theorem lessn_nn {left n : Int} (h : ¬ lessn left n < 0) : n ≤ left ∧ lessn left n = left - n := by
  unfold lessn at h ⊢
  split
  · rename_i h2; rw [if_pos h2] at h; omega
  · rename_i h2; exact ⟨by omega, rfl⟩
section
variable {P : Program}

def szB1 : C := (.seq (.ops [q 4 (.mv (.c (i64 0)))])
 (.seq (.ops [q 5 (.mv (.t 1)), q 6 (.mv (.t 0)), q 7 (.len (.t 6)), q 8 (.bin .sub (.t 5) (.t 7)), q 1 (.mv (.t 8))])
 (.seq (.seq (.ops [q 9 (.mv (.t 1)), q 10 (.bin .lss (.t 9) (.c (i64 0)))])
 (.cond (.t 10) (.seq (.ops [q 4 (.mv (.c (i64 (-1))))])
 .ret) .skip))
 (.seq (.ops [q 11 (.mv (.t 1)), q 4 (.mv (.t 11))])
 .ret))))
theorem sz1_wpc {h : H} {a : Option Addr} {n c : Nat} {left : Int} (hn : n ≤ maxLen) (hl : 0 ≤ left ∧ left ≤ 1048576) {Q : Value → H → Prop} (hq : Q (i64 (lessn left n)) h) :
    wpc P szB1 (retw [.tmp 4] Q) (argsFr [.slice a n c, i64 left]) h := by
  unfold szB1
  have := show maxLen = 9223372036854775807 from rfl
  simp -implicitDefEqProofs only [go_sem, ↓reduceIte, reduceCtorEq, Int.reduceEq, Int.reduceLT, Int.reduceLE, Nat.reduceEqDiff, Nat.reduceAdd, Nat.reduceMul, Nat.reduceLeDiff, Nat.reduceSub, Int.reduceNeg, wrap_i64 (show -(9223372036854775808 : Int) ≤ left - n by omega) (show left - n < 9223372036854775808 by omega)]
  unfold lessn at hq
  refine Br.of (fun hc => ?_) (fun hc => ?_)
  · rw [if_pos hc] at hq; simp -implicitDefEqProofs only [go_sem, ↓reduceIte, reduceCtorEq, Int.reduceEq, Int.reduceLT, Int.reduceLE, Nat.reduceEqDiff, Nat.reduceAdd, Nat.reduceMul, Nat.reduceLeDiff, Nat.reduceSub, Int.reduceNeg, hc]; exact hq
  · rw [if_neg hc] at hq; simp -implicitDefEqProofs only [go_sem, ↓reduceIte, reduceCtorEq, Int.reduceEq, Int.reduceLT, Int.reduceLE, Nat.reduceEqDiff, Nat.reduceAdd, Nat.reduceMul, Nat.reduceLeDiff, Nat.reduceSub, Int.reduceNeg, hc]; exact hq

def szB2 (w f : Nat) : C := (.seq (.ops [q 4 (.mv (.c (i64 0)))])
 (.seq (.ops [q 6 (.mv (.t 1)), q 7 (.mv (.t 0)), q 8 (.len (.t 7)), q 9 (.bin .sub (.t 6) (.t 8)), q 1 (.mv (.t 9))])
 (.seq (.seq (.ops [q 10 (.mv (.t 1)), q 11 (.bin .lss (.t 10) (.c (i64 0)))])
 (.cond (.t 11) (.seq (.ops [q 4 (.mv (.c (i64 (-1))))])
 .ret) .skip))
 (.seq (.seq (.ops [q 5 (.mv (.c (i64 0)))])
 (.block 0 (.loop (.seq (.seq (.ops [q 12 (.mv (.t 5)), q 13 (.mv (.t 0)), q 14 (.len (.t 13)), q 15 (.bin .lss (.t 12) (.t 14))])
 (.cond (.t 15) .skip (.exit 0)))
 (.seq (.block 1 (.seq (.ops [q 18 (.mv (.t 0)), q 19 (.mv (.t 5)), q 20 (.idx w (.t 18) (.t 19)), q 21 (.ld true w (.t 20)), q 22 (.mv (.t 1)), ⟨(some 23), none, .call (.c (.func (.func f) #[] #[])) [(.t 21), (.t 22)]⟩, q 1 (.mv (.t 23))])
 (.seq (.ops [q 24 (.mv (.t 1)), q 25 (.bin .lss (.t 24) (.c (i64 0)))])
 (.cond (.t 25) (.seq (.ops [q 4 (.mv (.c (i64 (-1))))])
 .ret) .skip))))
 (.ops [q 16 (.mv (.t 5)), q 17 (.bin .add (.t 16) (.c (i64 1))), q 5 (.mv (.t 17))]))))))
 (.seq (.ops [q 26 (.mv (.t 1)), q 4 (.mv (.t 26))])
 .ret)))))
/-- The sizes of the elements, all told. -/
def sumn {α : Type} (g : α → Nat) (l : List α) : Nat := (l.map g).sum
theorem sumn_take {α : Type} (g : α → Nat) (l : List α) (k : Nat) (hk : k < l.length) : sumn g (l.take (k + 1)) = sumn g (l.take k) + g l[k] := by
  unfold sumn; rw [List.take_succ_eq_append_getElem hk, List.map_append, List.sum_append]
  simp only [List.map_cons, List.map_nil, List.sum_cons, List.sum_nil, Nat.add_zero]
theorem sumn_le {α : Type} (g : α → Nat) (l : List α) (k : Nat) : sumn g (l.take k) ≤ sumn g l := by
  have : sumn g l = sumn g (l.take k) + sumn g (l.drop k) := by unfold sumn; rw [← List.sum_append, ← List.map_append, List.take_append_drop]
  omega
theorem sz2_wpc {α : Type} {h : H} {v : Value} {l : List α} {ce : α → List Value} {g : α → Nat} {w f : Nat} {left : Int} (hv : Sl h v w (l.map ce)) (hn : l.length ≤ maxLen) (hl : 0 ≤ left ∧ left ≤ 1048576)
    (hc : ∀ (x : α) (left : Int), x ∈ l → 0 ≤ left ∧ left ≤ 1048576 → PC P f [.agg (ce x).toArray, i64 left] h (i64 (lessn left (g x)))) {Q : Value → H → Prop} (hq : Q (i64 (lessn left (l.length + sumn g l : Nat))) h) :
    wpc P (szB2 w f) (retw [.tmp 4] Q) (argsFr [v, i64 left]) h := by
  obtain ⟨a, c, b, o, rfl, hcap, h2, h3⟩ := hv
  unfold szB2
  have := show maxLen = 9223372036854775807 from rfl
  simp -implicitDefEqProofs only [go_sem, ↓reduceIte, reduceCtorEq, Int.reduceEq, Int.reduceLT, Int.reduceLE, Nat.reduceEqDiff, Nat.reduceAdd, Nat.reduceMul, Nat.reduceLeDiff, Nat.reduceSub, Int.reduceNeg, wrap_i64 (show -(9223372036854775808 : Int) ≤ left - l.length by omega) (show left - l.length < 9223372036854775808 by omega), List.length_map]
  refine Br.of (fun hlt => ?_) (fun hlt => ?_)
  · simp -implicitDefEqProofs only [go_sem, ↓reduceIte, reduceCtorEq, Int.reduceEq, Int.reduceLT, Int.reduceLE, Nat.reduceEqDiff, Nat.reduceAdd, Nat.reduceMul, Nat.reduceLeDiff, Nat.reduceSub, Int.reduceNeg, hlt]
    rw [show lessn left (l.length + sumn g l : Nat) = -1 by unfold lessn; rw [if_pos (by omega)]] at hq
    exact hq
  · simp -implicitDefEqProofs only [go_sem, ↓reduceIte, reduceCtorEq, Int.reduceEq, Int.reduceLT, Int.reduceLE, Nat.reduceEqDiff, Nat.reduceAdd, Nat.reduceMul, Nat.reduceLeDiff, Nat.reduceSub, Int.reduceNeg, hlt]
    refine loopW_of (fun m f h' => ∃ k, m + k = l.length ∧ h' = h ∧ f 0 = .slice a l.length c ∧ f 5 = i64 k ∧ ∃ r : Int, f 1 = i64 r ∧ 0 ≤ r ∧ r = left - l.length - sumn g (l.take k)) l.length ⟨0, by simp, rfl, by simp -implicitDefEqProofs only [go_sem, ↓reduceIte, reduceCtorEq, Int.reduceEq, Int.reduceLT, Int.reduceLE, Nat.reduceEqDiff, Nat.reduceAdd, Nat.reduceMul, Nat.reduceLeDiff, Nat.reduceSub, Int.reduceNeg, List.length_map], by simp -implicitDefEqProofs only [go_sem, ↓reduceIte, reduceCtorEq, Int.reduceEq, Int.reduceLT, Int.reduceLE, Nat.reduceEqDiff, Nat.reduceAdd, Nat.reduceMul, Nat.reduceLeDiff, Nat.reduceSub, Int.reduceNeg]; rfl, left - l.length, by simp -implicitDefEqProofs only [go_sem, ↓reduceIte, reduceCtorEq, Int.reduceEq, Int.reduceLT, Int.reduceLE, Nat.reduceEqDiff, Nat.reduceAdd, Nat.reduceMul, Nat.reduceLeDiff, Nat.reduceSub, Int.reduceNeg], by omega, by simp [sumn]⟩ ?_
    rintro m f h' ⟨k, hm, rfl, f0, f5, r, f1, hr0, hr⟩
    simp only [List.length_map] at h2
    skip
    by_cases hk : k < l.length
    · have e1 := h3 k (ce l[k]) (by simp [hk])
      have hs := sumn_take g l k hk
      have hs2 := sumn_le g l (k + 1)
      simp -implicitDefEqProofs only [go_sem, ↓reduceIte, reduceCtorEq, Int.reduceEq, Int.reduceLT, Int.reduceLE, Nat.reduceEqDiff, Nat.reduceAdd, Nat.reduceMul, Nat.reduceLeDiff, Nat.reduceSub, Int.reduceNeg, h2, hk, e1, f1, Int.ofNat_lt, Int.natCast_nonneg, f0, f5, f1, h2]
      refine (hc l[k] r (List.getElem_mem hk) (by omega)).use ?_
      simp -implicitDefEqProofs only [go_sem, ↓reduceIte, reduceCtorEq, Int.reduceEq, Int.reduceLT, Int.reduceLE, Nat.reduceEqDiff, Nat.reduceAdd, Nat.reduceMul, Nat.reduceLeDiff, Nat.reduceSub, Int.reduceNeg, f0, f5, f1, h2]
      refine Br.of (fun h4 => ?_) (fun h4 => ?_)
      · simp -implicitDefEqProofs only [go_sem, ↓reduceIte, reduceCtorEq, Int.reduceEq, Int.reduceLT, Int.reduceLE, Nat.reduceEqDiff, Nat.reduceAdd, Nat.reduceMul, Nat.reduceLeDiff, Nat.reduceSub, Int.reduceNeg, h4, f0, f5, f1, h2]
        have : lessn r (g l[k]) = -1 := by
          unfold lessn at h4 ⊢
          split
          · rfl
          · rename_i h9; rw [if_neg h9] at h4; exact absurd h4 h9
        rw [show lessn left (l.length + sumn g l : Nat) = -1 by unfold lessn at h4 ⊢; rw [if_pos]; split at h4 <;> omega] at hq
        exact hq
      · simp -implicitDefEqProofs only [go_sem, ↓reduceIte, reduceCtorEq, Int.reduceEq, Int.reduceLT, Int.reduceLE, Nat.reduceEqDiff, Nat.reduceAdd, Nat.reduceMul, Nat.reduceLeDiff, Nat.reduceSub, Int.reduceNeg, h4, f0, f5, f1, h2]
        have e : lessn r (g l[k]) = r - g l[k] := by
          unfold lessn at h4 ⊢
          split
          · rename_i h9; rw [if_pos h9] at h4; omega
          · rfl
        have h5 : 0 ≤ r - g l[k] := by rw [e] at h4; omega
        rw [wrap_i64 (by omega) (by omega), e]
        refine ⟨m - 1, by omega, h', Ext.refl _, k + 1, by omega, rfl, rfl, _, rfl, h5, by rw [hs]; omega⟩
    · have e : k = l.length := by omega
      subst e
      simp -implicitDefEqProofs only [go_sem, ↓reduceIte, reduceCtorEq, Int.reduceEq, Int.reduceLT, Int.reduceLE, Nat.reduceEqDiff, Nat.reduceAdd, Nat.reduceMul, Nat.reduceLeDiff, Nat.reduceSub, Int.reduceNeg, h2, Int.ofNat_lt, Nat.lt_irrefl, f1, f0, f5, f1, h2]
      rw [List.take_length] at hr
      rw [show lessn left (l.length + sumn g l : Nat) = r by unfold lessn; rw [if_neg (by omega)]; omega] at hq
      exact hq

def szBs : C := (.seq (.ops [q 4 (.mv (.c (i64 0)))])
 (.seq (.ops [q 6 (.mv (.t 1)), q 7 (.mv (.t 0)), q 8 (.len (.t 7)), q 9 (.bin .sub (.t 6) (.t 8)), q 1 (.mv (.t 9))])
 (.seq (.seq (.ops [q 10 (.mv (.t 1)), q 11 (.bin .lss (.t 10) (.c (i64 0)))])
 (.cond (.t 11) (.seq (.ops [q 4 (.mv (.c (i64 (-1))))])
 .ret) .skip))
 (.seq (.seq (.ops [q 5 (.mv (.c (i64 0)))])
 (.block 0 (.loop (.seq (.seq (.ops [q 12 (.mv (.t 5)), q 13 (.mv (.t 0)), q 14 (.len (.t 13)), q 15 (.bin .lss (.t 12) (.t 14))])
 (.cond (.t 15) .skip (.exit 0)))
 (.seq (.block 1 (.seq (.ops [q 18 (.mv (.t 1)), q 19 (.mv (.t 0)), q 20 (.mv (.t 5)), q 21 (.idx 1 (.t 19) (.t 20)), q 22 (.ld false 1 (.t 21)), q 23 (.slen (.t 22)), q 24 (.bin .sub (.t 18) (.t 23)), q 1 (.mv (.t 24))])
 (.seq (.ops [q 25 (.mv (.t 1)), q 26 (.bin .lss (.t 25) (.c (i64 0)))])
 (.cond (.t 26) (.seq (.ops [q 4 (.mv (.c (i64 (-1))))])
 .ret) .skip))))
 (.ops [q 16 (.mv (.t 5)), q 17 (.bin .add (.t 16) (.c (i64 1))), q 5 (.mv (.t 17))]))))))
 (.seq (.ops [q 27 (.mv (.t 1)), q 4 (.mv (.t 27))])
 .ret)))))
theorem szs_wpc {h : H} {v : Value} {l : List (List UInt8)} {left : Int} (hv : Sl h v 1 (l.map fun s => [str s])) (hn : l.length ≤ maxLen) (hn2 : ∀ s ∈ l, s.length ≤ maxLen) (hl : 0 ≤ left ∧ left ≤ 1048576)
    {Q : Value → H → Prop} (hq : Q (i64 (lessn left (l.length + sumn List.length l : Nat))) h) :
    wpc P szBs (retw [.tmp 4] Q) (argsFr [v, i64 left]) h := by
  obtain ⟨a, c, b, o, rfl, hcap, h2, h3⟩ := hv
  unfold szBs
  have := show maxLen = 9223372036854775807 from rfl
  simp -implicitDefEqProofs only [go_sem, ↓reduceIte, reduceCtorEq, Int.reduceEq, Int.reduceLT, Int.reduceLE, Nat.reduceEqDiff, Nat.reduceAdd, Nat.reduceMul, Nat.reduceLeDiff, Nat.reduceSub, Int.reduceNeg, wrap_i64 (show -(9223372036854775808 : Int) ≤ left - l.length by omega) (show left - l.length < 9223372036854775808 by omega), List.length_map]
  refine Br.of (fun hlt => ?_) (fun hlt => ?_)
  · simp -implicitDefEqProofs only [go_sem, ↓reduceIte, reduceCtorEq, Int.reduceEq, Int.reduceLT, Int.reduceLE, Nat.reduceEqDiff, Nat.reduceAdd, Nat.reduceMul, Nat.reduceLeDiff, Nat.reduceSub, Int.reduceNeg, hlt]
    rw [show lessn left (l.length + sumn List.length l : Nat) = -1 by unfold lessn; rw [if_pos (by omega)]] at hq
    exact hq
  · simp -implicitDefEqProofs only [go_sem, ↓reduceIte, reduceCtorEq, Int.reduceEq, Int.reduceLT, Int.reduceLE, Nat.reduceEqDiff, Nat.reduceAdd, Nat.reduceMul, Nat.reduceLeDiff, Nat.reduceSub, Int.reduceNeg, hlt]
    refine loopW_of (fun m f h' => ∃ k, m + k = l.length ∧ h' = h ∧ f 0 = .slice a l.length c ∧ f 5 = i64 k ∧ ∃ r : Int, f 1 = i64 r ∧ 0 ≤ r ∧ r = left - l.length - sumn List.length (l.take k)) l.length ⟨0, by simp, rfl, by simp -implicitDefEqProofs only [go_sem, ↓reduceIte, reduceCtorEq, Int.reduceEq, Int.reduceLT, Int.reduceLE, Nat.reduceEqDiff, Nat.reduceAdd, Nat.reduceMul, Nat.reduceLeDiff, Nat.reduceSub, Int.reduceNeg, List.length_map], by simp -implicitDefEqProofs only [go_sem, ↓reduceIte, reduceCtorEq, Int.reduceEq, Int.reduceLT, Int.reduceLE, Nat.reduceEqDiff, Nat.reduceAdd, Nat.reduceMul, Nat.reduceLeDiff, Nat.reduceSub, Int.reduceNeg]; rfl, left - l.length, by simp -implicitDefEqProofs only [go_sem, ↓reduceIte, reduceCtorEq, Int.reduceEq, Int.reduceLT, Int.reduceLE, Nat.reduceEqDiff, Nat.reduceAdd, Nat.reduceMul, Nat.reduceLeDiff, Nat.reduceSub, Int.reduceNeg], by omega, by simp [sumn]⟩ ?_
    rintro m f h' ⟨k, hm, rfl, f0, f5, r, f1, hr0, hr⟩
    simp only [List.length_map] at h2
    skip
    by_cases hk : k < l.length
    · have e1 := h3 k [str l[k]] (by simp [hk])
      have hs := sumn_take List.length l k hk
      have hs2 := sumn_le List.length l (k + 1)
      have h8 := hn2 l[k] (List.getElem_mem hk)
      simp -implicitDefEqProofs only [go_sem, ↓reduceIte, reduceCtorEq, Int.reduceEq, Int.reduceLT, Int.reduceLE, Nat.reduceEqDiff, Nat.reduceAdd, Nat.reduceMul, Nat.reduceLeDiff, Nat.reduceSub, Int.reduceNeg, h2, hk, e1, Int.ofNat_lt, Int.natCast_nonneg, wrap_i64 (show -(9223372036854775808 : Int) ≤ r - (l[k].length : Nat) by omega) (show r - (l[k].length : Nat) < 9223372036854775808 by omega), f5, f0, f0, f5, f1, h2]
      refine Br.of (fun h4 => ?_) (fun h4 => ?_)
      · simp -implicitDefEqProofs only [go_sem, ↓reduceIte, reduceCtorEq, Int.reduceEq, Int.reduceLT, Int.reduceLE, Nat.reduceEqDiff, Nat.reduceAdd, Nat.reduceMul, Nat.reduceLeDiff, Nat.reduceSub, Int.reduceNeg, h4, f0, f5, f1, h2]
        rw [show lessn left (l.length + sumn List.length l : Nat) = -1 by unfold lessn; rw [if_pos]; omega] at hq
        exact hq
      · simp -implicitDefEqProofs only [go_sem, ↓reduceIte, reduceCtorEq, Int.reduceEq, Int.reduceLT, Int.reduceLE, Nat.reduceEqDiff, Nat.reduceAdd, Nat.reduceMul, Nat.reduceLeDiff, Nat.reduceSub, Int.reduceNeg, h4, f0, f5, f1, h2]
        rw [wrap_i64 (by omega) (by omega)]
        refine ⟨m - 1, by omega, h', Ext.refl _, k + 1, by omega, rfl, rfl, _, rfl, by omega, by rw [hs]; omega⟩
    · have e : k = l.length := by omega
      subst e
      simp -implicitDefEqProofs only [go_sem, ↓reduceIte, reduceCtorEq, Int.reduceEq, Int.reduceLT, Int.reduceLE, Nat.reduceEqDiff, Nat.reduceAdd, Nat.reduceMul, Nat.reduceLeDiff, Nat.reduceSub, Int.reduceNeg, h2, Int.ofNat_lt, Nat.lt_irrefl, f1, f0, f5, f1, h2]
      rw [List.take_length] at hr
      rw [show lessn left (l.length + sumn List.length l : Nat) = r by unfold lessn; rw [if_neg (by omega)]; omega] at hq
      exact hq

def toB (w by_ : Nat) (z : List Value) (f : Nat) : C := (.seq (.ops [q 2 (.mv (.c nils))])
 (.seq (.ops [q 5 (.mv (.t 0)), q 6 (.len (.t 5)), ⟨(some 7), none, .mks w by_ z (.t 6) (.t 6)⟩, q 3 (.mv (.t 7))])
 (.seq (.seq (.ops [q 4 (.mv (.c (i64 0)))])
 (.block 0 (.loop (.seq (.seq (.ops [q 8 (.mv (.t 4)), q 9 (.mv (.t 0)), q 10 (.len (.t 9)), q 11 (.bin .lss (.t 8) (.t 10))])
 (.cond (.t 11) .skip (.exit 0)))
 (.seq (.block 1 (.ops [q 14 (.mv (.t 3)), q 15 (.mv (.t 4)), q 16 (.mv (.t 0)), q 17 (.mv (.t 4)), q 18 (.idx w (.t 16) (.t 17)), q 19 (.ld true w (.t 18)), ⟨(some 20), none, .call (.c (.func (.func f) #[] #[])) [(.t 19)]⟩, q 21 (.idx w (.t 14) (.t 15)), ⟨none, none, .st w (.t 21) (.t 20)⟩]))
 (.ops [q 12 (.mv (.t 4)), q 13 (.bin .add (.t 12) (.c (i64 1))), q 4 (.mv (.t 13))]))))))
 (.seq (.ops [q 22 (.mv (.t 3)), q 2 (.mv (.t 22))])
 .ret))))
theorem to_wpc {h : H} {v : Value} {rows : List (List Value)} {w by_ f : Nat} {z : List Value} (hv : Sl h v w rows) (hw : Wid w rows) (hz : z.length = w) (hby : by_ ≤ 1000) (hn : rows.length ≤ 1048576) (h1 : ∀ r ∈ rows, r.all Value.oneCell' = true)
    (hc : ∀ (h : H) (r : List Value), r ∈ rows → PC P f [.agg r.toArray] h (.agg r.toArray)) {Q : Value → H → Prop} (hq : ∀ v' h', Ext h h' → Fre h h' v' w rows → Q v' h') :
    wpc P (toB w by_ z f) (retw [.tmp 2] Q) (argsFr [v]) h := by
  obtain ⟨a, c, b, o, rfl, hcap, h2, h3⟩ := hv
  unfold toB
  have h7 : (by_ : Int) * (rows.length : Int) ≤ 1000 * 1048576 := by
    have : by_ * rows.length ≤ 1000 * 1048576 := Nat.mul_le_mul hby hn
    rw [← Int.natCast_mul]; omega
  simp -implicitDefEqProofs only [go_sem, ↓reduceIte, reduceCtorEq, Int.reduceEq, Int.reduceLT, Int.reduceLE, Nat.reduceEqDiff, Nat.reduceAdd, Nat.reduceMul, Nat.reduceLeDiff, Nat.reduceSub, Int.reduceNeg, Int.natCast_nonneg, Int.le_refl, show (rows.length : Int) < 1099511627776 by omega, show (by_ : Int) * (rows.length : Int) ≤ 140737488355328 by omega, List.length_map]
  intro b' hb1 hb2
  simp -implicitDefEqProofs only [go_sem, ↓reduceIte, reduceCtorEq, Int.reduceEq, Int.reduceLT, Int.reduceLE, Nat.reduceEqDiff, Nat.reduceAdd, Nat.reduceMul, Nat.reduceLeDiff, Nat.reduceSub, Int.reduceNeg]
  refine loopW_of (fun m f h' => ∃ k, m + k = rows.length ∧ h' = h.set b' ⟨(rows.take k ++ List.replicate (rows.length - k) z).flatten, rows.length * w⟩ ∧ f 0 = .slice a rows.length c ∧ f 3 = sl b' 0 rows.length rows.length ∧ f 4 = i64 k) rows.length ⟨0, by simp, by simp, by simp -implicitDefEqProofs only [go_sem, ↓reduceIte, reduceCtorEq, Int.reduceEq, Int.reduceLT, Int.reduceLE, Nat.reduceEqDiff, Nat.reduceAdd, Nat.reduceMul, Nat.reduceLeDiff, Nat.reduceSub, Int.reduceNeg], by simp -implicitDefEqProofs only [go_sem, ↓reduceIte, reduceCtorEq, Int.reduceEq, Int.reduceLT, Int.reduceLE, Nat.reduceEqDiff, Nat.reduceAdd, Nat.reduceMul, Nat.reduceLeDiff, Nat.reduceSub, Int.reduceNeg], by simp -implicitDefEqProofs only [go_sem, ↓reduceIte, reduceCtorEq, Int.reduceEq, Int.reduceLT, Int.reduceLE, Nat.reduceEqDiff, Nat.reduceAdd, Nat.reduceMul, Nat.reduceLeDiff, Nat.reduceSub, Int.reduceNeg]; rfl⟩ ?_
  rintro m f h' ⟨k, hm, rfl, f0, f3, f4⟩
  have hw2 : Wid w (rows.take k ++ List.replicate (rows.length - k) z) := (hw.take k).append (Wid.rep hz _)
  by_cases hk : k < rows.length
  · have e1 := ldc_sub (Sub.set (Sub.refl h) hb2 ⟨(rows.take k ++ List.replicate (rows.length - k) z).flatten, rows.length * w⟩) (h3 k rows[k] (by simp))
    simp -implicitDefEqProofs only [go_sem, ↓reduceIte, reduceCtorEq, Int.reduceEq, Int.reduceLT, Int.reduceLE, Nat.reduceEqDiff, Nat.reduceAdd, Nat.reduceMul, Nat.reduceLeDiff, Nat.reduceSub, Int.reduceNeg, f0, f3, f4, h2, hk, e1, Int.ofNat_lt, Int.natCast_nonneg]
    refine (hc _ rows[k] (List.getElem_mem hk)).use ?_
    have e2 := stc_row (h := h) (b := b') (z := rows.length * w) (k := k) (r := rows[k]) hw2 (by simp; omega) (hw _ (List.getElem_mem hk)) (h1 _ (List.getElem_mem hk))
    rw [mid_set rows z k hk] at e2
    simp -implicitDefEqProofs only [go_sem, ↓reduceIte, reduceCtorEq, Int.reduceEq, Int.reduceLT, Int.reduceLE, Nat.reduceEqDiff, Nat.reduceAdd, Nat.reduceMul, Nat.reduceLeDiff, Nat.reduceSub, Int.reduceNeg, hb1, e2, f4, f3, f0, hk, Int.ofNat_lt, Int.natCast_nonneg]
    rw [wrap_i64 (by omega) (by omega)]
    refine ⟨m - 1, by omega, _, Ext.refl _, k + 1, by omega, ?_⟩
    repeat' first | apply And.intro | rfl | trivial | assumption | omega
  · have e : k = rows.length := by omega
    subst e
    simp -implicitDefEqProofs only [go_sem, ↓reduceIte, reduceCtorEq, Int.reduceEq, Int.reduceLT, Int.reduceLE, Nat.reduceEqDiff, Nat.reduceAdd, Nat.reduceMul, Nat.reduceLeDiff, Nat.reduceSub, Int.reduceNeg, f0, f4, h2, Int.ofNat_lt, Nat.lt_irrefl, f3, List.take_length, Nat.sub_self, List.replicate_zero]
    exact hq _ _ ((Ext.refl h).set hb2 _) (.inr ⟨b', rows.length, _, rfl, Nat.le_refl _, hb1, hb2, H.set_get_same _ _ _, List.prefix_refl _, hw⟩)

def toB1 (by_ : Nat) (z : Value) : C := (.seq (.ops [q 2 (.mv (.c nils))])
 (.seq (.ops [q 5 (.mv (.t 0)), q 6 (.len (.t 5)), ⟨(some 7), none, .mks 1 by_ [z] (.t 6) (.t 6)⟩, q 3 (.mv (.t 7))])
 (.seq (.seq (.ops [q 4 (.mv (.c (i64 0)))])
 (.block 0 (.loop (.seq (.seq (.ops [q 8 (.mv (.t 4)), q 9 (.mv (.t 0)), q 10 (.len (.t 9)), q 11 (.bin .lss (.t 8) (.t 10))])
 (.cond (.t 11) .skip (.exit 0)))
 (.seq (.block 1 (.ops [q 14 (.mv (.t 3)), q 15 (.mv (.t 4)), q 16 (.mv (.t 0)), q 17 (.mv (.t 4)), q 18 (.idx 1 (.t 16) (.t 17)), q 19 (.ld false 1 (.t 18)), q 20 (.idx 1 (.t 14) (.t 15)), ⟨none, none, .st 1 (.t 20) (.t 19)⟩]))
 (.ops [q 12 (.mv (.t 4)), q 13 (.bin .add (.t 12) (.c (i64 1))), q 4 (.mv (.t 13))]))))))
 (.seq (.ops [q 21 (.mv (.t 3)), q 2 (.mv (.t 21))])
 .ret))))
theorem to1_wpc {h : H} {v z : Value} {vs : List Value} {by_ : Nat} (hv : Sl h v 1 (vs.map fun x => [x])) (hby : by_ ≤ 1000) (hn : vs.length ≤ 1048576) (h1 : ∀ x ∈ vs, x.oneCell' = true ∧ vcl x = [x])
    {Q : Value → H → Prop} (hq : ∀ v' h', Ext h h' → Fre h h' v' 1 (vs.map fun x => [x]) → Q v' h') :
    wpc P (toB1 by_ z) (retw [.tmp 2] Q) (argsFr [v]) h := by
  obtain ⟨a, c, b, o, rfl, hcap, h2, h3⟩ := hv
  unfold toB1
  have h7 : (by_ : Int) * (vs.length : Int) ≤ 1000 * 1048576 := by
    have : by_ * vs.length ≤ 1000 * 1048576 := Nat.mul_le_mul hby hn
    rw [← Int.natCast_mul]; omega
  have hw : Wid 1 (vs.map fun x => [x]) := Wid.map fun _ => rfl
  simp -implicitDefEqProofs only [go_sem, ↓reduceIte, reduceCtorEq, Int.reduceEq, Int.reduceLT, Int.reduceLE, Nat.reduceEqDiff, Nat.reduceAdd, Nat.reduceMul, Nat.reduceLeDiff, Nat.reduceSub, Int.reduceNeg, Int.natCast_nonneg, Int.le_refl, show (vs.length : Int) < 1099511627776 by omega, show (by_ : Int) * (vs.length : Int) ≤ 140737488355328 by omega, List.length_map]
  intro b' hb1 hb2
  simp -implicitDefEqProofs only [go_sem, ↓reduceIte, reduceCtorEq, Int.reduceEq, Int.reduceLT, Int.reduceLE, Nat.reduceEqDiff, Nat.reduceAdd, Nat.reduceMul, Nat.reduceLeDiff, Nat.reduceSub, Int.reduceNeg]
  refine loopW_of (fun m f h' => ∃ k, m + k = vs.length ∧ h' = h.set b' ⟨(((vs.map fun x => [x]).take k) ++ List.replicate ((vs.map fun x => [x]).length - k) [z]).flatten, vs.length * 1⟩ ∧ f 0 = .slice a vs.length c ∧ f 3 = sl b' 0 vs.length vs.length ∧ f 4 = i64 k) vs.length ⟨0, by simp, by simp, by simp -implicitDefEqProofs only [go_sem, ↓reduceIte, reduceCtorEq, Int.reduceEq, Int.reduceLT, Int.reduceLE, Nat.reduceEqDiff, Nat.reduceAdd, Nat.reduceMul, Nat.reduceLeDiff, Nat.reduceSub, Int.reduceNeg, List.length_map], by simp -implicitDefEqProofs only [go_sem, ↓reduceIte, reduceCtorEq, Int.reduceEq, Int.reduceLT, Int.reduceLE, Nat.reduceEqDiff, Nat.reduceAdd, Nat.reduceMul, Nat.reduceLeDiff, Nat.reduceSub, Int.reduceNeg], by simp -implicitDefEqProofs only [go_sem, ↓reduceIte, reduceCtorEq, Int.reduceEq, Int.reduceLT, Int.reduceLE, Nat.reduceEqDiff, Nat.reduceAdd, Nat.reduceMul, Nat.reduceLeDiff, Nat.reduceSub, Int.reduceNeg]; rfl⟩ ?_
  rintro m f h' ⟨k, hm, rfl, f0, f3, f4⟩
  have hw2 : Wid 1 ((vs.map fun x => [x]).take k ++ List.replicate ((vs.map fun x => [x]).length - k) [z]) := (hw.take k).append (Wid.rep rfl _)
  simp only [List.length_map] at h2
  by_cases hk : k < vs.length
  · have e1 := ldc_sub (Sub.set (Sub.refl h) hb2 ⟨((vs.map fun x => [x]).take k ++ List.replicate ((vs.map fun x => [x]).length - k) [z]).flatten, vs.length * 1⟩) (h3 k [vs[k]] (by simp [hk]))
    have h8 := h1 vs[k] (List.getElem_mem hk)
    have e2 := stc_row (h := h) (b := b') (z := vs.length * 1) (k := k) (r := [vs[k]]) hw2 (by simp; omega) rfl (by simp [h8.1])
    have e3 := mid_set (vs.map fun x => [x]) [z] k (by simpa using hk)
    simp only [List.getElem_map] at e3
    rw [e3] at e2
    simp -implicitDefEqProofs only [go_sem, ↓reduceIte, reduceCtorEq, Int.reduceEq, Int.reduceLT, Int.reduceLE, Nat.reduceEqDiff, Nat.reduceAdd, Nat.reduceMul, Nat.reduceLeDiff, Nat.reduceSub, Int.reduceNeg, h2, hk, e1, Int.ofNat_lt, Int.natCast_nonneg, f3, f4, hb1, h8.2, e2, f0]

    rw [wrap_i64 (by omega) (by omega)]
    refine ⟨m - 1, by omega, _, Ext.refl _, k + 1, by omega, ?_⟩
    repeat' first | apply And.intro | rfl | trivial | assumption | omega
  · have e : k = vs.length := by omega
    subst e
    simp -implicitDefEqProofs only [go_sem, ↓reduceIte, reduceCtorEq, Int.reduceEq, Int.reduceLT, Int.reduceLE, Nat.reduceEqDiff, Nat.reduceAdd, Nat.reduceMul, Nat.reduceLeDiff, Nat.reduceSub, Int.reduceNeg, f0, f4, h2, Int.ofNat_lt, Nat.lt_irrefl, f3]
    refine hq _ _ ((Ext.refl h).set hb2 _) (.inr ⟨b', vs.length, _, by simp, by simp, hb1, hb2, H.set_get_same _ _ _, ?_, hw⟩)
    rw [show List.take vs.length (vs.map fun x => [x]) = vs.map fun x => [x] by rw [List.take_of_length_le]; simp]
    simp
end
end Go.KH
