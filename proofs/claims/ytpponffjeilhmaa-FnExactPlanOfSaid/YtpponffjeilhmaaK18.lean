/- A helper of this seat's claims (the logic of the walks): what it shows is shown for every input that its statements name, on no other condition. -/
import Derived.Test.YtpponffjeilhmaaK17
set_option linter.unusedVariables false
set_option linter.unusedSimpArgs false
set_option maxRecDepth 100000
namespace Go.KH
open Go.RowKit

/-! ## The helpers of the laws: equality -/
theorem take_eq_succ {α : Type} {l1 l2 : List α} {k : Nat} (h1 : k < l1.length) (h2 : k < l2.length) (e : l1.take k = l2.take k) (e2 : l1[k] = l2[k]) : l1.take (k + 1) = l2.take (k + 1) := by
  rw [List.take_succ_eq_append_getElem h1, List.take_succ_eq_append_getElem h2, e, e2]
section
variable {P : Program}

def eqB (w f : Nat) : C := (.seq (.ops [q 4 (.mv (.c (.bool false)))])
 (.seq (.seq (.ops [q 6 (.mv (.t 0)), q 7 (.len (.t 6)), q 8 (.mv (.t 1)), q 9 (.len (.t 8)), q 10 (.bin .neq (.t 7) (.t 9))])
 (.cond (.t 10) (.seq (.ops [q 4 (.mv (.c (.bool false)))])
 .ret) .skip))
 (.seq (.seq (.ops [q 5 (.mv (.c (i64 0)))])
 (.block 0 (.loop (.seq (.seq (.ops [q 11 (.mv (.t 5)), q 12 (.mv (.t 0)), q 13 (.len (.t 12)), q 14 (.bin .lss (.t 11) (.t 13))])
 (.cond (.t 14) .skip (.exit 0)))
 (.seq (.block 1 (.seq (.dops true (.tk (q 17 (.mv (.t 0))) (.tk (q 18 (.mv (.t 5))) (.tk (q 19 (.idx w (.t 17) (.t 18))) (.tk (q 20 (.ld true w (.t 19))) (.tk (q 21 (.mv (.t 1))) (.tk (q 22 (.mv (.t 5))) (.tk (q 23 (.idx w (.t 21) (.t 22))) (.tk (q 24 (.ld true w (.t 23))) (.sq (⟨(some 25), none, .call (.c (.func (.func f) #[] #[])) [(.t 20), (.t 24)]⟩) (.tk (q 26 (.un .not (.t 25))) .nil)))))))))))
 (.cond (.t 26) (.seq (.ops [q 4 (.mv (.c (.bool false)))])
 .ret) .skip)))
 (.ops [q 15 (.mv (.t 5)), q 16 (.bin .add (.t 15) (.c (i64 1))), q 5 (.mv (.t 16))]))))))
 (.seq (.ops [q 4 (.mv (.c (.bool true)))])
 .ret))))
theorem eq_wpc {α : Type} [DecidableEq α] {h : H} {v1 v2 : Value} {l1 l2 : List α} {ce : α → List Value} {w f : Nat} (hv : Sl h v1 w (l1.map ce)) (hu : Sl h v2 w (l2.map ce)) (hn : l1.length ≤ maxLen)
    (hc : ∀ a b, a ∈ l1 → b ∈ l2 → PC P f [.agg (ce a).toArray, .agg (ce b).toArray] h (.bool (decide (a = b)))) {Q : Value → H → Prop} (hq : Q (.bool (decide (l1 = l2))) h) :
    wpc P (eqB w f) (retw [.tmp 4] Q) (argsFr [v1, v2]) h := by
  obtain ⟨a, c, b, o, rfl, hcap, h2, h3⟩ := hv
  obtain ⟨a', c', b', o', rfl, hcap', k2, k3⟩ := hu
  have hm63 := show maxLen = 9223372036854775807 from rfl
  simp only [List.length_map] at h2 k2
  unfold eqB
  simp -implicitDefEqProofs only [go_sem, ↓reduceIte, reduceCtorEq, Int.reduceEq, Int.reduceLT, Int.reduceLE, Nat.reduceEqDiff, Nat.reduceAdd, Nat.reduceMul, Nat.reduceLeDiff, Nat.reduceSub, Int.reduceNeg, List.length_map]
  refine (Br.of (fun hne => ?_) (fun hne => ?_))
  rotate_left
  · have : l1 ≠ l2 := fun e => hne (by rw [e])
    simp -implicitDefEqProofs only [go_sem, ↓reduceIte, reduceCtorEq, Int.reduceEq, Int.reduceLT, Int.reduceLE, Nat.reduceEqDiff, Nat.reduceAdd, Nat.reduceMul, Nat.reduceLeDiff, Nat.reduceSub, Int.reduceNeg, hne]
    rw [decide_eq_false this] at hq
    exact hq
  · simp -implicitDefEqProofs only [go_sem, ↓reduceIte, reduceCtorEq, Int.reduceEq, Int.reduceLT, Int.reduceLE, Nat.reduceEqDiff, Nat.reduceAdd, Nat.reduceMul, Nat.reduceLeDiff, Nat.reduceSub, Int.reduceNeg, hne]
    have hlen : l1.length = l2.length := by omega
    refine loopW_of (fun m f h' => ∃ k, m + k = l1.length ∧ h' = h ∧ f 0 = .slice a l1.length c ∧ f 1 = .slice a' l2.length c' ∧ f 5 = i64 k ∧ l1.take k = l2.take k) l1.length ⟨0, by simp, rfl, by simp -implicitDefEqProofs only [go_sem, ↓reduceIte, reduceCtorEq, Int.reduceEq, Int.reduceLT, Int.reduceLE, Nat.reduceEqDiff, Nat.reduceAdd, Nat.reduceMul, Nat.reduceLeDiff, Nat.reduceSub, Int.reduceNeg, List.length_map], by simp -implicitDefEqProofs only [go_sem, ↓reduceIte, reduceCtorEq, Int.reduceEq, Int.reduceLT, Int.reduceLE, Nat.reduceEqDiff, Nat.reduceAdd, Nat.reduceMul, Nat.reduceLeDiff, Nat.reduceSub, Int.reduceNeg, List.length_map], by simp -implicitDefEqProofs only [go_sem, ↓reduceIte, reduceCtorEq, Int.reduceEq, Int.reduceLT, Int.reduceLE, Nat.reduceEqDiff, Nat.reduceAdd, Nat.reduceMul, Nat.reduceLeDiff, Nat.reduceSub, Int.reduceNeg]; rfl, by simp⟩ ?_
    rintro m f h' ⟨k, hm, rfl, f0, f1, f5, he⟩
    skip
    by_cases hk : k < l1.length
    · have hk2 : k < l2.length := by omega
      have e1 := h3 k (ce l1[k]) (by simp [hk])
      have e2 := k3 k (ce l2[k]) (by simp [hk2])
      simp -implicitDefEqProofs only [go_sem, ↓reduceIte, reduceCtorEq, Int.reduceEq, Int.reduceLT, Int.reduceLE, Nat.reduceEqDiff, Nat.reduceAdd, Nat.reduceMul, Nat.reduceLeDiff, Nat.reduceSub, Int.reduceNeg, f0, f1, f5, h2, k2, hk, hk2, e1, e2, Int.ofNat_lt, Int.natCast_nonneg, f0, f1, f5, h2, k2]
      refine (hc l1[k] l2[k] (List.getElem_mem hk) (List.getElem_mem hk2)).use ?_
      simp -implicitDefEqProofs only [go_sem, ↓reduceIte, reduceCtorEq, Int.reduceEq, Int.reduceLT, Int.reduceLE, Nat.reduceEqDiff, Nat.reduceAdd, Nat.reduceMul, Nat.reduceLeDiff, Nat.reduceSub, Int.reduceNeg, f0, f1, f5, f0, f1, f5, h2, k2]
      refine Br.of (fun h4 => ?_) (fun h4 => ?_)
      rotate_left
      · have : l1 ≠ l2 := fun e => h4 (by subst e; rfl)
        rw [decide_eq_false this] at hq
        simp -implicitDefEqProofs only [go_sem, ↓reduceIte, reduceCtorEq, Int.reduceEq, Int.reduceLT, Int.reduceLE, Nat.reduceEqDiff, Nat.reduceAdd, Nat.reduceMul, Nat.reduceLeDiff, Nat.reduceSub, Int.reduceNeg, h4, f0, f1, f5, h2, k2]
        exact hq
      · simp -implicitDefEqProofs only [go_sem, ↓reduceIte, reduceCtorEq, Int.reduceEq, Int.reduceLT, Int.reduceLE, Nat.reduceEqDiff, Nat.reduceAdd, Nat.reduceMul, Nat.reduceLeDiff, Nat.reduceSub, Int.reduceNeg, h4, f0, f1, f5, f0, f1, f5, h2, k2]
        rw [wrap_i64 (by omega) (by omega)]
        refine ⟨m - 1, by omega, h', Ext.refl _, k + 1, by omega, ?_⟩
        have := take_eq_succ hk hk2 he h4
        repeat' first | apply And.intro | rfl | trivial | assumption | omega
    · have e : k = l1.length := by omega
      subst e
      simp -implicitDefEqProofs only [go_sem, ↓reduceIte, reduceCtorEq, Int.reduceEq, Int.reduceLT, Int.reduceLE, Nat.reduceEqDiff, Nat.reduceAdd, Nat.reduceMul, Nat.reduceLeDiff, Nat.reduceSub, Int.reduceNeg, f0, f1, f5, h2, Int.ofNat_lt, Nat.lt_irrefl, f0, f1, f5, h2, k2]
      rw [List.take_length, hlen, List.take_length] at he
      rw [decide_eq_true he] at hq
      exact hq

def eqB1 : C := (.seq (.ops [q 4 (.mv (.c (.bool false)))])
 (.seq (.seq (.ops [q 6 (.mv (.t 0)), q 7 (.len (.t 6)), q 8 (.mv (.t 1)), q 9 (.len (.t 8)), q 10 (.bin .neq (.t 7) (.t 9))])
 (.cond (.t 10) (.seq (.ops [q 4 (.mv (.c (.bool false)))])
 .ret) .skip))
 (.seq (.seq (.ops [q 5 (.mv (.c (i64 0)))])
 (.block 0 (.loop (.seq (.seq (.ops [q 11 (.mv (.t 5)), q 12 (.mv (.t 0)), q 13 (.len (.t 12)), q 14 (.bin .lss (.t 11) (.t 13))])
 (.cond (.t 14) .skip (.exit 0)))
 (.seq (.block 1 (.seq (.dops true (.tk (q 17 (.mv (.t 0))) (.tk (q 18 (.mv (.t 5))) (.tk (q 19 (.idx 1 (.t 17) (.t 18))) (.tk (q 20 (.ld false 1 (.t 19))) (.tk (q 21 (.mv (.t 1))) (.tk (q 22 (.mv (.t 5))) (.tk (q 23 (.idx 1 (.t 21) (.t 22))) (.tk (q 24 (.ld false 1 (.t 23))) (.tk (q 25 (.bin .neq (.t 20) (.t 24))) .nil))))))))))
 (.cond (.t 25) (.seq (.ops [q 4 (.mv (.c (.bool false)))])
 .ret) .skip)))
 (.ops [q 15 (.mv (.t 5)), q 16 (.bin .add (.t 15) (.c (i64 1))), q 5 (.mv (.t 16))]))))))
 (.seq (.ops [q 4 (.mv (.c (.bool true)))])
 .ret))))
theorem eq1_wpc {α : Type} [DecidableEq α] {h : H} {v1 v2 : Value} {l1 l2 : List α} {c1 : α → Value} (hv : Sl h v1 1 (l1.map fun x => [c1 x])) (hu : Sl h v2 1 (l2.map fun x => [c1 x])) (hn : l1.length ≤ maxLen)
    (hc : ∀ a b, obin .neq (c1 a) (c1 b) = some (.bool (decide (¬ a = b)))) {Q : Value → H → Prop} (hq : Q (.bool (decide (l1 = l2))) h) :
    wpc P eqB1 (retw [.tmp 4] Q) (argsFr [v1, v2]) h := by
  obtain ⟨a, c, b, o, rfl, hcap, h2, h3⟩ := hv
  obtain ⟨a', c', b', o', rfl, hcap', k2, k3⟩ := hu
  have hm63 := show maxLen = 9223372036854775807 from rfl
  simp only [List.length_map] at h2 k2
  unfold eqB1
  simp -implicitDefEqProofs only [go_sem, ↓reduceIte, reduceCtorEq, Int.reduceEq, Int.reduceLT, Int.reduceLE, Nat.reduceEqDiff, Nat.reduceAdd, Nat.reduceMul, Nat.reduceLeDiff, Nat.reduceSub, Int.reduceNeg, List.length_map]
  refine (Br.of (fun hne => ?_) (fun hne => ?_))
  rotate_left
  · have : l1 ≠ l2 := fun e => hne (by rw [e])
    simp -implicitDefEqProofs only [go_sem, ↓reduceIte, reduceCtorEq, Int.reduceEq, Int.reduceLT, Int.reduceLE, Nat.reduceEqDiff, Nat.reduceAdd, Nat.reduceMul, Nat.reduceLeDiff, Nat.reduceSub, Int.reduceNeg, hne]
    rw [decide_eq_false this] at hq
    exact hq
  · simp -implicitDefEqProofs only [go_sem, ↓reduceIte, reduceCtorEq, Int.reduceEq, Int.reduceLT, Int.reduceLE, Nat.reduceEqDiff, Nat.reduceAdd, Nat.reduceMul, Nat.reduceLeDiff, Nat.reduceSub, Int.reduceNeg, hne]
    have hlen : l1.length = l2.length := by omega
    refine loopW_of (fun m f h' => ∃ k, m + k = l1.length ∧ h' = h ∧ f 0 = .slice a l1.length c ∧ f 1 = .slice a' l2.length c' ∧ f 5 = i64 k ∧ l1.take k = l2.take k) l1.length ⟨0, by simp, rfl, by simp -implicitDefEqProofs only [go_sem, ↓reduceIte, reduceCtorEq, Int.reduceEq, Int.reduceLT, Int.reduceLE, Nat.reduceEqDiff, Nat.reduceAdd, Nat.reduceMul, Nat.reduceLeDiff, Nat.reduceSub, Int.reduceNeg, List.length_map], by simp -implicitDefEqProofs only [go_sem, ↓reduceIte, reduceCtorEq, Int.reduceEq, Int.reduceLT, Int.reduceLE, Nat.reduceEqDiff, Nat.reduceAdd, Nat.reduceMul, Nat.reduceLeDiff, Nat.reduceSub, Int.reduceNeg, List.length_map], by simp -implicitDefEqProofs only [go_sem, ↓reduceIte, reduceCtorEq, Int.reduceEq, Int.reduceLT, Int.reduceLE, Nat.reduceEqDiff, Nat.reduceAdd, Nat.reduceMul, Nat.reduceLeDiff, Nat.reduceSub, Int.reduceNeg]; rfl, by simp⟩ ?_
    rintro m f h' ⟨k, hm, rfl, f0, f1, f5, he⟩
    skip
    by_cases hk : k < l1.length
    · have hk2 : k < l2.length := by omega
      have e1 := h3 k [c1 l1[k]] (by simp [hk])
      have e2 := k3 k [c1 l2[k]] (by simp [hk2])
      simp -implicitDefEqProofs only [go_sem, ↓reduceIte, reduceCtorEq, Int.reduceEq, Int.reduceLT, Int.reduceLE, Nat.reduceEqDiff, Nat.reduceAdd, Nat.reduceMul, Nat.reduceLeDiff, Nat.reduceSub, Int.reduceNeg, f0, f1, f5, h2, k2, hk, hk2, e1, e2, hc, Int.ofNat_lt, Int.natCast_nonneg, f0, f1, f5, h2, k2]
      refine Br.of (fun h4 => ?_) (fun h4 => ?_)
      rotate_left
      · have : l1 ≠ l2 := fun e => h4 (by subst e; rfl)
        rw [decide_eq_false this] at hq
        simp -implicitDefEqProofs only [go_sem, ↓reduceIte, reduceCtorEq, Int.reduceEq, Int.reduceLT, Int.reduceLE, Nat.reduceEqDiff, Nat.reduceAdd, Nat.reduceMul, Nat.reduceLeDiff, Nat.reduceSub, Int.reduceNeg, h4, f0, f1, f5, h2, k2]
        exact hq
      · simp -implicitDefEqProofs only [go_sem, ↓reduceIte, reduceCtorEq, Int.reduceEq, Int.reduceLT, Int.reduceLE, Nat.reduceEqDiff, Nat.reduceAdd, Nat.reduceMul, Nat.reduceLeDiff, Nat.reduceSub, Int.reduceNeg, h4, f0, f1, f5, f0, f1, f5, h2, k2]
        rw [wrap_i64 (by omega) (by omega)]
        refine ⟨m - 1, by omega, h', Ext.refl _, k + 1, by omega, ?_⟩
        have := take_eq_succ hk hk2 he h4
        repeat' first | apply And.intro | rfl | trivial | assumption | omega
    · have e : k = l1.length := by omega
      subst e
      simp -implicitDefEqProofs only [go_sem, ↓reduceIte, reduceCtorEq, Int.reduceEq, Int.reduceLT, Int.reduceLE, Nat.reduceEqDiff, Nat.reduceAdd, Nat.reduceMul, Nat.reduceLeDiff, Nat.reduceSub, Int.reduceNeg, f0, f1, f5, h2, Int.ofNat_lt, Nat.lt_irrefl, f0, f1, f5, h2, k2]
      rw [List.take_length, hlen, List.take_length] at he
      rw [decide_eq_true he] at hq
      exact hq
end
end Go.KH
