/- A helper of this seat's claims (contracts of the functions): what it shows is shown for every input that its statements name, on no other condition. -/
import Derived.Test.YtpponffjeilhmaaCFp
set_option linter.unusedVariables false
set_option linter.unusedSimpArgs false
namespace Go.Proofs.Ytpponffjeilhmaa
open Go.KH

/-! ## What is counted along a plan -/
theorem stashes_take {P : List UMove} {k : Nat} (hk : k < P.length) : stashes (P.take (k + 1)) = stashes (P.take k) ++ if P[k].kind = 1 then [P[k]] else [] := by
  rw [List.take_succ_eq_append_getElem hk, stashes_app]
theorem slot_at {P : List UMove} {n k : Nat} (hnum : (stashes P).map (fun m => m.slot) = (List.range n).map fun j : Nat => (j : Int)) (hk : k < P.length) (h1 : P[k].kind = 1) : P[k].slot = ((stashes (P.take k)).length : Int) := by
  have e : stashes P = stashes (P.take k) ++ P[k] :: stashes (P.drop (k + 1)) := by
    conv => lhs; rw [← List.take_append_drop k P, List.drop_eq_getElem_cons hk]
    unfold stashes
    rw [List.filter_append, List.filter_cons, if_pos (by simp [h1])]
  have h2 : ((stashes P).map (fun m => m.slot))[(stashes (P.take k)).length]? = some P[k].slot := by
    rw [List.getElem?_map, e, List.getElem?_append_right (Nat.le_refl _), Nat.sub_self]; rfl
  rw [hnum, List.getElem?_map] at h2
  by_cases hn : (stashes (P.take k)).length < n
  · rw [List.getElem?_range hn] at h2
    simpa using h2.symm
  · rw [List.getElem?_eq_none (by simp; omega)] at h2
    simp at h2
def didC (n : Nat) (mv : List UMove) : List Value := (List.range n).map fun i => i64 (didN mv i)
theorem didC_len (n : Nat) (mv : List UMove) : (didC n mv).length = n := by simp [didC]
theorem didC_get {n i : Nat} (mv : List UMove) (h : i < n) : (didC n mv)[i]? = some (i64 (didN mv i)) := by simp [didC, h]
theorem didN_le (mv : List UMove) (i : Nat) : didN mv i ≤ mv.length := List.length_filter_le _ _
theorem didC_skip {n : Nat} {mv : List UMove} {m : UMove} (h : m.kind = 1) : didC n (mv ++ [m]) = didC n mv := by
  unfold didC
  refine List.map_congr_left fun i _ => ?_
  rw [didN_app, if_neg (fun e => e.1 h), Nat.add_zero]
theorem didC_put {n i : Nat} {mv : List UMove} {m : UMove} (h : m.kind ≠ 1) (hm : m.step = (i : Int)) (hi : i < n) : splice (didC n mv) i [i64 ((didN mv i : Int) + 1)] = didC n (mv ++ [m]) := by
  apply List.ext_getElem?
  intro j
  unfold splice
  have hl := didC_len n mv
  by_cases hj : j < n
  rotate_left
  · rw [List.getElem?_eq_none (by simp [hl]; omega), List.getElem?_eq_none (by rw [didC_len]; omega)]
  rw [didC_get _ hj, didN_app]
  by_cases h1 : j < i
  · rw [List.append_assoc, List.getElem?_append_left (by simp [hl]; omega), List.getElem?_take_of_lt h1, didC_get _ hj, if_neg (fun e => by have := e.2; omega), Nat.add_zero]
  · by_cases h2 : j = i
    · subst h2
      rw [List.append_assoc, List.getElem?_append_right (by simp [hl]; exact Nat.min_le_left _ _), if_pos ⟨h, hm⟩]
      simp [hl, Nat.min_eq_left (Nat.le_of_lt hj)]
    · rw [List.getElem?_append_right (by simp [hl]; omega), List.getElem?_drop, if_neg (fun e => by have := e.2; omega), Nat.add_zero]
      rw [show i + [i64 ((didN mv i : Int) + 1)].length + (j - (List.take i (didC n mv) ++ [i64 ((didN mv i : Int) + 1)]).length) = j by simp [hl]; omega]
      exact didC_get _ hj
theorem slots_stashes (P : List UMove) : slots P = ((stashes P).length : Int) := rfl
end Go.Proofs.Ytpponffjeilhmaa
