/- A helper of this seat's claims (contracts of the functions): what it shows is shown for every input that its statements name, on no other condition. -/
import Derived.Test.YthjbhdmjfakfaaaGreatDoorCA
import Derived.Test.YthjbhdmjfakfaaaGreatDoorKD
set_option linter.unusedVariables false
set_option linter.unusedSimpArgs false
set_option maxRecDepth 100000
namespace Go.Proofs.YthjbhdmjfakfaaaGreatDoor
open Go.KH

/-! ## The helpers of the laws -/
/-- impl.within -/
def b_impl_within : C := (.seq (.ops [q 6 (.mv (.c (.bool false)))])
 (.seq (.ops [q 7 (.mv (.t 0)), q 8 (.mv (.t 1)), q 9 (.bin .geq (.t 7) (.t 8)), q 10 (.mv (.t 9)), qg 11 10 true (.mv (.t 0)), qg 12 10 true (.mv (.t 2)), qg 13 10 true (.bin .leq (.t 11) (.t 12)), q 14 (.pick (.t 10) (.t 13) (.c (.bool false))), q 6 (.mv (.t 14))])
 .ret))
theorem w_impl_within {args : List Value} {h : H} {Q : Value → H → Prop} (hl : args.length ≤ 15) (hk : wpc Tryz.prog b_impl_within (retw [.tmp 6] Q) (argsFr args) h) : AC Tryz.prog 140 args h Q :=
  AC.of_wpc mixedOrders Tryz.func140 (by kernel_rfl) (by kernel_rfl : prepF Tryz.prog Tryz.f140 = some ⟨15, [.tmp 6], b_impl_within⟩) hl hk

theorem within_pc (h : H) (n a b : Int) : PC Tryz.prog 140 [i64 n, i64 a, i64 b] h (.bool (decide (a ≤ n ∧ n ≤ b))) := by
  refine w_impl_within (by simp) ?_
  unfold b_impl_within
  simp -implicitDefEqProofs only [go_sem]
  repeat' (refine Br.of (fun hc => ?_) (fun hc => ?_) <;> simp -implicitDefEqProofs only [go_sem, hc])
  all_goals simp_all
/-- impl.size[impl.Move] -/
def b_impl_size_impl_Move : C := (.seq (.ops [q 2 (.mv (.c (i64 0)))])
 (.seq (.ops [q 3 (.mv (.t 0)), q 4 (.len (.t 3)), q 2 (.mv (.t 4))])
 .ret))
theorem w_impl_size_impl_Move {args : List Value} {h : H} {Q : Value → H → Prop} (hl : args.length ≤ 5) (hk : wpc Tryz.prog b_impl_size_impl_Move (retw [.tmp 2] Q) (argsFr args) h) : AC Tryz.prog 139 args h Q :=
  AC.of_wpc mixedOrders Tryz.func139 (by kernel_rfl) (by kernel_rfl : prepF Tryz.prog Tryz.f139 = some ⟨5, [.tmp 2], b_impl_size_impl_Move⟩) hl hk

theorem sizeMove_pc {h : H} {v : Value} {rows : List (List Value)} {w : Nat} (hv : Sl h v w rows) : PC Tryz.prog 139 [v] h (i64 rows.length) := by
  obtain ⟨a, c, b, o, rfl, hcap, h2, h3⟩ := hv
  refine w_impl_size_impl_Move (by simp) ?_
  unfold b_impl_size_impl_Move
  simp -implicitDefEqProofs only [go_sem]
/-- spec.l03Is -/
def b_spec_l03Is : C := (.seq (.ops [q 6 (.mv (.c (.bool false)))])
 (.seq (.ops [q 7 (.mv (.t 0)), q 8 (.mv (.t 1)), q 9 (.bin .geq (.t 7) (.t 8)), q 10 (.mv (.t 9)), qg 11 10 true (.mv (.t 0)), qg 12 10 true (.mv (.t 2)), qg 13 10 true (.bin .leq (.t 11) (.t 12)), q 14 (.pick (.t 10) (.t 13) (.c (.bool false))), q 6 (.mv (.t 14))])
 .ret))
theorem w_spec_l03Is {args : List Value} {h : H} {Q : Value → H → Prop} (hl : args.length ≤ 15) (hk : wpc Tryz.prog b_spec_l03Is (retw [.tmp 6] Q) (argsFr args) h) : AC Tryz.prog 118 args h Q :=
  AC.of_wpc mixedOrders Tryz.func118 (by kernel_rfl) (by kernel_rfl : prepF Tryz.prog Tryz.f118 = some ⟨15, [.tmp 6], b_spec_l03Is⟩) hl hk

theorem l03Is_pc (h : H) (n a b : Int) : PC Tryz.prog 118 [i64 n, i64 a, i64 b] h (.bool (decide (a ≤ n ∧ n ≤ b))) := by
  refine w_spec_l03Is (by simp) ?_
  unfold b_spec_l03Is
  simp -implicitDefEqProofs only [go_sem]
  repeat' (refine Br.of (fun hc => ?_) (fun hc => ?_) <;> simp -implicitDefEqProofs only [go_sem, hc])
  all_goals simp_all
end Go.Proofs.YthjbhdmjfakfaaaGreatDoor

set_option linter.unusedVariables false
set_option linter.unusedSimpArgs false
set_option maxRecDepth 100000
namespace Go.Proofs.YthjbhdmjfakfaaaGreatDoor
open Go.KH

/-! ## The laws' helpers for lists of texts -/
abbrev strs (l : List (List UInt8)) : List (List Value) := l.map fun s => [str s]
theorem strs_wid (l : List (List UInt8)) : Wid 1 (strs l) := Wid.map fun _ => rfl
theorem strs_one (l : List (List UInt8)) : (strs l).flatten.all Value.oneCell' = true := by simp [strs, oneCell_str]
theorem strs_map (l : List (List UInt8)) : strs l = (l.map str).map fun x => [x] := by simp [strs]
theorem neq_strv (a b : List UInt8) : obin .neq (str a) (str b) = some (.bool (decide (¬ a = b))) := by rw [bs_neq]
theorem strs_of (rows : List (List Value)) (h : ∀ r ∈ rows, fitsF [.str] r) : ∃ l : List (List UInt8), rows = strs l ∧ ∀ s ∈ l, s.length ≤ maxLen :=
  rows_of (fun s => [str s]) (fun s => s.length ≤ maxLen) rows fun r hr => by
    obtain ⟨_, _, rfl, h1, h⟩ := fitsF_cons (h r hr)
    obtain rfl := fitsF_nil h
    obtain ⟨a, rfl, k1⟩ := h1
    exact ⟨a, rfl, k1⟩
end Go.Proofs.YthjbhdmjfakfaaaGreatDoor

set_option linter.unusedVariables false
set_option linter.unusedSimpArgs false
set_option maxRecDepth 100000
namespace Go.Proofs.YthjbhdmjfakfaaaGreatDoor
open Go.KH

/-! ## Marks of texts and steps -/
def dig (n : Nat) : List UInt8 := if n = 0 then [] else dig (n / 10) ++ [UInt8.ofNat (48 + n % 10)]
termination_by n
decreasing_by omega
theorem dig_pos {n : Nat} (h : 0 < n) : dig n = dig (n / 10) ++ [UInt8.ofNat (48 + n % 10)] := by rw [dig, if_neg (by omega)]
theorem dig_zero : dig 0 = [] := by rw [dig, if_pos rfl]
def markT (k : Int) : List UInt8 := [109] ++ dig k.toNat
theorem dig_len : ∀ (d n : Nat), n < 10 ^ d → (dig n).length ≤ d
  | 0, n, h => by
    have : n = 0 := by simpa using h
    subst this; rw [dig_zero]; simp
  | d + 1, n, h => by
    by_cases h0 : 0 < n
    · rw [dig_pos h0, List.length_append]
      have := dig_len d (n / 10) (by rw [Nat.pow_succ] at h; omega)
      simp only [List.length_cons, List.length_nil]; omega
    · have : n = 0 := by omega
      subst this; rw [dig_zero]; simp
abbrev gStr (k : Int) : List Value := [str (markT k)]
abbrev gStep (k : Int) : List Value := [i64 k, i64 (k + 1), i64 (k + 2), str (markT (k + 3))]
end Go.Proofs.YthjbhdmjfakfaaaGreatDoor
