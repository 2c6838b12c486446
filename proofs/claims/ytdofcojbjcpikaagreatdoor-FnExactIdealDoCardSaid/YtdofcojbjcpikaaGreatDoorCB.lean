/- A helper of this seat's claims (contracts of the functions): what it shows is shown for every input that its statements name, on no other condition. -/
import Derived.Test.YtdofcojbjcpikaaGreatDoorC05
import Derived.Test.YtdofcojbjcpikaaGreatDoorKD
set_option linter.unusedVariables false
set_option linter.unusedSimpArgs false
set_option maxRecDepth 100000
namespace Go.Proofs.YtdofcojbjcpikaaGreatDoor
open Go.KH

/-! ## The laws' helpers for lists of integers -/
theorem ints_map (l : List Int) : ints l = (l.map i64).map fun x => [x] := by simp [ints]
theorem ints_wid (l : List Int) : Wid 1 (ints l) := Wid.map fun _ => rfl
theorem neq_i64 (a b : Int) : obin .neq (i64 a) (i64 b) = some (.bool (decide (¬ a = b))) := by rw [bi_neq]
/-- laws.eqInt64S -/
def b_laws_eqInt64S : C := (.seq (.ops [q 4 (.mv (.c (.bool false)))])
 (.seq (.seq (.ops [q 6 (.mv (.t 0)), q 7 (.len (.t 6)), q 8 (.mv (.t 1)), q 9 (.len (.t 8)), q 10 (.bin .neq (.t 7) (.t 9))])
 (.cond (.t 10) (.seq (.ops [q 4 (.mv (.c (.bool false)))])
 .ret) .skip))
 (.seq (.seq (.ops [q 5 (.mv (.c (i64 0)))])
 (.block 0 (.loop (.seq (.seq (.ops [q 11 (.mv (.t 5)), q 12 (.mv (.t 0)), q 13 (.len (.t 12)), q 14 (.bin .lss (.t 11) (.t 13))])
 (.cond (.t 14) .skip (.exit 0)))
 (.seq (.block 1 (.seq (.dops true (.tk (q 17 (.mv (.t 0))) (.tk (q 18 (.mv (.t 5))) (.tk (q 19 (.idx 1 (.t 17) (.t 18))) (.tk (q 20 (.ld false 1 (.t 19))) (.tk (q 21 (.mv (.t 1))) (.tk (q 22 (.mv (.t 5))) (.tk (q 23 (.idx 1 (.t 21) (.t 22))) (.tk (q 24 (.ld false 1 (.t 23))) (.tk (q 25 (.bin .neq (.t 20) (.t 24))) .nil))))))))))
 (.cond (.t 25) (.seq (.ops [q 4 (.mv (.c (.bool false)))])
 .ret) .skip)))
 (.ops [q 15 (.mv (.t 5)), q 16 (.bin .add (.t 15) (.c (i64 1))), q 5 (.mv (.t 16))]))))))
 (.seq (.ops [q 4 (.mv (.c (.bool true)))])
 .ret))))
theorem w_laws_eqInt64S {args : List Value} {h : H} {Q : Value → H → Prop} (hl : args.length ≤ 26) (hk : wpc Tryz.prog b_laws_eqInt64S (retw [.tmp 4] Q) (argsFr args) h) : AC Tryz.prog 59 args h Q :=
  AC.of_wpc mixedOrders Tryz.func59 (by kernel_rfl) (by kernel_rfl : prepF Tryz.prog Tryz.f59 = some ⟨26, [.tmp 4], b_laws_eqInt64S⟩) hl hk

theorem eqInt64S_pc {h : H} {v1 v2 : Value} {l1 l2 : List Int} (hv : Sl h v1 1 (ints l1)) (hu : Sl h v2 1 (ints l2)) (hn : l1.length ≤ maxLen) : PC Tryz.prog 59 [v1, v2] h (.bool (decide (l1 = l2))) :=
  w_laws_eqInt64S (by simp) (eq1_wpc hv hu hn neq_i64 ⟨rfl, rfl⟩)
/-- laws.markInt64S -/
def b_laws_markInt64S : C := (.seq (.ops [q 4 (.mv (.c (i64 0)))])
 (.seq (.seq (.ops [q 5 (.mv (.c (i64 0)))])
 (.block 0 (.loop (.seq (.seq (.ops [q 6 (.mv (.t 5)), q 7 (.mv (.t 0)), q 8 (.len (.t 7)), q 9 (.bin .lss (.t 6) (.t 8))])
 (.cond (.t 9) .skip (.exit 0)))
 (.seq (.block 1 (.seq (.ops [q 12 (.mv (.t 0)), q 13 (.mv (.t 5)), q 14 (.mv (.t 1)), q 15 (.idx 1 (.t 12) (.t 13)), ⟨none, none, .st 1 (.t 15) (.t 14)⟩])
 (.ops [q 16 (.mv (.t 1)), q 17 (.bin .add (.t 16) (.c (i64 1))), q 1 (.mv (.t 17))])))
 (.ops [q 10 (.mv (.t 5)), q 11 (.bin .add (.t 10) (.c (i64 1))), q 5 (.mv (.t 11))]))))))
 (.seq (.ops [q 18 (.mv (.t 1)), q 4 (.mv (.t 18))])
 .ret)))
theorem w_laws_markInt64S {args : List Value} {h : H} {Q : Value → H → Prop} (hl : args.length ≤ 19) (hk : wpc Tryz.prog b_laws_markInt64S (retw [.tmp 4] Q) (argsFr args) h) : AC Tryz.prog 64 args h Q :=
  AC.of_wpc mixedOrders Tryz.func64 (by kernel_rfl) (by kernel_rfl : prepF Tryz.prog Tryz.f64 = some ⟨19, [.tmp 4], b_laws_markInt64S⟩) hl hk

theorem markInt64S_ac {h0 h : H} {v : Value} {l : List Int} {k0 : Int} (hv : Fre h0 h v 1 (ints l)) (hn : l.length ≤ 1099511627776) (hk : 0 ≤ k0 ∧ k0 ≤ 1099511627776) :
    AC Tryz.prog 64 [v, i64 k0] h fun r h' => r = i64 (k0 + l.length) ∧ Keep (fun b => blk v = some b) h h' ∧ Fre h0 h' v 1 (mks gInt 1 k0 l.length) :=
  w_laws_markInt64S (by simp) (mk1_wpc hv (by simpa using hn) hk fun h' k f => ⟨by simp, k, by simpa using f⟩)
/-- laws.heldInt64S -/
def b_laws_heldInt64S : C := (.seq (.ops [q 4 (.mv (.c (i64 0)))])
 (.seq (.seq (.ops [q 5 (.mv (.c (i64 0)))])
 (.block 0 (.loop (.seq (.seq (.ops [q 6 (.mv (.t 5)), q 7 (.mv (.t 0)), q 8 (.len (.t 7)), q 9 (.bin .lss (.t 6) (.t 8))])
 (.cond (.t 9) .skip (.exit 0)))
 (.seq (.block 1 (.seq (.seq (.ops [q 12 (.mv (.t 0)), q 13 (.mv (.t 5)), q 14 (.idx 1 (.t 12) (.t 13)), q 15 (.ld false 1 (.t 14)), q 16 (.mv (.t 1)), q 17 (.bin .neq (.t 15) (.t 16))])
 (.cond (.t 17) (.seq (.ops [q 4 (.mv (.c (i64 (-1))))])
 .ret) .skip))
 (.ops [q 18 (.mv (.t 1)), q 19 (.bin .add (.t 18) (.c (i64 1))), q 1 (.mv (.t 19))])))
 (.ops [q 10 (.mv (.t 5)), q 11 (.bin .add (.t 10) (.c (i64 1))), q 5 (.mv (.t 11))]))))))
 (.seq (.ops [q 20 (.mv (.t 1)), q 4 (.mv (.t 20))])
 .ret)))
theorem w_laws_heldInt64S {args : List Value} {h : H} {Q : Value → H → Prop} (hl : args.length ≤ 21) (hk : wpc Tryz.prog b_laws_heldInt64S (retw [.tmp 4] Q) (argsFr args) h) : AC Tryz.prog 66 args h Q :=
  AC.of_wpc mixedOrders Tryz.func66 (by kernel_rfl) (by kernel_rfl : prepF Tryz.prog Tryz.f66 = some ⟨21, [.tmp 4], b_laws_heldInt64S⟩) hl hk

theorem heldInt64S_pc {h : H} {v : Value} {n : Nat} {k0 : Int} (hv : Sl h v 1 (mks gInt 1 k0 n)) (hn : n ≤ 1099511627776) (hk : 0 ≤ k0 ∧ k0 ≤ 1099511627776) : PC Tryz.prog 66 [v, i64 k0] h (i64 (k0 + n)) :=
  w_laws_heldInt64S (by simp) (hd1_wpc hv hn hk ⟨rfl, by simp⟩)
end Go.Proofs.YtdofcojbjcpikaaGreatDoor
