/- A helper of this seat's claims (contracts of the functions): what it shows is shown for every input that its statements name, on no other condition. -/
import Derived.Test.YtdofcojbjcpikaaGreatDoorC0
import Derived.Test.YtdofcojbjcpikaaGreatDoorKD
set_option linter.unusedVariables false
set_option linter.unusedSimpArgs false
set_option maxRecDepth 100000
namespace Go.Proofs.YtdofcojbjcpikaaGreatDoor
open Go.KH

/-! ## The laws' helpers for lists of texts -/
abbrev strs (l : List (List UInt8)) : List (List Value) := l.map fun s => [str s]
theorem strs_wid (l : List (List UInt8)) : Wid 1 (strs l) := Wid.map fun _ => rfl
theorem strs_one (l : List (List UInt8)) : (strs l).flatten.all Value.oneCell' = true := by simp [strs, oneCell_str]
theorem strs_map (l : List (List UInt8)) : strs l = (l.map str).map fun x => [x] := by simp [strs]
theorem neq_strv (a b : List UInt8) : obin .neq (str a) (str b) = some (.bool (decide (¬ a = b))) := by rw [bs_neq]
theorem strs_of (rows : List (List Value)) (h : ∀ r ∈ rows, fitsF [.str] r) : ∃ l : List (List UInt8), rows = strs l ∧ ∀ s ∈ l, s.length ≤ maxLen :=
  rows_of (fun s => [str s]) (fun s => s.length ≤ maxLen) rows fun r hr => by
    obtain ⟨_, _, rfl, h1, h⟩ := fitsF_cons (h r hr)
    obtain rfl := fitsF_nil h
    obtain ⟨a, rfl, k1⟩ := h1
    exact ⟨a, rfl, k1⟩
/-- laws.szStringS -/
def b_laws_szStringS : C := (.seq (.ops [q 4 (.mv (.c (i64 0)))])
 (.seq (.ops [q 6 (.mv (.t 1)), q 7 (.mv (.t 0)), q 8 (.len (.t 7)), q 9 (.bin .sub (.t 6) (.t 8)), q 1 (.mv (.t 9))])
 (.seq (.seq (.ops [q 10 (.mv (.t 1)), q 11 (.bin .lss (.t 10) (.c (i64 0)))])
 (.cond (.t 11) (.seq (.ops [q 4 (.mv (.c (i64 (-1))))])
 .ret) .skip))
 (.seq (.seq (.ops [q 5 (.mv (.c (i64 0)))])
 (.block 0 (.loop (.seq (.seq (.ops [q 12 (.mv (.t 5)), q 13 (.mv (.t 0)), q 14 (.len (.t 13)), q 15 (.bin .lss (.t 12) (.t 14))])
 (.cond (.t 15) .skip (.exit 0)))
 (.seq (.block 1 (.seq (.ops [q 18 (.mv (.t 1)), q 19 (.mv (.t 0)), q 20 (.mv (.t 5)), q 21 (.idx 1 (.t 19) (.t 20)), q 22 (.ld false 1 (.t 21)), q 23 (.slen (.t 22)), q 24 (.bin .sub (.t 18) (.t 23)), q 1 (.mv (.t 24))])
 (.seq (.ops [q 25 (.mv (.t 1)), q 26 (.bin .lss (.t 25) (.c (i64 0)))])
 (.cond (.t 26) (.seq (.ops [q 4 (.mv (.c (i64 (-1))))])
 .ret) .skip))))
 (.ops [q 16 (.mv (.t 5)), q 17 (.bin .add (.t 16) (.c (i64 1))), q 5 (.mv (.t 17))]))))))
 (.seq (.ops [q 27 (.mv (.t 1)), q 4 (.mv (.t 27))])
 .ret)))))
theorem w_laws_szStringS {args : List Value} {h : H} {Q : Value → H → Prop} (hl : args.length ≤ 28) (hk : wpc Tryz.prog b_laws_szStringS (retw [.tmp 4] Q) (argsFr args) h) : AC Tryz.prog 45 args h Q :=
  AC.of_wpc mixedOrders Tryz.func45 (by kernel_rfl) (by kernel_rfl : prepF Tryz.prog Tryz.f45 = some ⟨28, [.tmp 4], b_laws_szStringS⟩) hl hk

theorem szStringS_pc {h : H} {v : Value} {l : List (List UInt8)} {left : Int} (hv : Sl h v 1 (strs l)) (hn : l.length ≤ maxLen) (hn2 : ∀ s ∈ l, s.length ≤ maxLen) (hl : 0 ≤ left ∧ left ≤ 1048576) :
    PC Tryz.prog 45 [v, i64 left] h (i64 (lessn left (l.length + sumn List.length l : Nat))) :=
  w_laws_szStringS (by simp) (szs_wpc hv hn hn2 hl ⟨rfl, rfl⟩)
/-- laws.toStringS -/
def b_laws_toStringS : C := (.seq (.ops [q 2 (.mv (.c nils))])
 (.seq (.ops [q 5 (.mv (.t 0)), q 6 (.len (.t 5)), ⟨(some 7), none, .mks 1 16 [(str [])] (.t 6) (.t 6)⟩, q 3 (.mv (.t 7))])
 (.seq (.seq (.ops [q 4 (.mv (.c (i64 0)))])
 (.block 0 (.loop (.seq (.seq (.ops [q 8 (.mv (.t 4)), q 9 (.mv (.t 0)), q 10 (.len (.t 9)), q 11 (.bin .lss (.t 8) (.t 10))])
 (.cond (.t 11) .skip (.exit 0)))
 (.seq (.block 1 (.ops [q 14 (.mv (.t 3)), q 15 (.mv (.t 4)), q 16 (.mv (.t 0)), q 17 (.mv (.t 4)), q 18 (.idx 1 (.t 16) (.t 17)), q 19 (.ld false 1 (.t 18)), q 20 (.idx 1 (.t 14) (.t 15)), ⟨none, none, .st 1 (.t 20) (.t 19)⟩]))
 (.ops [q 12 (.mv (.t 4)), q 13 (.bin .add (.t 12) (.c (i64 1))), q 4 (.mv (.t 13))]))))))
 (.seq (.ops [q 21 (.mv (.t 3)), q 2 (.mv (.t 21))])
 .ret))))
theorem w_laws_toStringS {args : List Value} {h : H} {Q : Value → H → Prop} (hl : args.length ≤ 22) (hk : wpc Tryz.prog b_laws_toStringS (retw [.tmp 2] Q) (argsFr args) h) : AC Tryz.prog 52 args h Q :=
  AC.of_wpc mixedOrders Tryz.func52 (by kernel_rfl) (by kernel_rfl : prepF Tryz.prog Tryz.f52 = some ⟨22, [.tmp 2], b_laws_toStringS⟩) hl hk

theorem toStringS_ac {h : H} {v : Value} {l : List (List UInt8)} (hv : Sl h v 1 (strs l)) (hn : l.length ≤ 1048576) : AC Tryz.prog 52 [v] h fun v' h' => Ext h h' ∧ Fre h h' v' 1 (strs l) := by
  rw [strs_map] at hv ⊢
  exact w_laws_toStringS (by simp) (to1_wpc hv (by omega) (by simpa using hn) (fun x hx => by obtain ⟨n, _, rfl⟩ := List.mem_map.1 hx; exact ⟨rfl, rfl⟩) fun _ _ e o => ⟨e, o⟩)
/-- laws.eqStringS -/
def b_laws_eqStringS : C := (.seq (.ops [q 4 (.mv (.c (.bool false)))])
 (.seq (.seq (.ops [q 6 (.mv (.t 0)), q 7 (.len (.t 6)), q 8 (.mv (.t 1)), q 9 (.len (.t 8)), q 10 (.bin .neq (.t 7) (.t 9))])
 (.cond (.t 10) (.seq (.ops [q 4 (.mv (.c (.bool false)))])
 .ret) .skip))
 (.seq (.seq (.ops [q 5 (.mv (.c (i64 0)))])
 (.block 0 (.loop (.seq (.seq (.ops [q 11 (.mv (.t 5)), q 12 (.mv (.t 0)), q 13 (.len (.t 12)), q 14 (.bin .lss (.t 11) (.t 13))])
 (.cond (.t 14) .skip (.exit 0)))
 (.seq (.block 1 (.seq (.dops true (.tk (q 17 (.mv (.t 0))) (.tk (q 18 (.mv (.t 5))) (.tk (q 19 (.idx 1 (.t 17) (.t 18))) (.tk (q 20 (.ld false 1 (.t 19))) (.tk (q 21 (.mv (.t 1))) (.tk (q 22 (.mv (.t 5))) (.tk (q 23 (.idx 1 (.t 21) (.t 22))) (.tk (q 24 (.ld false 1 (.t 23))) (.tk (q 25 (.bin .neq (.t 20) (.t 24))) .nil))))))))))
 (.cond (.t 25) (.seq (.ops [q 4 (.mv (.c (.bool false)))])
 .ret) .skip)))
 (.ops [q 15 (.mv (.t 5)), q 16 (.bin .add (.t 15) (.c (i64 1))), q 5 (.mv (.t 16))]))))))
 (.seq (.ops [q 4 (.mv (.c (.bool true)))])
 .ret))))
theorem w_laws_eqStringS {args : List Value} {h : H} {Q : Value → H → Prop} (hl : args.length ≤ 26) (hk : wpc Tryz.prog b_laws_eqStringS (retw [.tmp 4] Q) (argsFr args) h) : AC Tryz.prog 60 args h Q :=
  AC.of_wpc mixedOrders Tryz.func60 (by kernel_rfl) (by kernel_rfl : prepF Tryz.prog Tryz.f60 = some ⟨26, [.tmp 4], b_laws_eqStringS⟩) hl hk

theorem eqStringS_pc {h : H} {v1 v2 : Value} {l1 l2 : List (List UInt8)} (hv : Sl h v1 1 (strs l1)) (hu : Sl h v2 1 (strs l2)) (hn : l1.length ≤ maxLen) : PC Tryz.prog 60 [v1, v2] h (.bool (decide (l1 = l2))) :=
  w_laws_eqStringS (by simp) (eq1_wpc hv hu hn neq_strv ⟨rfl, rfl⟩)
end Go.Proofs.YtdofcojbjcpikaaGreatDoor
