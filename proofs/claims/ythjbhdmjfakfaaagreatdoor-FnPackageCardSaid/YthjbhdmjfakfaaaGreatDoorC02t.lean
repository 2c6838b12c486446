/- A helper of this seat's claims (contracts of the functions): what it shows is shown for every input that its statements name, on no other condition. -/
import Derived.Test.YthjbhdmjfakfaaaGreatDoorC02
set_option linter.unusedVariables false
set_option linter.unusedSimpArgs false
set_option maxRecDepth 100000
namespace Go.Proofs.YthjbhdmjfakfaaaGreatDoor
open Go.KH

theorem getT_err {t : List UInt8} {a e c : Nat} {n : Int} (hg : getN t a = (n, e, c)) (hc : c ≠ 0) : getT t a = ([], 0, c) := by unfold getT; rw [hg]; simp [hc]
theorem getT_big {t : List UInt8} {a e : Nat} {n : Int} (hg : getN t a = (n, e, 0)) (hn : ¬ (0 ≤ n ∧ n ≤ 8000)) : getT t a = ([], 0, 3) := by unfold getT; rw [hg]; simp [hn]
theorem getT_short {t : List UInt8} {a e m : Nat} (hg : getN t a = ((m : Int), e, 0)) (hn : m ≤ 8000) (hl : t.length < e + m) : getT t a = ([], 0, 4) := by
  unfold getT; rw [hg]
  simp only [Int.toNat_natCast]
  rw [if_neg (by simp), if_neg (by omega), if_pos hl]
theorem getT_fine {t : List UInt8} {a e m : Nat} (hg : getN t a = ((m : Int), e, 0)) (hn : m ≤ 8000) (hl : ¬ t.length < e + m) : getT t a = ((t.take (e + m)).drop e, e + m, 0) := by
  unfold getT; rw [hg]
  simp only [Int.toNat_natCast]
  rw [if_neg (by simp), if_neg (by omega), if_neg hl]
/-- impl.getText -/
def b_impl_getText : C := (.seq (.ops [q 4 (.mv (.c (str []))), q 5 (.mv (.c (i64 0))), q 6 (.mv (.c (i64 0)))])
 (.seq (.ops [q 11 (.mv (.t 0)), q 12 (.mv (.t 1)), ⟨(some 13), none, .call (.c (.func (.func 185) #[] #[])) [(.t 11), (.t 12)]⟩, q 10 (.mv (.t 13)), q 14 (.ext 0 (.t 10)), q 15 (.ext 1 (.t 10)), q 16 (.ext 2 (.t 10)), q 7 (.mv (.t 14)), q 8 (.mv (.t 15)), q 9 (.mv (.t 16))])
 (.seq (.block 0 (.seq (.ops [q 18 (.mv (.t 9)), q 19 (.bin .neq (.t 18) (.c (i64 0))), q 17 (.mv (.t 19))])
 (.cond (.t 17) (.seq (.ops [q 20 (.mv (.t 9)), q 4 (.mv (.c (str []))), q 5 (.mv (.c (i64 0))), q 6 (.mv (.t 20))])
 .ret) (.seq (.ops [q 22 (.mv (.t 7)), ⟨(some 23), none, .call (.c (.func (.func 140) #[] #[])) [(.t 22), (.c (i64 0)), (.c (i64 8000))]⟩, q 24 (.un .not (.t 23)), q 21 (.mv (.t 24))])
 (.cond (.t 21) (.seq (.ops [q 4 (.mv (.c (str []))), q 5 (.mv (.c (i64 0))), q 6 (.mv (.c (i64 3)))])
 .ret) (.seq (.ops [q 26 (.mv (.t 7)), q 27 (.mv (.t 0)), q 28 (.slen (.t 27)), q 29 (.mv (.t 8)), q 30 (.bin .sub (.t 28) (.t 29)), q 31 (.bin .gtr (.t 26) (.t 30)), q 25 (.mv (.t 31))])
 (.cond (.t 25) (.seq (.ops [q 4 (.mv (.c (str []))), q 5 (.mv (.c (i64 0))), q 6 (.mv (.c (i64 4)))])
 .ret) .skip)))))))
 (.seq (.ops [q 32 (.mv (.t 0)), q 33 (.mv (.t 8)), q 34 (.mv (.t 8)), q 35 (.mv (.t 7)), q 36 (.bin .add (.t 34) (.t 35)), q 37 (.ssl (.t 32) (some (.t 33)) (some (.t 36))), q 38 (.mv (.t 8)), q 39 (.mv (.t 7)), q 40 (.bin .add (.t 38) (.t 39)), q 4 (.mv (.t 37)), q 5 (.mv (.t 40)), q 6 (.mv (.c (i64 0)))])
 .ret))))
theorem w_impl_getText {args : List Value} {h : H} {Q : Value → H → Prop} (hl : args.length ≤ 41) (hk : wpc Tryz.prog b_impl_getText (retw [.tmp 4, .tmp 5, .tmp 6] Q) (argsFr args) h) : AC Tryz.prog 186 args h Q :=
  AC.of_wpc mixedOrders Tryz.func186 (by kernel_rfl) (by kernel_rfl : prepF Tryz.prog Tryz.f186 = some ⟨41, [.tmp 4, .tmp 5, .tmp 6], b_impl_getText⟩) hl hk

theorem getText_pc (h : H) (t : List UInt8) (a : Nat) (ht : t.length ≤ 1099511627776) (ha : a ≤ 1099511627776) : PC Tryz.prog 186 [str t, i64 a] h (.tuple #[str (getT t a).1, i64 (getT t a).2.1, i64 (getT t a).2.2]) := by
  obtain ⟨n, e, c, hg⟩ : ∃ n e c, getN t a = (n, e, c) := ⟨_, _, _, rfl⟩
  refine w_impl_getText (by simp) ?_
  unfold b_impl_getText
  simp -implicitDefEqProofs only [go_sem]
  refine (getNum_pc _ t a ht ha).use ?_
  rw [hg]
  simp -implicitDefEqProofs only [go_sem]
  by_cases hc : c = 0
  rotate_left
  · simp -implicitDefEqProofs only [go_sem, show ¬ ((c : Int) = 0) by omega]
    rw [getT_err hg hc]; rfl
  subst hc
  have ok := getN_ok hg
  simp -implicitDefEqProofs only [go_sem, show ((0 : Nat) : Int) = 0 from rfl]
  refine (within_pc _ _ _ _).use ?_
  simp -implicitDefEqProofs only [go_sem]
  by_cases hn : 0 ≤ n ∧ n ≤ 8000
  rotate_left
  · simp -implicitDefEqProofs only [go_sem, hn]
    rw [getT_big hg hn]; rfl
  obtain ⟨m, rfl⟩ : ∃ m : Nat, n = m := ⟨n.toNat, by omega⟩
  simp -implicitDefEqProofs only [go_sem, hn, wrap_i64 (show -(9223372036854775808 : Int) ≤ ((t.length : Int) - (e : Int)) by omega) (show ((t.length : Int) - (e : Int)) < 9223372036854775808 by omega)]
  have ew : IntKind.i64.wrap ((e : Int) + (m : Int)) = ((e + m : Nat) : Int) := by rw [wrap_i64 (by omega) (by omega)]; rfl
  by_cases hl : t.length < e + m
  · simp -implicitDefEqProofs only [go_sem, show (t.length : Int) - (e : Int) < (m : Int) by omega]
    rw [getT_short hg (by omega) hl]; rfl
  · simp -implicitDefEqProofs only [go_sem, show ¬ ((t.length : Int) - (e : Int) < (m : Int)) by omega, ew, Int.natCast_nonneg, show ((e + m : Nat) : Int) ≤ (t.length : Int) by omega, show (e : Int) ≤ ((e + m : Nat) : Int) by omega]
    rw [getT_fine hg (by omega) hl]; rfl
/-- spec.GetText -/
def b_spec_GetText : C := (.seq (.ops [⟨(some 4), none, .alloc [(str []), (i64 0), (i64 0)]⟩])
 (.seq (.ops [q 6 (.mv (.t 0)), q 7 (.mv (.t 1)), ⟨(some 8), none, .call (.c (.func (.func 114) #[] #[])) [(.t 6), (.t 7)]⟩, ⟨(some 5), none, .alloc [(i64 0), (i64 0), (i64 0)]⟩, ⟨none, none, .st 3 (.t 5) (.t 8)⟩])
 (.seq (.seq (.ops [q 9 (.fld 2 (.t 5)), q 10 (.ld false 1 (.t 9)), q 11 (.bin .neq (.t 10) (.c (i64 0)))])
 (.cond (.t 11) (.seq (.ops [q 12 (.fld 2 (.t 5)), q 13 (.ld false 1 (.t 12)), q 14 (.build [(str []), (i64 0), (i64 0)] [(2, 1, (.t 13))]), ⟨none, none, .st 3 (.t 4) (.t 14)⟩])
 .ret) .skip))
 (.seq (.seq (.ops [q 15 (.fld 0 (.t 5)), q 16 (.ld false 1 (.t 15)), q 17 (.bin .lss (.t 16) (.c (i64 0))), q 18 (.mv (.t 17)), qg 19 18 false (.fld 0 (.t 5)), qg 20 18 false (.ld false 1 (.t 19)), qg 21 18 false (.bin .gtr (.t 20) (.c (i64 8000))), q 22 (.pick (.t 18) (.c (.bool true)) (.t 21))])
 (.cond (.t 22) (.seq (.ops [q 23 (.build [(str []), (i64 0), (i64 0)] [(2, 1, (.c (i64 3)))]), ⟨none, none, .st 3 (.t 4) (.t 23)⟩])
 .ret) .skip))
 (.seq (.seq (.ops [q 24 (.fld 1 (.t 5)), q 25 (.ld false 1 (.t 24)), q 26 (.mv (.t 0)), q 27 (.slen (.t 26)), q 28 (.fld 0 (.t 5)), q 29 (.ld false 1 (.t 28)), q 30 (.bin .sub (.t 27) (.t 29)), q 31 (.bin .gtr (.t 25) (.t 30))])
 (.cond (.t 31) (.seq (.ops [q 32 (.build [(str []), (i64 0), (i64 0)] [(2, 1, (.c (i64 4)))]), ⟨none, none, .st 3 (.t 4) (.t 32)⟩])
 .ret) .skip))
 (.seq (.dops true (.tk (q 33 (.mv (.t 0))) (.tk (q 34 (.fld 1 (.t 5))) (.tk (q 35 (.ld false 1 (.t 34))) (.tk (q 36 (.fld 1 (.t 5))) (.tk (q 37 (.ld false 1 (.t 36))) (.tk (q 38 (.fld 0 (.t 5))) (.tk (q 39 (.ld false 1 (.t 38))) (.tk (q 40 (.bin .add (.t 37) (.t 39))) (.tk (q 41 (.ssl (.t 33) (some (.t 35)) (some (.t 40)))) (.tk (q 42 (.fld 1 (.t 5))) (.tk (q 43 (.ld false 1 (.t 42))) (.tk (q 44 (.fld 0 (.t 5))) (.tk (q 45 (.ld false 1 (.t 44))) (.tk (q 46 (.bin .add (.t 43) (.t 45))) (.tk (q 47 (.build [(str []), (i64 0), (i64 0)] [(0, 1, (.t 41)), (1, 1, (.t 46))])) (.lt (⟨none, none, .st 3 (.t 4) (.t 47)⟩) .nil)))))))))))))))))
 .ret))))))
theorem w_spec_GetText {args : List Value} {h : H} {Q : Value → H → Prop} (hl : args.length ≤ 48) (hk : wpc Tryz.prog b_spec_GetText (retw [.cell 4 true 3] Q) (argsFr args) h) : AC Tryz.prog 115 args h Q :=
  AC.of_wpc mixedOrders Tryz.func115 (by kernel_rfl) (by kernel_rfl : prepF Tryz.prog Tryz.f115 = some ⟨48, [.cell 4 true 3], b_spec_GetText⟩) hl hk

theorem specGetText_pc (h : H) (t : List UInt8) (a : Nat) (ht : t.length ≤ 8000) (ha : a ≤ 1099511627776) : PC Tryz.prog 115 [str t, i64 a] h (.agg #[str (getT t a).1, i64 (getT t a).2.1, i64 (getT t a).2.2]) := by
  obtain ⟨n, e, c, hg⟩ : ∃ n e c, getN t a = (n, e, c) := ⟨_, _, _, rfl⟩
  refine PC_of ?_
  refine w_spec_GetText (by simp) ?_
  unfold b_spec_GetText
  simp -implicitDefEqProofs only [go_sem]
  intro b4 hb_b4 n_b4
  simp -implicitDefEqProofs only [go_sem, hb_b4]
  refine (specGetNum_pc _ t a ht ha).use ?_
  rw [hg]
  simp -implicitDefEqProofs only [go_sem, hb_b4]
  intro b5 hb_b5 m0_b5
  obtain ⟨z_b5_b4, y_b5_b4, n_b5⟩ := fne m0_b5
  simp only [H.set_base] at hb_b5
  simp -implicitDefEqProofs only [go_sem, hb_b4, hb_b5, z_b5_b4, y_b5_b4]
  by_cases hc : c = 0
  rotate_left
  · simp -implicitDefEqProofs only [go_sem, show ¬ ((c : Int) = 0) by omega, hb_b4, hb_b5, z_b5_b4, y_b5_b4]
    rw [getT_err hg hc]; exact ⟨(((Ext.refl _).set' n_b4 _).set' n_b5 _), rfl⟩
  subst hc
  have ok := getN_ok hg
  simp -implicitDefEqProofs only [go_sem, show ((0 : Nat) : Int) = 0 from rfl, hb_b4, hb_b5, z_b5_b4, y_b5_b4]
  by_cases h0 : n < 0
  · simp -implicitDefEqProofs only [go_sem, h0, hb_b4, hb_b5, z_b5_b4, y_b5_b4]
    rw [getT_big hg (by omega)]; exact ⟨(((Ext.refl _).set' n_b4 _).set' n_b5 _), rfl⟩
  by_cases h8 : 8000 < n
  · simp -implicitDefEqProofs only [go_sem, h0, h8, hb_b4, hb_b5, z_b5_b4, y_b5_b4]
    rw [getT_big hg (by omega)]; exact ⟨(((Ext.refl _).set' n_b4 _).set' n_b5 _), rfl⟩
  obtain ⟨m, rfl⟩ : ∃ m : Nat, n = m := ⟨n.toNat, by omega⟩
  have ew : IntKind.i64.wrap ((e : Int) + (m : Int)) = ((e + m : Nat) : Int) := by rw [wrap_i64 (by omega) (by omega)]; rfl
  by_cases hl : t.length < e + m
  · simp -implicitDefEqProofs only [go_sem, h0, h8, wrap_i64 (show -(9223372036854775808 : Int) ≤ ((t.length : Int) - (m : Int)) by omega) (show ((t.length : Int) - (m : Int)) < 9223372036854775808 by omega), show (t.length : Int) - (m : Int) < (e : Int) by omega, hb_b4, hb_b5, z_b5_b4, y_b5_b4]
    rw [getT_short hg (by omega) hl]; exact ⟨(((Ext.refl _).set' n_b4 _).set' n_b5 _), rfl⟩
  · simp -implicitDefEqProofs only [go_sem, h0, h8, wrap_i64 (show -(9223372036854775808 : Int) ≤ ((t.length : Int) - (m : Int)) by omega) (show ((t.length : Int) - (m : Int)) < 9223372036854775808 by omega), show ¬ ((t.length : Int) - (m : Int) < (e : Int)) by omega, ew, Int.natCast_nonneg, show ((e + m : Nat) : Int) ≤ (t.length : Int) by omega, show (e : Int) ≤ ((e + m : Nat) : Int) by omega, hb_b4, hb_b5, z_b5_b4, y_b5_b4]
    rw [getT_fine hg (by omega) hl]; exact ⟨(((Ext.refl _).set' n_b4 _).set' n_b5 _), rfl⟩
end Go.Proofs.YthjbhdmjfakfaaaGreatDoor
