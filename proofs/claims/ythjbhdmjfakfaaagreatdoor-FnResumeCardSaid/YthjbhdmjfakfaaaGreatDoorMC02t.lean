/- A helper of this seat's claims (contracts of the functions): what it shows is shown for every input that its statements name, on no other condition. -/
import Derived.Test.YthjbhdmjfakfaaaGreatDoorMC0
set_option linter.unusedVariables false
set_option linter.unusedSimpArgs false
set_option maxRecDepth 100000
namespace Go.Proofs.YthjbhdmjfakfaaaGreatDoor
open Go.KH

theorem getT_err {t : List UInt8} {a e c : Nat} {n : Int} (hg : getN t a = (n, e, c)) (hc : c ≠ 0) : getT t a = ([], 0, c) := by unfold getT; rw [hg]; simp [hc]
theorem getT_big {t : List UInt8} {a e : Nat} {n : Int} (hg : getN t a = (n, e, 0)) (hn : ¬ (0 ≤ n ∧ n ≤ 8000)) : getT t a = ([], 0, 3) := by unfold getT; rw [hg]; simp [hn]
theorem getT_short {t : List UInt8} {a e m : Nat} (hg : getN t a = ((m : Int), e, 0)) (hn : m ≤ 8000) (hl : t.length < e + m) : getT t a = ([], 0, 4) := by
 unfold getT; rw [hg]
 simp only [Int.toNat_natCast]
 rw [if_neg (by simp), if_neg (by omega), if_pos hl]
theorem getT_fine {t : List UInt8} {a e m : Nat} (hg : getN t a = ((m : Int), e, 0)) (hn : m ≤ 8000) (hl : ¬ t.length < e + m) : getT t a = ((t.take (e + m)).drop e, e + m, 0) := by
 unfold getT; rw [hg]
 simp only [Int.toNat_natCast]
 rw [if_neg (by simp), if_neg (by omega), if_neg hl]
def b_impl_getText : C := (jo [q 4 (.mv (.c (str []))), q 5 (.mv (.c (i64 0))), q 6 (.mv (.c (i64 0)))]
 (jo [jm 11 0, jm 12 1, jc 13 185 [(.t 11), (.t 12)], jm 10 13, q 14 (.ext 0 (.t 10)), q 15 (.ext 1 (.t 10)), q 16 (.ext 2 (.t 10)), jm 7 14, jm 8 15, jm 9 16]
 (.seq (.block 0 (jo [jm 18 9, jk 19 .neq 18 0, jm 17 19]
 (.cond (.t 17) (jo [jm 20 9, q 4 (.mv (.c (str []))), q 5 (.mv (.c (i64 0))), jm 6 20]
 .ret) (jo [jm 22 7, jc 23 140 [(.t 22), (.c (i64 0)), (.c (i64 8000))], q 24 (.un .not (.t 23)), jm 21 24]
 (.cond (.t 21) (jo [q 4 (.mv (.c (str []))), q 5 (.mv (.c (i64 0))), q 6 (.mv (.c (i64 3)))]
 .ret) (jo [jm 26 7, jm 27 0, q 28 (.slen (.t 27)), jm 29 8, jb 30 .sub 28 29, jb 31 .gtr 26 30, jm 25 31]
 (.cond (.t 25) (jo [q 4 (.mv (.c (str []))), q 5 (.mv (.c (i64 0))), q 6 (.mv (.c (i64 4)))]
 .ret) .skip)))))))
 (jo [jm 32 0, jm 33 8, jm 34 8, jm 35 7, jb 36 .add 34 35, q 37 (.ssl (.t 32) (some (.t 33)) (some (.t 36))), jm 38 8, jm 39 7, jb 40 .add 38 39, jm 4 37, jm 5 40, q 6 (.mv (.c (i64 0)))]
 .ret))))
theorem w_impl_getText : Wk Tryz.prog 186 41 [.tmp 4, .tmp 5, .tmp 6] b_impl_getText := Wk.of mixedOrders Tryz.func186 (by kernel_rfl) (by kernel_rfl)

theorem getText_pc (h : H) (t : List UInt8) (a : Nat) (ht : t.length ≤ 1099511627776) (ha : a ≤ 1099511627776) : PC Tryz.prog 186 [str t, i64 a] h (.tuple #[str (getT t a).1, i64 (getT t a).2.1, i64 (getT t a).2.2]) := by
 obtain ⟨n, e, c, hg⟩ : ∃ n e c, getN t a = (n, e, c) := ⟨_, _, _, rfl⟩
 refine w_impl_getText (by simp) ?_
 unfold b_impl_getText
 simp -implicitDefEqProofs only [go_sem]
 refine (getNum_pc _ t a ht ha).use ?_
 rw [hg]
 simp -implicitDefEqProofs only [go_sem]
 by_cases hc : c = 0
 rotate_left
 ·simp -implicitDefEqProofs only [go_sem, show ¬ ((c : Int) = 0) by omega]
  rw [getT_err hg hc]; rfl
 subst hc
 have ok := getN_ok hg
 simp -implicitDefEqProofs only [go_sem, show ((0 : Nat) : Int) = 0 from rfl]
 refine (within_pc _ _ _ _).use ?_
 simp -implicitDefEqProofs only [go_sem]
 by_cases hn : 0 ≤ n ∧ n ≤ 8000
 rotate_left
 ·simp -implicitDefEqProofs only [go_sem, hn]
  rw [getT_big hg hn]; rfl
 obtain ⟨m, rfl⟩ : ∃ m : Nat, n = m := ⟨n.toNat, by omega⟩
 simp -implicitDefEqProofs only [go_sem, hn, wrap_i64 (show -(9223372036854775808 : Int) ≤ ((t.length : Int) - (e : Int)) by omega) (show ((t.length : Int) - (e : Int)) < 9223372036854775808 by omega)]
 have ew : IntKind.i64.wrap ((e : Int) + (m : Int)) = ((e + m : Nat) : Int) := by rw [wrap_i64 (by omega) (by omega)]; rfl
 by_cases hl : t.length < e + m
 ·simp -implicitDefEqProofs only [go_sem, show (t.length : Int) - (e : Int) < (m : Int) by omega]
  rw [getT_short hg (by omega) hl]; rfl
 ·simp -implicitDefEqProofs only [go_sem, show ¬ ((t.length : Int) - (e : Int) < (m : Int)) by omega, ew, Int.natCast_nonneg, show ((e + m : Nat) : Int) ≤ (t.length : Int) by omega, show (e : Int) ≤ ((e + m : Nat) : Int) by omega]
  rw [getT_fine hg (by omega) hl]; rfl
def b_spec_GetText : C := (jo [⟨(some 4), none, .alloc [(str []), (i64 0), (i64 0)]⟩]
 (jo [jm 6 0, jm 7 1, jc 8 114 [(.t 6), (.t 7)], ⟨(some 5), none, .alloc [(i64 0), (i64 0), (i64 0)]⟩, js 3 5 8]
 (.seq (jo [jf 9 2 5, jl 10 9, jk 11 .neq 10 0]
 (.cond (.t 11) (jo [jf 12 2 5, jl 13 12, q 14 (.build [(str []), (i64 0), (i64 0)] [(2, 1, (.t 13))]), js 3 4 14]
 .ret) .skip))
 (.seq (jo [jf 15 0 5, jl 16 15, jk 17 .lss 16 0, jm 18 17, qg 19 18 false (.fld 0 (.t 5)), qg 20 18 false (.ld false 1 (.t 19)), qg 21 18 false (.bin .gtr (.t 20) (.c (i64 8000))), q 22 (.pick (.t 18) (.c (.bool true)) (.t 21))]
 (.cond (.t 22) (jo [q 23 (.build [(str []), (i64 0), (i64 0)] [(2, 1, (.c (i64 3)))]), js 3 4 23]
 .ret) .skip))
 (.seq (jo [jf 24 1 5, jl 25 24, jm 26 0, q 27 (.slen (.t 26)), jf 28 0 5, jl 29 28, jb 30 .sub 27 29, jb 31 .gtr 25 30]
 (.cond (.t 31) (jo [q 32 (.build [(str []), (i64 0), (i64 0)] [(2, 1, (.c (i64 4)))]), js 3 4 32]
 .ret) .skip))
 (.seq (.dops true (.tk (jm 33 0) (.tk (jf 34 1 5) (.tk (jl 35 34) (.tk (jf 36 1 5) (.tk (jl 37 36) (.tk (jf 38 0 5) (.tk (jl 39 38) (.tk (jb 40 .add 37 39) (.tk (q 41 (.ssl (.t 33) (some (.t 35)) (some (.t 40)))) (.tk (jf 42 1 5) (.tk (jl 43 42) (.tk (jf 44 0 5) (.tk (jl 45 44) (.tk (jb 46 .add 43 45) (.tk (q 47 (.build [(str []), (i64 0), (i64 0)] [(0, 1, (.t 41)), (1, 1, (.t 46))])) (.lt (js 3 4 47) .nil)))))))))))))))))
 .ret))))))
theorem w_spec_GetText : Wk Tryz.prog 115 48 [.cell 4 true 3] b_spec_GetText := Wk.of mixedOrders Tryz.func115 (by kernel_rfl) (by kernel_rfl)

theorem specGetText_pc (h : H) (t : List UInt8) (a : Nat) (ht : t.length ≤ 8000) (ha : a ≤ 1099511627776) : PC Tryz.prog 115 [str t, i64 a] h (.agg #[str (getT t a).1, i64 (getT t a).2.1, i64 (getT t a).2.2]) := by
 obtain ⟨n, e, c, hg⟩ : ∃ n e c, getN t a = (n, e, c) := ⟨_, _, _, rfl⟩
 refine PC_of ?_
 refine w_spec_GetText (by simp) ?_
 unfold b_spec_GetText
 simp -implicitDefEqProofs only [go_sem]
 intro b4 hb_b4 n_b4
 simp -implicitDefEqProofs only [go_sem, hb_b4]
 refine (specGetNum_pc _ t a ht ha).use ?_
 rw [hg]
 simp -implicitDefEqProofs only [go_sem, hb_b4]
 intro b5 hb_b5 m0_b5
 obtain ⟨z_b5_b4, y_b5_b4, n_b5⟩ := fne m0_b5
 simp only [H.set_base] at hb_b5
 simp -implicitDefEqProofs only [go_sem, hb_b4, hb_b5, z_b5_b4, y_b5_b4]
 by_cases hc : c = 0
 rotate_left
 ·simp -implicitDefEqProofs only [go_sem, show ¬ ((c : Int) = 0) by omega, hb_b4, hb_b5, z_b5_b4, y_b5_b4]
  rw [getT_err hg hc]; exact ⟨(((Ext.refl _).set' n_b4 _).set' n_b5 _), rfl⟩
 subst hc
 have ok := getN_ok hg
 simp -implicitDefEqProofs only [go_sem, show ((0 : Nat) : Int) = 0 from rfl, hb_b4, hb_b5, z_b5_b4, y_b5_b4]
 by_cases h0 : n < 0
 ·simp -implicitDefEqProofs only [go_sem, h0, hb_b4, hb_b5, z_b5_b4, y_b5_b4]
  rw [getT_big hg (by omega)]; exact ⟨(((Ext.refl _).set' n_b4 _).set' n_b5 _), rfl⟩
 by_cases h8 : 8000 < n
 ·simp -implicitDefEqProofs only [go_sem, h0, h8, hb_b4, hb_b5, z_b5_b4, y_b5_b4]
  rw [getT_big hg (by omega)]; exact ⟨(((Ext.refl _).set' n_b4 _).set' n_b5 _), rfl⟩
 obtain ⟨m, rfl⟩ : ∃ m : Nat, n = m := ⟨n.toNat, by omega⟩
 have ew : IntKind.i64.wrap ((e : Int) + (m : Int)) = ((e + m : Nat) : Int) := by rw [wrap_i64 (by omega) (by omega)]; rfl
 by_cases hl : t.length < e + m
 ·simp -implicitDefEqProofs only [go_sem, h0, h8, wrap_i64 (show -(9223372036854775808 : Int) ≤ ((t.length : Int) - (m : Int)) by omega) (show ((t.length : Int) - (m : Int)) < 9223372036854775808 by omega), show (t.length : Int) - (m : Int) < (e : Int) by omega, hb_b4, hb_b5, z_b5_b4, y_b5_b4]
  rw [getT_short hg (by omega) hl]; exact ⟨(((Ext.refl _).set' n_b4 _).set' n_b5 _), rfl⟩
 ·simp -implicitDefEqProofs only [go_sem, h0, h8, wrap_i64 (show -(9223372036854775808 : Int) ≤ ((t.length : Int) - (m : Int)) by omega) (show ((t.length : Int) - (m : Int)) < 9223372036854775808 by omega), show ¬ ((t.length : Int) - (m : Int) < (e : Int)) by omega, ew, Int.natCast_nonneg, show ((e + m : Nat) : Int) ≤ (t.length : Int) by omega, show (e : Int) ≤ ((e + m : Nat) : Int) by omega, hb_b4, hb_b5, z_b5_b4, y_b5_b4]
  rw [getT_fine hg (by omega) hl]; exact ⟨(((Ext.refl _).set' n_b4 _).set' n_b5 _), rfl⟩
end Go.Proofs.YthjbhdmjfakfaaaGreatDoor
namespace Go.Proofs.YthjbhdmjfakfaaaGreatDoor
open Go.KH

abbrev rdc (t : List UInt8) (a : Nat) (bad : Bool) : List Value := [str t, i64 a, .bool bad]
def numI (t : List UInt8) (a : Nat) (bad : Bool) : Int × Nat × Bool := if (getN t a).2.2 = 0 then ((getN t a).1, (getN t a).2.1, bad) else (0, a, true)
def textI (t : List UInt8) (a : Nat) (bad : Bool) : List UInt8 × Nat × Bool := if (getT t a).2.2 = 0 then ((getT t a).1, (getT t a).2.1, bad) else ([], a, true)
theorem getN_le (t : List UInt8) (a : Nat) : (getN t a).2.1 ≤ t.length := by
 by_cases hc : (getN t a).2.2 = 0
 ·exact (getN_ok (n := (getN t a).1) (e := (getN t a).2.1) (by rw [← hc])).2.2.1
 ·rw [getN_bad hc]; exact Nat.zero_le _
theorem numI_le {t : List UInt8} {a B : Nat} {bad : Bool} (h : a ≤ B) (ht : t.length ≤ B) : (numI t a bad).2.1 ≤ B := by
 unfold numI; split
 ·have := getN_le t a; simp only; omega
 ·exact h
def b_impl_reader_num : C := (jo [q 2 (.mv (.c (i64 0)))]
 (.seq (.dops true (.tk (jm 7 0) (.tk (q 8 (.nck (.t 7))) (.tk (jf 9 0 8) (.tk (jl 10 9) (.tk (jm 11 0) (.tk (q 12 (.nck (.t 11))) (.tk (jf 13 1 12) (.tk (jl 14 13) (.sq (jc 15 185 [(.t 10), (.t 14)]) (.tk (jm 6 15) (.tk (q 16 (.ext 0 (.t 6))) (.tk (q 17 (.ext 1 (.t 6))) (.tk (q 18 (.ext 2 (.t 6))) (.tk (jm 3 16) (.tk (jm 4 17) (.tk (jm 5 18) .nil)))))))))))))))))
 (.seq (jo [jm 19 5, jk 20 .neq 19 0]
 (.cond (.t 20) (jo [jm 21 0, q 22 (.nck (.t 21)), jf 23 2 22, ⟨none, none, .st 1 (.t 23) (.c (.bool true))⟩]
 (jo [q 2 (.mv (.c (i64 0)))]
 .ret)) .skip))
 (jo [jm 24 0, jm 25 4, q 26 (.nck (.t 24)), jf 27 1 26, js 1 27 25]
 (jo [jm 28 3, jm 2 28]
 .ret)))))
theorem w_impl_reader_num : Wk Tryz.prog 107 29 [.tmp 2] b_impl_reader_num := Wk.of mixedOrders Tryz.func107 (by kernel_rfl) (by kernel_rfl)

theorem rnum_ac {h : H} {b z a : Nat} {t : List UInt8} {bad : Bool} (hb : h.base ≤ b) (hg : h.get b = some ⟨rdc t a bad, z⟩) (ht : t.length ≤ 1048576) (ha : a ≤ 1048576) : AC Tryz.prog 107 [ptr b 0] h fun r h' =>
  r = i64 (numI t a bad).1 ∧ h' = h.set b ⟨rdc t (numI t a bad).2.1 (numI t a bad).2.2, z⟩ := by
 obtain ⟨n, e, c, hn⟩ : ∃ n e c, getN t a = (n, e, c) := ⟨_, _, _, rfl⟩
 unfold numI
 rw [hn]
 refine w_impl_reader_num (by simp) ?_
 unfold b_impl_reader_num
 simp -implicitDefEqProofs only [go_sem, ldc_get hg]
 refine (getNum_pc _ t a (by omega) (by omega)).use ?_
 rw [hn]
 simp -implicitDefEqProofs only [go_sem]
 by_cases hc : c = 0
 ·subst hc
  simp -implicitDefEqProofs only [go_sem, show ((0 : Nat) : Int) = 0 from rfl, stc_get hg, hb]
 ·simp -implicitDefEqProofs only [go_sem, show ¬ ((c : Int) = 0) by omega, stc_get hg, hb, hc]
def b_impl_reader_word : C := (jo [q 2 (.mv (.c (str [])))]
 (.seq (.dops true (.tk (jm 7 0) (.tk (q 8 (.nck (.t 7))) (.tk (jf 9 0 8) (.tk (jl 10 9) (.tk (jm 11 0) (.tk (q 12 (.nck (.t 11))) (.tk (jf 13 1 12) (.tk (jl 14 13) (.sq (jc 15 186 [(.t 10), (.t 14)]) (.tk (jm 6 15) (.tk (q 16 (.ext 0 (.t 6))) (.tk (q 17 (.ext 1 (.t 6))) (.tk (q 18 (.ext 2 (.t 6))) (.tk (jm 3 16) (.tk (jm 4 17) (.tk (jm 5 18) .nil)))))))))))))))))
 (.seq (jo [jm 19 5, jk 20 .neq 19 0]
 (.cond (.t 20) (jo [jm 21 0, q 22 (.nck (.t 21)), jf 23 2 22, ⟨none, none, .st 1 (.t 23) (.c (.bool true))⟩]
 (jo [q 2 (.mv (.c (str [])))]
 .ret)) .skip))
 (jo [jm 24 0, jm 25 4, q 26 (.nck (.t 24)), jf 27 1 26, js 1 27 25]
 (jo [jm 28 3, jm 2 28]
 .ret)))))
theorem w_impl_reader_word : Wk Tryz.prog 108 29 [.tmp 2] b_impl_reader_word := Wk.of mixedOrders Tryz.func108 (by kernel_rfl) (by kernel_rfl)

theorem rword_ac {h : H} {b z a : Nat} {t : List UInt8} {bad : Bool} (hb : h.base ≤ b) (hg : h.get b = some ⟨rdc t a bad, z⟩) (ht : t.length ≤ 1048576) (ha : a ≤ 1048576) : AC Tryz.prog 108 [ptr b 0] h fun r h' =>
  r = str (textI t a bad).1 ∧ h' = h.set b ⟨rdc t (textI t a bad).2.1 (textI t a bad).2.2, z⟩ := by
 obtain ⟨n, e, c, hn⟩ : ∃ n e c, getT t a = (n, e, c) := ⟨_, _, _, rfl⟩
 unfold textI
 rw [hn]
 refine w_impl_reader_word (by simp) ?_
 unfold b_impl_reader_word
 simp -implicitDefEqProofs only [go_sem, ldc_get hg]
 refine (getText_pc _ t a (by omega) (by omega)).use ?_
 rw [hn]
 simp -implicitDefEqProofs only [go_sem]
 by_cases hc : c = 0
 ·subst hc
  simp -implicitDefEqProofs only [go_sem, show ((0 : Nat) : Int) = 0 from rfl, stc_get hg, hb]
 ·simp -implicitDefEqProofs only [go_sem, show ¬ ((c : Int) = 0) by omega, stc_get hg, hb, hc]
theorem rnum {h : H} {b z a e : Nat} {t : List UInt8} {bad bd : Bool} {n : Int} (hn : numI t a bad = (n, e, bd)) (hb : h.base ≤ b) (hg : h.get b = some ⟨rdc t a bad, z⟩) (ht : t.length ≤ 1048576) (ha : a ≤ 1048576) : AC Tryz.prog 107 [ptr b 0] h fun r h' =>
  r = i64 n ∧ h' = h.set b ⟨rdc t e bd, z⟩ := by have := rnum_ac hb hg ht ha; rw [hn] at this; exact this
theorem rword {h : H} {b z a e : Nat} {t x : List UInt8} {bad bd : Bool} (hn : textI t a bad = (x, e, bd)) (hb : h.base ≤ b) (hg : h.get b = some ⟨rdc t a bad, z⟩) (ht : t.length ≤ 1048576) (ha : a ≤ 1048576) : AC Tryz.prog 108 [ptr b 0] h fun r h' =>
  r = str x ∧ h' = h.set b ⟨rdc t e bd, z⟩ := by have := rword_ac hb hg ht ha; rw [hn] at this; exact this
theorem numI_eq {t : List UInt8} {a e B : Nat} {bad bd : Bool} {n : Int} (hn : numI t a bad = (n, e, bd)) (h : a ≤ B) (ht : t.length ≤ B) : e ≤ B := by have := numI_le (bad := bad) h ht; rw [hn] at this; exact this
end Go.Proofs.YthjbhdmjfakfaaaGreatDoor