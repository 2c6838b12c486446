/- A helper of this seat's claims (contracts of the functions): what it shows is shown for every input that its statements name, on no other condition. -/
import Derived.Test.YthjbhdmjfakfaaaGreatDoorC04
import Derived.Test.YthjbhdmjfakfaaaGreatDoorKD
set_option linter.unusedVariables false
set_option linter.unusedSimpArgs false
set_option maxRecDepth 100000
namespace Go.Proofs.YthjbhdmjfakfaaaGreatDoor
open Go.KH

def metaStep (s : ((Int × List UInt8) × Int) × Int) (o : (Int × List UInt8) × Int) (n : Int) : ((Int × List UInt8) × Int) × Int := if o.2 = 0 ∧ (s.2 < 0 ∨ s.1.1.1 < o.1.1) then (o, n) else s
def metaIt (f : UFlash) : Nat → ((Int × List UInt8) × Int) × Int
 | 0 => (((0, []), 6), -1)
 | k + 1 => metaStep (metaIt f k) (metaR (flashGet f k)) k
theorem metaIt_two (f : UFlash) : metaIt f 2 = metaGet f := by
 unfold metaIt metaIt metaIt metaGet metaStep
 simp only [show ((0 : Nat) : Int) = 0 from rfl, show ((1 : Nat) : Int) = 1 from rfl]
 by_cases h1 : (metaR (flashGet f 0)).2 = 0
 ·by_cases h2 : (metaR (flashGet f 1)).2 = 0
  ·by_cases h3 : (metaR (flashGet f 0)).1.1 < (metaR (flashGet f 1)).1.1
   ·simp [h1, h2, h3]
   ·simp [h1, h2, h3]
  ·simp [h1, h2]
 ·by_cases h2 : (metaR (flashGet f 1)).2 = 0
  ·simp [h1, h2]
  ·simp [h1, h2]
def b_impl_metaGet : C := (jo [⟨(some 1), none, .box (.t 0)⟩, ⟨(some 2), none, .alloc [(i64 0), (str []), (i64 0)]⟩, q 3 (.mv (.c (i64 0)))]
 (jo [q 8 (.build [(i64 0), (str []), (i64 0)] [(2, 1, (.c (i64 6)))]), ⟨(some 4), none, .alloc [(i64 0), (str []), (i64 0)]⟩, js 3 4 8, q 5 (.mv (.c (i64 (-1))))]
 (.seq (jo [q 9 (.mv (.c (i64 0)))]
 (.block 0 (.loop (jo [jk 10 .lss 9 2]
 (.seq (.cond (.t 10) .skip (.exit 0))
 (.seq (.block 1 (jo [jm 11 9, jm 6 11]
 (jo [jd 12 2 1, jm 13 6, jc 14 166 [(.t 12), (.t 13)], jc 15 209 [(.t 14)], ⟨(some 7), none, .alloc [(i64 0), (str []), (i64 0)]⟩, js 3 7 15]
 (jo [jf 16 2 7, jl 17 16, jk 18 .eql 17 0, jm 19 18, qg 20 19 true (.mv (.t 5)), qg 21 19 true (.bin .lss (.t 20) (.c (i64 0))), qg 22 19 true (.mv (.t 21)), qg 23 22 false (.fld 0 (.t 7)), qg 24 22 false (.ld false 1 (.t 23)), qg 25 22 false (.fld 0 (.t 4)), qg 26 22 false (.ld false 1 (.t 25)), qg 27 22 false (.bin .gtr (.t 24) (.t 26)), qg 28 19 true (.pick (.t 22) (.c (.bool true)) (.t 27)), q 29 (.pick (.t 19) (.t 28) (.c (.bool false)))]
 (.cond (.t 29) (.ops [jd 30 3 7, jm 31 6, js 3 4 30, jm 5 31]) .skip)))))
 (.ops [jk 32 .add 9 1, jm 9 32])))))))
 (jo [jd 33 3 4, jm 34 5, js 3 2 33, jm 3 34]
 .ret))))
theorem w_impl_metaGet : Wk Tryz.prog 142 35 [.cell 2 true 3, .tmp 3] b_impl_metaGet := Wk.of mixedOrders Tryz.func142 (by kernel_rfl) (by kernel_rfl)

theorem metaGet_pc {h : H} {vs vd : Value} {f : UFlash} (hv : FlR h f vs vd) (ho : flashOk f) (h2 : 2 ≤ f.sec.length) : PC Tryz.prog 142 [.agg #[vs, vd]] h (.tuple #[.agg (metaC (metaGet f).1).toArray, i64 (metaGet f).2]) := by
 have hsm := flashOk_small ho
 have o1 := hv.1.one
 have o2 := hv.2.one
 refine PC_of ?_
 rw [← metaIt_two]
 skip
 refine w_impl_metaGet (by simp) ?_
 unfold b_impl_metaGet
 simp -implicitDefEqProofs only [go_sem, o1, o2]
 intro b1 hb_b1 n_b1
 simp -implicitDefEqProofs only [go_sem, o1, o2, hb_b1]
 intro b2 hb_b2 m0_b2
 obtain ⟨z_b2_b1, y_b2_b1, n_b2⟩ := fne m0_b2
 simp only [H.set_base] at hb_b2
 simp -implicitDefEqProofs only [go_sem, o1, o2, hb_b1, hb_b2, z_b2_b1, y_b2_b1]
 intro b4 hb_b4 m0_b4
 obtain ⟨z_b4_b2, y_b4_b2, m1_b4⟩ := fne m0_b4
 obtain ⟨z_b4_b1, y_b4_b1, n_b4⟩ := fne m1_b4
 simp only [H.set_base] at hb_b4
 simp -implicitDefEqProofs only [go_sem, o1, o2, hb_b1, hb_b2, z_b2_b1, y_b2_b1, hb_b4, z_b4_b2, y_b4_b2, z_b4_b1, y_b4_b1]
 have ex : ∀ x, Ext h (((h.set b1 ⟨[vs, vd], 2⟩).set b2 ⟨[i64 0, str [], i64 0], 3⟩).set b4 x) := fun x => ((((Ext.refl _).set' n_b1 _).set' n_b2 _).set' n_b4 _)
 have g1 : ∀ x, (((h.set b1 ⟨[vs, vd], 2⟩).set b2 ⟨[i64 0, str [], i64 0], 3⟩).set b4 x).get b1 = some ⟨[vs, vd], 2⟩ := fun x => by simp -implicitDefEqProofs only [go_sem, o1, o2, hb_b1, hb_b2, z_b2_b1, y_b2_b1, hb_b4, z_b4_b2, y_b4_b2, z_b4_b1, y_b4_b1]
 refine loopW_of (fun m f1 h' => ∃ k, m + k = 2 ∧ h' = ((h.set b1 ⟨[vs, vd], 2⟩).set b2 ⟨[i64 0, str [], i64 0], 3⟩).set b4 ⟨metaC (metaIt f k).1, 3⟩ ∧ f1 1 = ptr b1 0 ∧ f1 2 = ptr b2 0 ∧ f1 4 = ptr b4 0 ∧ f1 5 = i64 (metaIt f k).2 ∧ f1 9 = i64 k) 2
  ⟨0, by simp, rfl, by simp -implicitDefEqProofs only [go_sem, o1, o2, hb_b1, hb_b2, z_b2_b1, y_b2_b1, hb_b4, z_b4_b2, y_b4_b2, z_b4_b1, y_b4_b1], by simp -implicitDefEqProofs only [go_sem, o1, o2, hb_b1, hb_b2, z_b2_b1, y_b2_b1, hb_b4, z_b4_b2, y_b4_b2, z_b4_b1, y_b4_b1], by simp -implicitDefEqProofs only [go_sem, o1, o2, hb_b1, hb_b2, z_b2_b1, y_b2_b1, hb_b4, z_b4_b2, y_b4_b2, z_b4_b1, y_b4_b1], by simp -implicitDefEqProofs only [go_sem, o1, o2, hb_b1, hb_b2, z_b2_b1, y_b2_b1, hb_b4, z_b4_b2, y_b4_b2, z_b4_b1, y_b4_b1]; rfl, by simp -implicitDefEqProofs only [go_sem, o1, o2, hb_b1, hb_b2, z_b2_b1, y_b2_b1, hb_b4, z_b4_b2, y_b4_b2, z_b4_b1, y_b4_b1]; rfl⟩ ?_
 rintro m f1 h' ⟨k, hm, rfl, f01, f02, f04, f05, f09⟩
 skip
 by_cases hk : k < 2
 ·simp -implicitDefEqProofs only [go_sem, show (k : Int) < 2 by omega, o1, o2, hb_b1, hb_b2, z_b2_b1, y_b2_b1, hb_b4, z_b4_b2, y_b4_b2, z_b4_b1, y_b4_b1, f01, f02, f04, f05, f09]
  refine (read_pc (hv.ext (ex _)) (by omega) (by omega)).use ?_
  simp -implicitDefEqProofs only [go_sem, o1, o2, hb_b1, hb_b2, z_b2_b1, y_b2_b1, hb_b4, z_b4_b2, y_b4_b2, z_b4_b1, y_b4_b1, f01, f02, f04, f05, f09]
  refine (metaRead_pc _ _ (by have := flashGet_len ho (k : Int); omega)).use ?_
  simp -implicitDefEqProofs only [go_sem, o1, o2, hb_b1, hb_b2, z_b2_b1, y_b2_b1, hb_b4, z_b4_b2, y_b4_b2, z_b4_b1, y_b4_b1, f01, f02, f04, f05, f09]
  intro b7 hb7 n7
  have z74 : (b4 = b7) = False := eq_false fun e => by rw [← e, H.set_get_same] at n7; cases n7
  have y74 : (b7 = b4) = False := eq_false fun e => (of_eq_false z74) e.symm
  have e7 := fun x => (Ext.refl _).set n7 x
  simp only [H.set_base] at hb7
  skip
  have hst : metaIt f (k + 1) = metaStep (metaIt f k) (metaR (flashGet f k)) k := rfl
  unfold metaStep at hst
  by_cases p1 : (metaR (flashGet f k)).2 = 0
  rotate_left
  ·rw [if_neg (fun h => p1 h.1)] at hst
   simp -implicitDefEqProofs only [go_sem, p1, wrap_i64 (show -(9223372036854775808 : Int) ≤ ((k : Int) + 1) by omega) (show ((k : Int) + 1) < 9223372036854775808 by omega), o1, o2, hb_b1, hb_b2, z_b2_b1, y_b2_b1, hb_b4, z_b4_b2, y_b4_b2, z_b4_b1, y_b4_b1, f01, f02, f04, f05, f09, hb7, z74, y74]
   exact ⟨m - 1, by omega, _, e7 _, k + 1, by omega, by rw [hst], by rw [hst], rfl⟩
  by_cases p2 : (metaIt f k).2 < 0 ∨ (metaIt f k).1.1.1 < (metaR (flashGet f k)).1.1
  ·rw [if_pos ⟨p1, p2⟩] at hst
   have e8 : ∀ x y, Ext (((h.set b1 ⟨[vs, vd], 2⟩).set b2 ⟨[i64 0, str [], i64 0], 3⟩).set b4 x) ((((h.set b1 ⟨[vs, vd], 2⟩).set b2 ⟨[i64 0, str [], i64 0], 3⟩).set b4 x).set b7 y) := fun x y => (Ext.refl _).set (by rw [H.set_get_ne _ _ _ _ (of_eq_false y74)] at n7 ⊢; exact n7) _
   by_cases p3 : (metaIt f k).2 < 0
   ·simp -implicitDefEqProofs only [go_sem, decide_eq_true p1, p3, wrap_i64 (show -(9223372036854775808 : Int) ≤ ((k : Int) + 1) by omega) (show ((k : Int) + 1) < 9223372036854775808 by omega), o1, o2, hb_b1, hb_b2, z_b2_b1, y_b2_b1, hb_b4, z_b4_b2, y_b4_b2, z_b4_b1, y_b4_b1, f01, f02, f04, f05, f09, hb7, z74, y74]
    exact ⟨m - 1, by omega, _, e8 _ _, k + 1, by omega, by rw [hst], by rw [hst], rfl⟩
   ·have p4 := p2.resolve_left p3
    simp -implicitDefEqProofs only [go_sem, decide_eq_true p1, p3, p4, wrap_i64 (show -(9223372036854775808 : Int) ≤ ((k : Int) + 1) by omega) (show ((k : Int) + 1) < 9223372036854775808 by omega), o1, o2, hb_b1, hb_b2, z_b2_b1, y_b2_b1, hb_b4, z_b4_b2, y_b4_b2, z_b4_b1, y_b4_b1, f01, f02, f04, f05, f09, hb7, z74, y74]
    exact ⟨m - 1, by omega, _, e8 _ _, k + 1, by omega, by rw [hst], by rw [hst], rfl⟩
  ·rw [if_neg (fun h => p2 h.2)] at hst
   have p3 : ¬ (metaIt f k).2 < 0 := fun h => p2 (.inl h)
   have p4 : ¬ (metaIt f k).1.1.1 < (metaR (flashGet f k)).1.1 := fun h => p2 (.inr h)
   simp -implicitDefEqProofs only [go_sem, decide_eq_true p1, p3, p4, wrap_i64 (show -(9223372036854775808 : Int) ≤ ((k : Int) + 1) by omega) (show ((k : Int) + 1) < 9223372036854775808 by omega), o1, o2, hb_b1, hb_b2, z_b2_b1, y_b2_b1, hb_b4, z_b4_b2, y_b4_b2, z_b4_b1, y_b4_b1, f01, f02, f04, f05, f09, hb7, z74, y74]
   exact ⟨m - 1, by omega, _, e7 _, k + 1, by omega, by rw [hst], by rw [hst], rfl⟩
 ·have e : k = 2 := by omega
  subst e
  skip
  simp -implicitDefEqProofs only [go_sem, show ¬ ((2 : Nat) : Int) < 2 by omega, o1, o2, hb_b1, hb_b2, z_b2_b1, y_b2_b1, hb_b4, z_b4_b2, y_b4_b2, z_b4_b1, y_b4_b1, f01, f02, f04, f05, f09]
  exact ((((Ext.refl _).set' n_b1 _).set' n_b2 _).set' n_b4 _)
def b_spec_l04Get : C := (jo [⟨(some 1), none, .box (.t 0)⟩, ⟨(some 2), none, .alloc [(i64 0), (str []), (i64 0)]⟩, q 3 (.mv (.c (i64 0)))]
 (.seq (.dops true (.tk (jd 6 2 1) (.tk (jd 9 2 1) (.alt3 (jc 7 201 [(.t 6), (.c (i64 0))]) (.alt3 (jc 8 200 [(.t 7)]) (.alt3 (jc 10 201 [(.t 9), (.c (i64 1))]) (.alt3 (jc 11 200 [(.t 10)]) (.alt (⟨(some 4), none, .alloc [(i64 0), (str []), (i64 0)]⟩) (.sq (⟨(some 5), none, .alloc [(i64 0), (str []), (i64 0)]⟩) (.lt (js 3 4 8) (.lt (js 3 5 11) .nil))) (⟨(some 5), none, .alloc [(i64 0), (str []), (i64 0)]⟩) (.sq (⟨(some 4), none, .alloc [(i64 0), (str []), (i64 0)]⟩) (.lt (js 3 4 8) (.lt (js 3 5 11) .nil)))) (⟨(some 4), none, .alloc [(i64 0), (str []), (i64 0)]⟩) (.alt (jc 11 200 [(.t 10)]) (.sq (⟨(some 5), none, .alloc [(i64 0), (str []), (i64 0)]⟩) (.lt (js 3 4 8) (.lt (js 3 5 11) .nil))) (⟨(some 5), none, .alloc [(i64 0), (str []), (i64 0)]⟩) (.sq (jc 11 200 [(.t 10)]) (.lt (js 3 4 8) (.lt (js 3 5 11) .nil)))) (⟨(some 5), none, .alloc [(i64 0), (str []), (i64 0)]⟩) (.alt (jc 11 200 [(.t 10)]) (.sq (⟨(some 4), none, .alloc [(i64 0), (str []), (i64 0)]⟩) (.lt (js 3 4 8) (.lt (js 3 5 11) .nil))) (⟨(some 4), none, .alloc [(i64 0), (str []), (i64 0)]⟩) (.sq (jc 11 200 [(.t 10)]) (.lt (js 3 4 8) (.lt (js 3 5 11) .nil))))) (⟨(some 4), none, .alloc [(i64 0), (str []), (i64 0)]⟩) (.alt (jc 10 201 [(.t 9), (.c (i64 1))]) (.alt (jc 11 200 [(.t 10)]) (.sq (⟨(some 5), none, .alloc [(i64 0), (str []), (i64 0)]⟩) (.lt (js 3 4 8) (.lt (js 3 5 11) .nil))) (⟨(some 5), none, .alloc [(i64 0), (str []), (i64 0)]⟩) (.sq (jc 11 200 [(.t 10)]) (.lt (js 3 4 8) (.lt (js 3 5 11) .nil)))) (⟨(some 5), none, .alloc [(i64 0), (str []), (i64 0)]⟩) (.sq (jc 10 201 [(.t 9), (.c (i64 1))]) (.sq (jc 11 200 [(.t 10)]) (.lt (js 3 4 8) (.lt (js 3 5 11) .nil))))) (⟨(some 5), none, .alloc [(i64 0), (str []), (i64 0)]⟩) (.alt (jc 10 201 [(.t 9), (.c (i64 1))]) (.alt (jc 11 200 [(.t 10)]) (.sq (⟨(some 4), none, .alloc [(i64 0), (str []), (i64 0)]⟩) (.lt (js 3 4 8) (.lt (js 3 5 11) .nil))) (⟨(some 4), none, .alloc [(i64 0), (str []), (i64 0)]⟩) (.sq (jc 11 200 [(.t 10)]) (.lt (js 3 4 8) (.lt (js 3 5 11) .nil)))) (⟨(some 4), none, .alloc [(i64 0), (str []), (i64 0)]⟩) (.sq (jc 10 201 [(.t 9), (.c (i64 1))]) (.sq (jc 11 200 [(.t 10)]) (.lt (js 3 4 8) (.lt (js 3 5 11) .nil)))))) (⟨(some 4), none, .alloc [(i64 0), (str []), (i64 0)]⟩) (.alt (jc 8 200 [(.t 7)]) (.alt (jc 10 201 [(.t 9), (.c (i64 1))]) (.alt (jc 11 200 [(.t 10)]) (.sq (⟨(some 5), none, .alloc [(i64 0), (str []), (i64 0)]⟩) (.lt (js 3 4 8) (.lt (js 3 5 11) .nil))) (⟨(some 5), none, .alloc [(i64 0), (str []), (i64 0)]⟩) (.sq (jc 11 200 [(.t 10)]) (.lt (js 3 4 8) (.lt (js 3 5 11) .nil)))) (⟨(some 5), none, .alloc [(i64 0), (str []), (i64 0)]⟩) (.sq (jc 10 201 [(.t 9), (.c (i64 1))]) (.sq (jc 11 200 [(.t 10)]) (.lt (js 3 4 8) (.lt (js 3 5 11) .nil))))) (⟨(some 5), none, .alloc [(i64 0), (str []), (i64 0)]⟩) (.sq (jc 8 200 [(.t 7)]) (.sq (jc 10 201 [(.t 9), (.c (i64 1))]) (.sq (jc 11 200 [(.t 10)]) (.lt (js 3 4 8) (.lt (js 3 5 11) .nil)))))) (⟨(some 5), none, .alloc [(i64 0), (str []), (i64 0)]⟩) (.alt (jc 8 200 [(.t 7)]) (.alt (jc 10 201 [(.t 9), (.c (i64 1))]) (.alt (jc 11 200 [(.t 10)]) (.sq (⟨(some 4), none, .alloc [(i64 0), (str []), (i64 0)]⟩) (.lt (js 3 4 8) (.lt (js 3 5 11) .nil))) (⟨(some 4), none, .alloc [(i64 0), (str []), (i64 0)]⟩) (.sq (jc 11 200 [(.t 10)]) (.lt (js 3 4 8) (.lt (js 3 5 11) .nil)))) (⟨(some 4), none, .alloc [(i64 0), (str []), (i64 0)]⟩) (.sq (jc 10 201 [(.t 9), (.c (i64 1))]) (.sq (jc 11 200 [(.t 10)]) (.lt (js 3 4 8) (.lt (js 3 5 11) .nil))))) (⟨(some 4), none, .alloc [(i64 0), (str []), (i64 0)]⟩) (.sq (jc 8 200 [(.t 7)]) (.sq (jc 10 201 [(.t 9), (.c (i64 1))]) (.sq (jc 11 200 [(.t 10)]) (.lt (js 3 4 8) (.lt (js 3 5 11) .nil))))))) (⟨(some 4), none, .alloc [(i64 0), (str []), (i64 0)]⟩) (.alt (jc 7 201 [(.t 6), (.c (i64 0))]) (.alt (jc 8 200 [(.t 7)]) (.alt (jc 10 201 [(.t 9), (.c (i64 1))]) (.alt (jc 11 200 [(.t 10)]) (.sq (⟨(some 5), none, .alloc [(i64 0), (str []), (i64 0)]⟩) (.lt (js 3 4 8) (.lt (js 3 5 11) .nil))) (⟨(some 5), none, .alloc [(i64 0), (str []), (i64 0)]⟩) (.sq (jc 11 200 [(.t 10)]) (.lt (js 3 4 8) (.lt (js 3 5 11) .nil)))) (⟨(some 5), none, .alloc [(i64 0), (str []), (i64 0)]⟩) (.sq (jc 10 201 [(.t 9), (.c (i64 1))]) (.sq (jc 11 200 [(.t 10)]) (.lt (js 3 4 8) (.lt (js 3 5 11) .nil))))) (⟨(some 5), none, .alloc [(i64 0), (str []), (i64 0)]⟩) (.sq (jc 8 200 [(.t 7)]) (.sq (jc 10 201 [(.t 9), (.c (i64 1))]) (.sq (jc 11 200 [(.t 10)]) (.lt (js 3 4 8) (.lt (js 3 5 11) .nil)))))) (⟨(some 5), none, .alloc [(i64 0), (str []), (i64 0)]⟩) (.sq (jc 7 201 [(.t 6), (.c (i64 0))]) (.sq (jc 8 200 [(.t 7)]) (.sq (jc 10 201 [(.t 9), (.c (i64 1))]) (.sq (jc 11 200 [(.t 10)]) (.lt (js 3 4 8) (.lt (js 3 5 11) .nil))))))) (⟨(some 5), none, .alloc [(i64 0), (str []), (i64 0)]⟩) (.alt (jc 7 201 [(.t 6), (.c (i64 0))]) (.alt (jc 8 200 [(.t 7)]) (.alt (jc 10 201 [(.t 9), (.c (i64 1))]) (.alt (jc 11 200 [(.t 10)]) (.sq (⟨(some 4), none, .alloc [(i64 0), (str []), (i64 0)]⟩) (.lt (js 3 4 8) (.lt (js 3 5 11) .nil))) (⟨(some 4), none, .alloc [(i64 0), (str []), (i64 0)]⟩) (.sq (jc 11 200 [(.t 10)]) (.lt (js 3 4 8) (.lt (js 3 5 11) .nil)))) (⟨(some 4), none, .alloc [(i64 0), (str []), (i64 0)]⟩) (.sq (jc 10 201 [(.t 9), (.c (i64 1))]) (.sq (jc 11 200 [(.t 10)]) (.lt (js 3 4 8) (.lt (js 3 5 11) .nil))))) (⟨(some 4), none, .alloc [(i64 0), (str []), (i64 0)]⟩) (.sq (jc 8 200 [(.t 7)]) (.sq (jc 10 201 [(.t 9), (.c (i64 1))]) (.sq (jc 11 200 [(.t 10)]) (.lt (js 3 4 8) (.lt (js 3 5 11) .nil)))))) (⟨(some 4), none, .alloc [(i64 0), (str []), (i64 0)]⟩) (.sq (jc 7 201 [(.t 6), (.c (i64 0))]) (.sq (jc 8 200 [(.t 7)]) (.sq (jc 10 201 [(.t 9), (.c (i64 1))]) (.sq (jc 11 200 [(.t 10)]) (.lt (js 3 4 8) (.lt (js 3 5 11) .nil)))))))))))
 (.seq (.block 0 (jo [jf 13 2 4, jl 14 13, jk 15 .eql 14 0, jm 16 15, qg 17 16 true (.fld 2 (.t 5)), qg 18 16 true (.ld false 1 (.t 17)), qg 19 16 true (.bin .neq (.t 18) (.c (i64 0))), qg 20 16 true (.mv (.t 19)), qg 21 20 false (.fld 0 (.t 4)), qg 22 20 false (.ld false 1 (.t 21)), qg 23 20 false (.fld 0 (.t 5)), qg 24 20 false (.ld false 1 (.t 23)), qg 25 20 false (.bin .geq (.t 22) (.t 24)), qg 26 16 true (.pick (.t 20) (.c (.bool true)) (.t 25)), q 27 (.pick (.t 16) (.t 26) (.c (.bool false))), jm 12 27]
 (.cond (.t 12) (jo [jd 28 3 4, js 3 2 28, q 3 (.mv (.c (i64 0)))]
 .ret) (jo [jf 30 2 5, jl 31 30, jk 32 .eql 31 0, jm 29 32]
 (.cond (.t 29) (jo [jd 33 3 5, js 3 2 33, q 3 (.mv (.c (i64 1)))]
 .ret) .skip)))))
 (jo [q 34 (.build [(i64 0), (str []), (i64 0)] [(2, 1, (.c (i64 6)))]), js 3 2 34, q 3 (.mv (.c (i64 (-1))))]
 .ret))))
theorem w_spec_l04Get : Wk Tryz.prog 133 35 [.cell 2 true 3, .tmp 3] b_spec_l04Get := Wk.of mixedOrders Tryz.func133 (by kernel_rfl) (by kernel_rfl)

def GetI (f : UFlash) (b2 : Nat) (vs vd : Value) (hS : H) (pa pb : Bool) (i : Nat) (f1 : Fr) (h1 : H) : Prop :=
 f1 2 = ptr b2 0 ∧ f1 6 = .agg #[vs, vd] ∧ f1 9 = .agg #[vs, vd] ∧ (1 ≤ i → f1 7 = str (flashGet f 0)) ∧ (2 ≤ i → f1 8 = .agg (metaC (metaR (flashGet f 0))).toArray) ∧ (3 ≤ i → f1 10 = str (flashGet f 1)) ∧ (4 ≤ i → f1 11 = .agg (metaC (metaR (flashGet f 1))).toArray) ∧ Ext hS h1 ∧
  (pa = false → ∃ b4, f1 4 = ptr b4 0 ∧ h1.get b4 = some ⟨[i64 0, str [], i64 0], 3⟩ ∧ h1.base ≤ b4 ∧ hS.get b4 = none) ∧ (pb = false → ∃ b5, f1 5 = ptr b5 0 ∧ h1.get b5 = some ⟨[i64 0, str [], i64 0], 3⟩ ∧ h1.base ≤ b5 ∧ hS.get b5 = none) ∧ (pa = false → pb = false → f1 4 ≠ f1 5)
def getCalls : List GO := [⟨(some 7), none, .call (.c (.func (.func 201) #[] #[])) [(.t 6), (.c (i64 0))]⟩, ⟨(some 8), none, .call (.c (.func (.func 200) #[] #[])) [(.t 7)]⟩, ⟨(some 10), none, .call (.c (.func (.func 201) #[] #[])) [(.t 9), (.c (i64 1))]⟩, ⟨(some 11), none, .call (.c (.func (.func 200) #[] #[])) [(.t 10)]⟩]
theorem getI_call {hS : H} {vs vd : Value} {f : UFlash} {b2 : Nat} (hv : FlR hS f vs vd) (ho : flashOk f) (h2 : 2 ≤ f.sec.length) {pa pb : Bool} : ∀ i c, getCalls[i]? = some c → ∀ f1 h1, GetI f b2 vs vd hS pa pb i f1 h1 → gow Tryz.prog c f1 h1 fun f' h' => Sub hS h' ∧ GetI f b2 vs vd hS pa pb (i + 1) f' h' := by
 intro i c hc f1 h1 ⟨q2, q6, q9, k1, k2, k3, k4, e, xa, xb, xn⟩
 have hsm := flashOk_small ho
 have ma : (flashGet f 0).length ≤ 8000 := by have := flashGet_len ho 0; omega
 have mb : (flashGet f 1).length ≤ 8000 := by have := flashGet_len ho 1; omega
 obtain rfl | rfl | rfl | rfl | h5 : i = 0 ∨ i = 1 ∨ i = 2 ∨ i = 3 ∨ 4 ≤ i := by omega
 ·simp only [getCalls, List.getElem?_cons_zero, Option.some.injEq] at hc; subst hc
  simp -implicitDefEqProofs only [go_sem, q6]
  refine (l03Get_pc (hv.ext e) (by omega) (by omega)).use ?_
  exact ⟨e.2, by simp -implicitDefEqProofs only [go_sem, q2], by simp -implicitDefEqProofs only [go_sem, q6], by simp -implicitDefEqProofs only [go_sem, q9], fun _ => by simp -implicitDefEqProofs only [go_sem], by omega, by omega, by omega, e, fun h => by obtain ⟨b, z⟩ := xa h; exact ⟨b, by simp -implicitDefEqProofs only [go_sem, z.1], z.2⟩, fun h => by obtain ⟨b, z⟩ := xb h; exact ⟨b, by simp -implicitDefEqProofs only [go_sem, z.1], z.2⟩, fun h h' => by simp -implicitDefEqProofs only [go_sem]; exact xn h h'⟩
 ·simp only [getCalls, List.getElem?_cons_zero, List.getElem?_cons_succ, Option.some.injEq] at hc; subst hc
  have r1 := k1 (by omega)
  simp -implicitDefEqProofs only [go_sem, r1]
  refine (specMetaRead_pc _ _ ma).use ?_
  exact ⟨e.2, by simp -implicitDefEqProofs only [go_sem, q2], by simp -implicitDefEqProofs only [go_sem, q6], by simp -implicitDefEqProofs only [go_sem, q9], fun _ => by simp -implicitDefEqProofs only [go_sem, r1], fun _ => by simp -implicitDefEqProofs only [go_sem], by omega, by omega, e, fun h => by obtain ⟨b, z⟩ := xa h; exact ⟨b, by simp -implicitDefEqProofs only [go_sem, z.1], z.2⟩, fun h => by obtain ⟨b, z⟩ := xb h; exact ⟨b, by simp -implicitDefEqProofs only [go_sem, z.1], z.2⟩, fun h h' => by simp -implicitDefEqProofs only [go_sem]; exact xn h h'⟩
 ·simp only [getCalls, List.getElem?_cons_zero, List.getElem?_cons_succ, Option.some.injEq] at hc; subst hc
  have r1 := k1 (by omega)
  have r2 := k2 (by omega)
  simp -implicitDefEqProofs only [go_sem, q9]
  refine (l03Get_pc (hv.ext e) (by omega) (by omega)).use ?_
  exact ⟨e.2, by simp -implicitDefEqProofs only [go_sem, q2], by simp -implicitDefEqProofs only [go_sem, q6], by simp -implicitDefEqProofs only [go_sem, q9], fun _ => by simp -implicitDefEqProofs only [go_sem, r1], fun _ => by simp -implicitDefEqProofs only [go_sem, r2], fun _ => by simp -implicitDefEqProofs only [go_sem], by omega, e, fun h => by obtain ⟨b, z⟩ := xa h; exact ⟨b, by simp -implicitDefEqProofs only [go_sem, z.1], z.2⟩, fun h => by obtain ⟨b, z⟩ := xb h; exact ⟨b, by simp -implicitDefEqProofs only [go_sem, z.1], z.2⟩, fun h h' => by simp -implicitDefEqProofs only [go_sem]; exact xn h h'⟩
 ·simp only [getCalls, List.getElem?_cons_zero, List.getElem?_cons_succ, Option.some.injEq] at hc; subst hc
  have r1 := k1 (by omega)
  have r2 := k2 (by omega)
  have r3 := k3 (by omega)
  simp -implicitDefEqProofs only [go_sem, r3]
  refine (specMetaRead_pc _ _ mb).use ?_
  exact ⟨e.2, by simp -implicitDefEqProofs only [go_sem, q2], by simp -implicitDefEqProofs only [go_sem, q6], by simp -implicitDefEqProofs only [go_sem, q9], fun _ => by simp -implicitDefEqProofs only [go_sem, r1], fun _ => by simp -implicitDefEqProofs only [go_sem, r2], fun _ => by simp -implicitDefEqProofs only [go_sem, r3], fun _ => by simp -implicitDefEqProofs only [go_sem], e, fun h => by obtain ⟨b, z⟩ := xa h; exact ⟨b, by simp -implicitDefEqProofs only [go_sem, z.1], z.2⟩, fun h => by obtain ⟨b, z⟩ := xb h; exact ⟨b, by simp -implicitDefEqProofs only [go_sem, z.1], z.2⟩, fun h h' => by simp -implicitDefEqProofs only [go_sem]; exact xn h h'⟩
 ·rw [List.getElem?_eq_none (by simp [getCalls]; omega)] at hc; cases hc
theorem getI_a {hS : H} {vs vd : Value} {f : UFlash} {b2 : Nat} {pb : Bool} : ∀ i f1 h1, GetI f b2 vs vd hS true pb i f1 h1 → gow Tryz.prog ⟨(some 4), none, .alloc [(i64 0), (str []), (i64 0)]⟩ f1 h1 fun f' h' => Sub hS h' ∧ GetI f b2 vs vd hS false pb i f' h' := by
 intro i f1 h1 ⟨q2, q6, q9, k1, k2, k3, k4, e, xa, xb, xn⟩
 simp -implicitDefEqProofs only [go_sem]
 intro b hb n
 have e2 := e.set n ⟨[i64 0, str [], i64 0], 3⟩
 refine ⟨e2.2, by simp -implicitDefEqProofs only [go_sem, q2], by simp -implicitDefEqProofs only [go_sem, q6], by simp -implicitDefEqProofs only [go_sem, q9], fun h => by simp -implicitDefEqProofs only [go_sem, k1 h], fun h => by simp -implicitDefEqProofs only [go_sem, k2 h], fun h => by simp -implicitDefEqProofs only [go_sem, k3 h], fun h => by simp -implicitDefEqProofs only [go_sem, k4 h], e2, fun _ => ⟨b, by simp -implicitDefEqProofs only [go_sem], H.set_get_same _ _ _, hb, e.none n⟩, fun h => ?_, fun _ h => ?_⟩
 ·obtain ⟨b5, z1, z2, z3, z4⟩ := xb h
  exact ⟨b5, by simp -implicitDefEqProofs only [go_sem, z1], by rw [H.set_get_ne _ _ _ _ (fun q => by subst q; rw [n] at z2; cases z2)]; exact z2, z3, z4⟩
 ·obtain ⟨b5, z1, z2, z3, z4⟩ := xb h
  simp -implicitDefEqProofs only [go_sem, z1]
  intro q
  simp only [Value.pointer.injEq, Option.some.injEq, Addr.mk.injEq, and_true] at q
  subst q; rw [n] at z2; cases z2
theorem getI_b {hS : H} {vs vd : Value} {f : UFlash} {b2 : Nat} {pa : Bool} : ∀ i f1 h1, GetI f b2 vs vd hS pa true i f1 h1 → gow Tryz.prog ⟨(some 5), none, .alloc [(i64 0), (str []), (i64 0)]⟩ f1 h1 fun f' h' => Sub hS h' ∧ GetI f b2 vs vd hS pa false i f' h' := by
 intro i f1 h1 ⟨q2, q6, q9, k1, k2, k3, k4, e, xa, xb, xn⟩
 simp -implicitDefEqProofs only [go_sem]
 intro b hb n
 have e2 := e.set n ⟨[i64 0, str [], i64 0], 3⟩
 refine ⟨e2.2, by simp -implicitDefEqProofs only [go_sem, q2], by simp -implicitDefEqProofs only [go_sem, q6], by simp -implicitDefEqProofs only [go_sem, q9], fun h => by simp -implicitDefEqProofs only [go_sem, k1 h], fun h => by simp -implicitDefEqProofs only [go_sem, k2 h], fun h => by simp -implicitDefEqProofs only [go_sem, k3 h], fun h => by simp -implicitDefEqProofs only [go_sem, k4 h], e2, fun h => ?_, fun _ => ⟨b, by simp -implicitDefEqProofs only [go_sem], H.set_get_same _ _ _, hb, e.none n⟩, fun h _ => ?_⟩
 ·obtain ⟨b5, z1, z2, z3, z4⟩ := xa h
  exact ⟨b5, by simp -implicitDefEqProofs only [go_sem, z1], by rw [H.set_get_ne _ _ _ _ (fun q => by subst q; rw [n] at z2; cases z2)]; exact z2, z3, z4⟩
 ·obtain ⟨b5, z1, z2, z3, z4⟩ := xa h
  simp -implicitDefEqProofs only [go_sem, z1]
  intro q
  simp only [Value.pointer.injEq, Option.some.injEq, Addr.mk.injEq, and_true] at q
  subst q; rw [n] at z2; cases z2
theorem l04Get_pc {h : H} {vs vd : Value} {f : UFlash} (hv : FlR h f vs vd) (ho : flashOk f) (h2 : 2 ≤ f.sec.length) : PC Tryz.prog 133 [.agg #[vs, vd]] h (.tuple #[.agg (metaC (metaGet f).1).toArray, i64 (metaGet f).2]) := by
 have hsm := flashOk_small ho
 have o1 := hv.1.one
 have o2 := hv.2.one
 refine PC_of ?_
 refine w_spec_l04Get (by simp) ?_
 unfold b_spec_l04Get
 refine wpc_cut (fun f1 h1 => ∃ b1 b2, f1 1 = ptr b1 0 ∧ f1 2 = ptr b2 0 ∧ h1.get b1 = some ⟨[vs, vd], 2⟩ ∧ h1.get b2 = some ⟨[i64 0, str [], i64 0], 3⟩ ∧ h1.base ≤ b2 ∧ h.get b2 = none ∧ Ext h h1) ?_ ?_
 ·simp -implicitDefEqProofs only [go_sem, o1, o2]
  intro b1 hb1 n1
  simp -implicitDefEqProofs only [go_sem, o1, o2]
  intro b2 hb2 n2
  obtain ⟨z, y, n2'⟩ := fne n2
  simp -implicitDefEqProofs only [go_sem, o1, o2, z, y]
  exact ⟨b1, b2, rfl, rfl, by simp -implicitDefEqProofs only [go_sem, y], by simp -implicitDefEqProofs only [go_sem], hb2, n2', ((Ext.refl h).set n1 _).set n2 _⟩
 rintro f1 h1 ⟨b1, b2, f01, f02, g1, g2, hb2, n2, e1⟩
 refine wpc_cut (fun f2 h2 => ∃ b4 b5, f2 2 = ptr b2 0 ∧ f2 4 = ptr b4 0 ∧ f2 5 = ptr b5 0 ∧ h2.get b4 = some ⟨metaC (metaR (flashGet f 0)), 3⟩ ∧ h2.get b5 = some ⟨metaC (metaR (flashGet f 1)), 3⟩ ∧ Ext h1 h2) ?_ ?_
 ·rw [wpc_dops_t]
  simp only [dopw_tk, wv_ldt, ev_t, f01, asP_mk, withO_some, ldc_get g1, putf_s, upd_app, Nat.reduceEqDiff, if_false, List.drop_zero, Nat.zero_add, List.length_cons, List.length_nil, Nat.reduceAdd, Nat.le_refl, if_true, List.take_succ_cons, List.take_zero]
  have hv1 := hv.ext e1
  refine row2_ok (P := Tryz.prog) (hS := h1) (fin := .lt ⟨none, none, .st 3 (.t 4) (.t 8)⟩ (.lt ⟨none, none, .st 3 (.t 5) (.t 11)⟩ .nil)) (a := ⟨(some 4), none, .alloc [(i64 0), (str []), (i64 0)]⟩) (b := ⟨(some 5), none, .alloc [(i64 0), (str []), (i64 0)]⟩)
   (I := GetI f b2 vs vd h1 false false) (Ja := GetI f b2 vs vd h1 true false) (Jb := GetI f b2 vs vd h1 false true) (M := GetI f b2 vs vd h1 true true) (L := getCalls)
   (getI_call hv1 ho h2) ?_ (getI_call hv1 ho h2) (getI_call hv1 ho h2) (getI_call hv1 ho h2) getI_a getI_b getI_a getI_b getCalls 0 rfl (by decide) _ _ ?_
  ·rintro f2 h2 ⟨q2, q6, q9, k1, k2, k3, k4, e, xa, xb, xn⟩
   have hn : 4 ≤ getCalls.length := by decide
   obtain ⟨b4, q4, g4, hb4, n4⟩ := xa rfl
   obtain ⟨b5, q5, g5, hb5, n5⟩ := xb rfl
   have r1 := k2 (by omega)
   have r2 := k4 hn
   have hne : (b5 = b4) = False := eq_false fun q => xn rfl rfl (by rw [q4, q5, q])
   have hne' : (b4 = b5) = False := eq_false fun q => (of_eq_false hne) q.symm
   simp -implicitDefEqProofs only [go_sem, q4, q5, hb4, hb5, r1, r2, stc_get g4, stc_get g5, hne, hne']
   exact ⟨b4, b5, q2, rfl, rfl, by simp -implicitDefEqProofs only [go_sem, hne'], by simp -implicitDefEqProofs only [go_sem, hne], (e.set' n5 _).set' n4 _⟩
  ·exact ⟨by simp -implicitDefEqProofs only [go_sem, f02], by simp -implicitDefEqProofs only [go_sem], by simp -implicitDefEqProofs only [go_sem], by omega, by omega, by omega, by omega, Ext.refl _, by simp, by simp, by simp⟩
 rintro f2 h2 ⟨b4, b5, q2, q4, q5, g4, g5, e2⟩
 have g2' := e2.2.g b2 _ g2
 have hb2' : h2.base ≤ b2 := by rw [e2.1]; exact hb2
 have ex : ∀ x, Ext h (h2.set b2 x) := fun x => (e1.trans e2).set' n2 x
 skip
 unfold metaGet
 by_cases p1 : (metaR (flashGet f 0)).2 = 0
 ·by_cases p2 : (metaR (flashGet f 1)).2 = 0
  ·by_cases p3 : (metaR (flashGet f 1)).1.1 ≤ (metaR (flashGet f 0)).1.1
   ·rw [if_pos ⟨p1, .inr p3⟩]
    simp -implicitDefEqProofs only [go_sem, p1, p2, p3, q2, q4, q5, ldc_get g4, ldc_get g5, stc_get g2', ldc_get g2', hb2']
    first | exact ex _ | exact ⟨ex _, by rw [p1]⟩ | exact ⟨ex _, by rw [p2]⟩ | exact ⟨ex _, by simp [p1, p2]⟩ | trace_state
   ·rw [if_neg (fun h => p3 (h.2.resolve_left (fun q => q p2))), if_pos p2]
    simp -implicitDefEqProofs only [go_sem, p1, p2, p3, q2, q4, q5, ldc_get g4, ldc_get g5, stc_get g2', ldc_get g2', hb2']
    first | exact ex _ | exact ⟨ex _, by rw [p1]⟩ | exact ⟨ex _, by rw [p2]⟩ | exact ⟨ex _, by simp [p1, p2]⟩ | trace_state
  ·rw [if_pos ⟨p1, .inl p2⟩]
   simp -implicitDefEqProofs only [go_sem, p1, p2, q2, q4, q5, ldc_get g4, ldc_get g5, stc_get g2', ldc_get g2', hb2']
   first | exact ex _ | exact ⟨ex _, by rw [p1]⟩ | exact ⟨ex _, by rw [p2]⟩ | exact ⟨ex _, by simp [p1, p2]⟩ | trace_state
 ·rw [if_neg (fun h => p1 h.1)]
  by_cases p2 : (metaR (flashGet f 1)).2 = 0
  ·rw [if_pos p2]
   simp -implicitDefEqProofs only [go_sem, p1, p2, q2, q4, q5, ldc_get g4, ldc_get g5, stc_get g2', ldc_get g2', hb2']
   first | exact ex _ | exact ⟨ex _, by rw [p1]⟩ | exact ⟨ex _, by rw [p2]⟩ | exact ⟨ex _, by simp [p1, p2]⟩ | trace_state
  ·rw [if_neg p2]
   simp -implicitDefEqProofs only [go_sem, p1, p2, q2, q4, q5, ldc_get g4, ldc_get g5, stc_get g2', ldc_get g2', hb2']
   first | exact ex _ | exact ⟨ex _, by rw [p1]⟩ | exact ⟨ex _, by rw [p2]⟩ | exact ⟨ex _, by simp [p1, p2]⟩ | trace_state
end Go.Proofs.YthjbhdmjfakfaaaGreatDoor