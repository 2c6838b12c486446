/- A helper of this seat's claims (contracts of the functions): what it shows is shown for every input that its statements name, on no other condition. -/
import Derived.Test.YthjbhdmjfakfaaaGreatDoorMCB
import Derived.Test.YthjbhdmjfakfaaaGreatDoorMC06
import Derived.Test.YthjbhdmjfakfaaaGreatDoorKD
import Derived.Test.YthjbhdmjfakfaaaGreatDoorC04g
set_option linter.unusedVariables false
set_option linter.unusedSimpArgs false
set_option maxRecDepth 100000
namespace Go.Proofs.YthjbhdmjfakfaaaGreatDoor
open Go.KH

def b_impl_fromBits : C := (jo [q 2 (.mv (.c nils))]
 (jo [q 3 (.mv (.c nils))]
 (.seq (jo [q 5 (.mv (.c (i64 0)))]
 (.block 0 (.loop (jo [jk 6 .lss 5 24]
 (.seq (.cond (.t 6) .skip (.exit 0))
 (.seq (.block 1 (jo [jm 7 5, jm 4 7]
 (jo [jm 8 0, jm 9 4, jb 10 .shr 8 9, jk 11 .and 10 1, jk 12 .eql 11 1]
 (.cond (.t 12) (.ops [jm 13 3, jm 14 4, ⟨(some 15), none, .bsl 1 [(i64 0)] [(0, 1, (.t 14))]⟩, ⟨(some 16), none, .app 1 8 (.t 13) (.t 15)⟩, jm 3 16]) .skip))))
 (.ops [jk 17 .add 5 1, jm 5 17])))))))
 (jo [jm 18 3, jm 2 18]
 .ret))))
theorem w_impl_fromBits : Wk Tryz.prog 152 19 [.tmp 2] b_impl_fromBits := Wk.of mixedOrders Tryz.func152 (by kernel_rfl) (by kernel_rfl)

theorem fromBits_ac {h : H} {x : Nat} (hx : x < 16777216) : AC Tryz.prog 152 [i64 x] h fun r h' => Ext h h' ∧ Own h h' r 1 (ints (fromBits x)) := by
 refine w_impl_fromBits (by simp) ?_
 unfold b_impl_fromBits
 simp -implicitDefEqProofs only [go_sem]
 refine loopW_of (fun m f h' => ∃ (k : Nat) (w : Value), m + k = 24 ∧ f 0 = i64 (x : Int) ∧ f 5 = i64 k ∧ f 3 = w ∧ Ext h h' ∧ Own h h' w 1 (ints (bitsTo x k))) 24
  ⟨0, nils, by simp, by simp -implicitDefEqProofs only [go_sem], by simp -implicitDefEqProofs only [go_sem]; rfl, by simp -implicitDefEqProofs only [go_sem], Ext.refl _, Own.nil _ _ _⟩ ?_
 rintro m f h' ⟨k, w, hm, f0, f5, f3, he, ho⟩
 obtain ⟨aw, cw, rfl⟩ := ho.shape
 rw [List.length_map] at ho f3
 skip
 by_cases hk : k < 24
 ·have e1 : ((k : Int) < 24) := by omega
  have hd : x / 2 ^ k < 9223372036854775808 := by have := Nat.div_le_self x (2 ^ k); omega
  have hl := bitsTo_len x k
  have hsh := shr_i64 (x := x) (j := k) (by omega)
  have han := and1_i64 hd
  have hstep := bitsTo_succ x k
  rw [testBit_div] at hstep
  by_cases hb : x / 2 ^ k % 2 = 1
  ·have hb1 : ((x / 2 ^ k % 2 : Nat) : Int) = 1 := by omega
   rw [if_pos (by simpa using hb)] at hstep
   simp -implicitDefEqProofs only [go_sem, e1, hsh, han, hb1, f0, f5, f3, Int.ofNat_lt, Int.natCast_nonneg]
   intro b7 hb7 n7
   simp -implicitDefEqProofs only [go_sem, f0, f5, f3, Int.ofNat_lt, Int.natCast_nonneg]
   refine appW_own (new := [[i64 (k : Int)]]) (he.set n7 _) (ho.ext ((Ext.refl _).set n7 _)) (by simp -implicitDefEqProofs only [go_sem, f0, f5, f3, Int.ofNat_lt, Int.natCast_nonneg]; rfl) (by intro r hr; simp at hr; subst hr; rfl) rfl (by simp; omega) ?_
   intro v' h'' he2 ho2 _
   simp -implicitDefEqProofs only [go_sem, wrap_i64 (show -(9223372036854775808 : Int) ≤ ((k : Int) + 1) by omega) (show ((k : Int) + 1) < 9223372036854775808 by omega), f0, f5, f3, Int.ofNat_lt, Int.natCast_nonneg]
   exact ⟨m - 1, by omega, h'', Ext.refl _, k + 1, v', by omega, rfl, rfl, he2, by rw [hstep]; simpa using ho2⟩
  ·have hb1 : ¬ ((x / 2 ^ k % 2 : Nat) : Int) = 1 := by omega
   rw [if_neg (by simpa using hb)] at hstep
   simp -implicitDefEqProofs only [go_sem, e1, hsh, han, hb1, wrap_i64 (show -(9223372036854775808 : Int) ≤ ((k : Int) + 1) by omega) (show ((k : Int) + 1) < 9223372036854775808 by omega), f0, f5, f3, Int.ofNat_lt, Int.natCast_nonneg]
   exact ⟨m - 1, by omega, h', Ext.refl _, k + 1, _, by omega, rfl, rfl, he, by rw [hstep]; exact ho⟩
 ·have e : k = 24 := by omega
  subst e
  have e1 : ¬ (((24 : Nat) : Int) < 24) := by omega
  simp -implicitDefEqProofs only [go_sem, e1, f0, f5, f3, Int.ofNat_lt, Int.natCast_nonneg]
  exact ⟨he, ho⟩
def fromI (x : Int) : List Int := if 0 ≤ x ∧ x ≤ 16777215 then fromBits x.toNat else []
def zeroS : UState := ⟨0, 0, 0, 0, 0, [], [], []⟩
def stI (t : List UInt8) : Option UState :=
 let p1 := numI t 0 false; let p2 := numI t p1.2.1 p1.2.2; let p3 := numI t p2.2.1 p2.2.2; let p4 := numI t p3.2.1 p3.2.2; let p5 := numI t p4.2.1 p4.2.2
 let p6 := numI t p5.2.1 p5.2.2; let p7 := numI t p6.2.1 p6.2.2; let p8 := textI t p7.2.1 p7.2.2
 let s : UState := ⟨p1.1, p2.1, p3.1, p4.1, p5.1, p8.1, fromI p6.1, fromI p7.1⟩
 if p8.2.2 = false ∧ p8.2.1 = t.length ∧ (0 ≤ p6.1 ∧ p6.1 ≤ 16777215) ∧ (0 ≤ p7.1 ∧ p7.1 ≤ 16777215) ∧ stateOk s then some s else none
def b_impl_stateRead : C := (jo [⟨(some 2), none, .alloc [(i64 0), (i64 0), (i64 0), (i64 0), (i64 0), (str []), nils, nils]⟩, q 3 (.mv (.c (.bool false)))]
 (jo [jm 8 0, q 9 (.build [(str []), (i64 0), (.bool false)] [(0, 1, (.t 8))]), ⟨(some 10), none, .box (.t 9)⟩, jm 4 10]
 (jo [jm 11 4, jc 12 107 [(.t 11)], jm 13 4, jc 14 107 [(.t 13)], jm 15 4, jc 16 107 [(.t 15)], jm 17 4, jc 18 107 [(.t 17)], jm 19 4, jc 20 107 [(.t 19)], q 21 (.build [(i64 0), (i64 0), (i64 0), (i64 0), (i64 0), (str []), nils, nils] [(0, 1, (.t 12)), (1, 1, (.t 14)), (2, 1, (.t 16)), (3, 1, (.t 18)), (4, 1, (.t 20))]), ⟨(some 5), none, .alloc [(i64 0), (i64 0), (i64 0), (i64 0), (i64 0), (str []), nils, nils]⟩, js 8 5 21]
 (jo [jm 22 4, jc 23 107 [(.t 22)], jm 24 4, jc 25 107 [(.t 24)], jm 6 23, jm 7 25]
 (jo [jm 26 4, jc 27 108 [(.t 26)], jf 28 5 5, js 1 28 27]
 (.seq (jo [jm 29 4, q 30 (.nck (.t 29)), jf 31 2 30, jl 32 31, jm 33 32, qg 34 33 false (.mv (.t 4)), qg 35 33 false (.nck (.t 34)), qg 36 33 false (.fld 1 (.t 35)), qg 37 33 false (.ld false 1 (.t 36)), qg 38 33 false (.mv (.t 0)), qg 39 33 false (.slen (.t 38)), qg 40 33 false (.bin .neq (.t 37) (.t 39)), q 41 (.pick (.t 33) (.c (.bool true)) (.t 40)), jm 42 41, qg 43 42 false (.mv (.t 6)), jcg 44 42 false 140 [(.t 43), (.c (i64 0)), (.c (i64 16777215))], qg 45 42 false (.un .not (.t 44)), q 46 (.pick (.t 42) (.c (.bool true)) (.t 45)), jm 47 46, qg 48 47 false (.mv (.t 7)), jcg 49 47 false 140 [(.t 48), (.c (i64 0)), (.c (i64 16777215))], qg 50 47 false (.un .not (.t 49)), q 51 (.pick (.t 47) (.c (.bool true)) (.t 50))]
 (.cond (.t 51) (jo [q 52 (.build [(i64 0), (i64 0), (i64 0), (i64 0), (i64 0), (str []), nils, nils] []), js 8 2 52, q 3 (.mv (.c (.bool false)))]
 .ret) .skip))
 (jo [jm 53 6, jc 54 152 [(.t 53)], jm 55 7, jc 56 152 [(.t 55)], jf 57 6 5, js 1 57 54, jf 58 7 5, js 1 58 56]
 (.seq (jo [jd 59 8 5, jc 60 219 [(.t 59)], q 61 (.un .not (.t 60))]
 (.cond (.t 61) (jo [q 62 (.build [(i64 0), (i64 0), (i64 0), (i64 0), (i64 0), (str []), nils, nils] []), js 8 2 62, q 3 (.mv (.c (.bool false)))]
 .ret) .skip))
 (jo [jd 63 8 5, js 8 2 63, q 3 (.mv (.c (.bool true)))]
 .ret)))))))))
theorem w_impl_stateRead : Wk Tryz.prog 162 64 [.cell 2 true 8, .tmp 3] b_impl_stateRead := Wk.of mixedOrders Tryz.func162 (by kernel_rfl) (by kernel_rfl)

theorem stateRead_ac {h : H} {t : List UInt8} (ht : t.length ≤ 8000) : AC Tryz.prog 162 [str t] h fun r h' => Ext h h' ∧ ∃ cs, r = .tuple #[.agg cs.toArray, .bool (stI t).isSome] ∧ StF h h' cs ((stI t).getD zeroS) := by
 obtain ⟨v1, a1, c1, e1⟩ : ∃ k a c, numI t 0 false = (k, a, c) := ⟨_, _, _, rfl⟩
 obtain ⟨v2, a2, c2, e2⟩ : ∃ k a c, numI t a1 c1 = (k, a, c) := ⟨_, _, _, rfl⟩
 obtain ⟨v3, a3, c3, e3⟩ : ∃ k a c, numI t a2 c2 = (k, a, c) := ⟨_, _, _, rfl⟩
 obtain ⟨v4, a4, c4, e4⟩ : ∃ k a c, numI t a3 c3 = (k, a, c) := ⟨_, _, _, rfl⟩
 obtain ⟨v5, a5, c5, e5⟩ : ∃ k a c, numI t a4 c4 = (k, a, c) := ⟨_, _, _, rfl⟩
 obtain ⟨v6, a6, c6, e6⟩ : ∃ k a c, numI t a5 c5 = (k, a, c) := ⟨_, _, _, rfl⟩
 obtain ⟨v7, a7, c7, e7⟩ : ∃ k a c, numI t a6 c6 = (k, a, c) := ⟨_, _, _, rfl⟩
 obtain ⟨v8, a8, c8, e8⟩ : ∃ k a c, textI t a7 c7 = (k, a, c) := ⟨_, _, _, rfl⟩
 have l1 := numI_eq e1 (by omega) ht
 have l2 := numI_eq e2 l1 ht
 have l3 := numI_eq e3 l2 ht
 have l4 := numI_eq e4 l3 ht
 have l5 := numI_eq e5 l4 ht
 have l6 := numI_eq e6 l5 ht
 have l7 := numI_eq e7 l6 ht
 have hst : stI t = if c8 = false ∧ a8 = t.length ∧ (0 ≤ v6 ∧ v6 ≤ 16777215) ∧ (0 ≤ v7 ∧ v7 ≤ 16777215) ∧ stateOk ⟨v1, v2, v3, v4, v5, v8, fromI v6, fromI v7⟩ then some ⟨v1, v2, v3, v4, v5, v8, fromI v6, fromI v7⟩ else none := by
  unfold stI
  simp only [e1, e2, e3, e4, e5, e6, e7, e8]
 refine w_impl_stateRead (by simp) ?_
 unfold b_impl_stateRead
 simp -implicitDefEqProofs only [go_sem]
 intro b2 hb_b2 n_b2
 simp -implicitDefEqProofs only [go_sem, hb_b2]
 intro b10 hb_b10 m0_b10
 obtain ⟨z_b10_b2, y_b10_b2, n_b10⟩ := fne m0_b10
 simp only [H.set_base] at hb_b10
 simp -implicitDefEqProofs only [go_sem, hb_b2, hb_b10, z_b10_b2, y_b10_b2]
 refine AC_of (rnum e1 (by simp only [H.set_base]; assumption) (H.set_get_same _ _ _) (by omega) (by omega)) ?_
 rintro _ _ - ⟨rfl, rfl⟩
 rw [H.set_set]
 simp -implicitDefEqProofs only [go_sem, hb_b2, hb_b10, z_b10_b2, y_b10_b2]
 refine AC_of (rnum e2 (by simp only [H.set_base]; assumption) (H.set_get_same _ _ _) (by omega) (by omega)) ?_
 rintro _ _ - ⟨rfl, rfl⟩
 rw [H.set_set]
 simp -implicitDefEqProofs only [go_sem, hb_b2, hb_b10, z_b10_b2, y_b10_b2]
 refine AC_of (rnum e3 (by simp only [H.set_base]; assumption) (H.set_get_same _ _ _) (by omega) (by omega)) ?_
 rintro _ _ - ⟨rfl, rfl⟩
 rw [H.set_set]
 simp -implicitDefEqProofs only [go_sem, hb_b2, hb_b10, z_b10_b2, y_b10_b2]
 refine AC_of (rnum e4 (by simp only [H.set_base]; assumption) (H.set_get_same _ _ _) (by omega) (by omega)) ?_
 rintro _ _ - ⟨rfl, rfl⟩
 rw [H.set_set]
 simp -implicitDefEqProofs only [go_sem, hb_b2, hb_b10, z_b10_b2, y_b10_b2]
 refine AC_of (rnum e5 (by simp only [H.set_base]; assumption) (H.set_get_same _ _ _) (by omega) (by omega)) ?_
 rintro _ _ - ⟨rfl, rfl⟩
 rw [H.set_set]
 simp -implicitDefEqProofs only [go_sem, hb_b2, hb_b10, z_b10_b2, y_b10_b2]
 intro b5 hb_b5 m0_b5
 obtain ⟨z_b5_b10, y_b5_b10, m1_b5⟩ := fne m0_b5
 obtain ⟨z_b5_b2, y_b5_b2, n_b5⟩ := fne m1_b5
 simp only [H.set_base] at hb_b5
 have y := of_eq_false y_b5_b10
 have z := of_eq_false z_b5_b10
 simp -implicitDefEqProofs only [go_sem, hb_b2, hb_b10, z_b10_b2, y_b10_b2, hb_b5, z_b5_b10, y_b5_b10, z_b5_b2, y_b5_b2]
 refine AC_of (rnum e6 (by simp only [H.set_base]; assumption) (by rw [H.set_get_ne _ _ _ _ y]; exact H.set_get_same _ _ _) (by omega) (by omega)) ?_
 rintro _ _ - ⟨rfl, rfl⟩
 rw [set_over z]
 simp -implicitDefEqProofs only [go_sem, hb_b2, hb_b10, z_b10_b2, y_b10_b2, hb_b5, z_b5_b10, y_b5_b10, z_b5_b2, y_b5_b2]
 refine AC_of (rnum e7 (by simp only [H.set_base]; assumption) (by rw [H.set_get_ne _ _ _ _ y]; exact H.set_get_same _ _ _) (by omega) (by omega)) ?_
 rintro _ _ - ⟨rfl, rfl⟩
 rw [set_over z]
 simp -implicitDefEqProofs only [go_sem, hb_b2, hb_b10, z_b10_b2, y_b10_b2, hb_b5, z_b5_b10, y_b5_b10, z_b5_b2, y_b5_b2]
 refine AC_of (rword e8 (by simp only [H.set_base]; assumption) (by rw [H.set_get_ne _ _ _ _ y]; exact H.set_get_same _ _ _) (by omega) (by omega)) ?_
 rintro _ _ - ⟨rfl, rfl⟩
 rw [set_over z]
 have bad : stI t = none → ∀ h' : H, Ext h h' → Ext h h' ∧ ∃ cs, Value.tuple #[.agg #[i64 0, i64 0, i64 0, i64 0, i64 0, str [], nils, nils], .bool false] = .tuple #[.agg cs.toArray, .bool (stI t).isSome] ∧ StF h h' cs ((stI t).getD zeroS) := by
  intro hn h' hx
  rw [hn]
  exact ⟨hx, _, rfl, nils, nils, rfl, (Own.nil _ _ _).fre, (Own.nil _ _ _).fre, fun b hb => by cases hb⟩
 cases c8 with
 | true =>
  rw [if_neg (by simp)] at hst
  simp -implicitDefEqProofs only [go_sem, hb_b2, hb_b10, z_b10_b2, y_b10_b2, hb_b5, z_b5_b10, y_b5_b10, z_b5_b2, y_b5_b2]
  exact bad hst _ ((((Ext.refl _).set' n_b2 _).set' n_b10 _).set' n_b5 _)
 | false =>
  by_cases h3 : a8 = t.length
  rotate_left
  ·rw [if_neg (by simp [h3])] at hst
   simp -implicitDefEqProofs only [go_sem, show ¬ ((a8 : Int) = (t.length : Int)) by omega, hb_b2, hb_b10, z_b10_b2, y_b10_b2, hb_b5, z_b5_b10, y_b5_b10, z_b5_b2, y_b5_b2]
   exact bad hst _ ((((Ext.refl _).set' n_b2 _).set' n_b10 _).set' n_b5 _)
  subst h3
  simp -implicitDefEqProofs only [go_sem, hb_b2, hb_b10, z_b10_b2, y_b10_b2, hb_b5, z_b5_b10, y_b5_b10, z_b5_b2, y_b5_b2]
  refine (within_pc _ _ _ _).use ?_
  simp -implicitDefEqProofs only [go_sem, hb_b2, hb_b10, z_b10_b2, y_b10_b2, hb_b5, z_b5_b10, y_b5_b10, z_b5_b2, y_b5_b2]
  refine Br.of (fun h6 => ?_) (fun h6 => ?_)
  rotate_left
  ·rw [if_neg (by simp [h6])] at hst
   simp -implicitDefEqProofs only [go_sem, h6, hb_b2, hb_b10, z_b10_b2, y_b10_b2, hb_b5, z_b5_b10, y_b5_b10, z_b5_b2, y_b5_b2]
   exact bad hst _ ((((Ext.refl _).set' n_b2 _).set' n_b10 _).set' n_b5 _)
  simp -implicitDefEqProofs only [go_sem, h6, hb_b2, hb_b10, z_b10_b2, y_b10_b2, hb_b5, z_b5_b10, y_b5_b10, z_b5_b2, y_b5_b2]
  refine (within_pc _ _ _ _).use ?_
  simp -implicitDefEqProofs only [go_sem, h6, hb_b2, hb_b10, z_b10_b2, y_b10_b2, hb_b5, z_b5_b10, y_b5_b10, z_b5_b2, y_b5_b2]
  refine Br.of (fun h7 => ?_) (fun h7 => ?_)
  rotate_left
  ·rw [if_neg (by simp [h7])] at hst
   simp -implicitDefEqProofs only [go_sem, h7, hb_b2, hb_b10, z_b10_b2, y_b10_b2, hb_b5, z_b5_b10, y_b5_b10, z_b5_b2, y_b5_b2]
   exact bad hst _ ((((Ext.refl _).set' n_b2 _).set' n_b10 _).set' n_b5 _)
  obtain ⟨n6, rfl⟩ := Int.eq_ofNat_of_zero_le h6.1
  obtain ⟨n7, rfl⟩ := Int.eq_ofNat_of_zero_le h7.1
  simp -implicitDefEqProofs only [go_sem, h7, hb_b2, hb_b10, z_b10_b2, y_b10_b2, hb_b5, z_b5_b10, y_b5_b10, z_b5_b2, y_b5_b2]
  refine AC_of (fromBits_ac (by omega)) ?_
  rintro w1 h1 - ⟨x1, o1⟩
  have g2 := x1.2.g b2 _ (by simp -implicitDefEqProofs only [go_sem, hb_b2, hb_b10, z_b10_b2, y_b10_b2, hb_b5, z_b5_b10, y_b5_b10, z_b5_b2, y_b5_b2]; rfl)
  have g5 := x1.2.g b5 _ (by simp -implicitDefEqProofs only [go_sem, hb_b2, hb_b10, z_b10_b2, y_b10_b2, hb_b5, z_b5_b10, y_b5_b10, z_b5_b2, y_b5_b2]; rfl)
  have hb1 := x1.1
  simp only [H.set_base] at hb1
  simp -implicitDefEqProofs only [go_sem, hb_b2, hb_b10, z_b10_b2, y_b10_b2, hb_b5, z_b5_b10, y_b5_b10, z_b5_b2, y_b5_b2]
  refine AC_of (fromBits_ac (by omega)) ?_
  rintro w2 h2 - ⟨x2, o2⟩
  have k2 := x2.2.g b2 _ g2
  have k5 := x2.2.g b5 _ g5
  have hb2 := x2.1
  rw [hb1] at hb2
  obtain ⟨p1, q1, rfl⟩ := o1.shape
  obtain ⟨p2, q2, rfl⟩ := o2.shape
  have E0 := Ext.trans ((((Ext.refl _).set' n_b2 _).set' n_b10 _).set' n_b5 _) x1
  have E1 := E0.trans x2
  have q6 : fromI (n6 : Int) = fromBits n6 := by unfold fromI; rw [if_pos h6]; rfl
  have q7 : fromI (n7 : Int) = fromBits n7 := by unfold fromI; rw [if_pos h7]; rfl
  rw [q6, q7] at hst
  have f1 := (o1.fre.ext x2).set (b := b5) (by simp -implicitDefEqProofs only [go_sem, hb_b2, hb_b10, z_b10_b2, y_b10_b2, hb_b5, z_b5_b10, y_b5_b10, z_b5_b2, y_b5_b2]; rfl) ⟨[i64 v1, i64 v2, i64 v3, i64 v4, i64 v5, str v8, .slice p1 (ints (fromBits n6)).length q1, .slice p2 (ints (fromBits n7)).length q2], 8⟩
  have f2 := o2.fre.set g5 ⟨[i64 v1, i64 v2, i64 v3, i64 v4, i64 v5, str v8, .slice p1 (ints (fromBits n6)).length q1, .slice p2 (ints (fromBits n7)).length q2], 8⟩
  have d := Dj.of o1.fre.known o2.fre.new
  simp -implicitDefEqProofs only [go_sem, ldc_get k5, stc_get k5, hb2, hb_b2, hb_b10, z_b10_b2, y_b10_b2, hb_b5, z_b5_b10, y_b5_b10, z_b5_b2, y_b5_b2]
  refine (isState_pc ⟨v1, v2, v3, v4, v5, v8, fromBits n6, fromBits n7⟩ f1.sl f2.sl ⟨by have := bitsTo_len n6 24; simp only [fromBits]; omega, by have := bitsTo_len n7 24; simp only [fromBits]; omega⟩).use ?_
  simp -implicitDefEqProofs only [go_sem, hb_b2, hb_b10, z_b10_b2, y_b10_b2, hb_b5, z_b5_b10, y_b5_b10, z_b5_b2, y_b5_b2]
  refine Br.of (fun h8 => ?_) (fun h8 => ?_)
  ·rw [if_pos ⟨rfl, rfl, h6, h7, h8⟩] at hst
   simp -implicitDefEqProofs only [go_sem, h8, ldc_get k2, stc_get k2, hb2, hb_b2, hb_b10, z_b10_b2, y_b10_b2, hb_b5, z_b5_b10, y_b5_b10, z_b5_b2, y_b5_b2]
   rw [hst, H.set_comm _ _ _ (of_eq_false z_b5_b2)]
   exact ⟨(E1.set' n_b5 _).set' n_b2 _, _, rfl, _, _, rfl, (f1.set (b := b2) (by simp -implicitDefEqProofs only [go_sem, hb_b2, hb_b10, z_b10_b2, y_b10_b2, hb_b5, z_b5_b10, y_b5_b10, z_b5_b2, y_b5_b2]; rfl) _).back ((((Ext.refl _).set' n_b2 _).set' n_b10 _).set' n_b5 _), (f2.set g2 _).back E0, d⟩
  ·rw [if_neg (by simp [h8])] at hst
   simp -implicitDefEqProofs only [go_sem, h8, ldc_get k2, stc_get k2, hb2, hb_b2, hb_b10, z_b10_b2, y_b10_b2, hb_b5, z_b5_b10, y_b5_b10, z_b5_b2, y_b5_b2]
   exact bad hst _ ((E1.set' n_b2 _).set' n_b5 _)
theorem zero_f (h0 h : H) : StF h0 h (zeroS.cells nils nils) zeroS := ⟨nils, nils, rfl, (Own.nil _ _ _).fre, (Own.nil _ _ _).fre, fun b hb => by cases hb⟩
def RdS (t : List UInt8) (v1 v2 v3 v4 v5 v6 v7 : Int) (v8 : List UInt8) (e : Nat) : Prop := ∃ a1 a2 a3 a4 a5 a6 a7, getN t 0 = (v1, a1, 0) ∧ getN t a1 = (v2, a2, 0) ∧ getN t a2 = (v3, a3, 0) ∧ getN t a3 = (v4, a4, 0) ∧ getN t a4 = (v5, a5, 0) ∧ getN t a5 = (v6, a6, 0) ∧ getN t a6 = (v7, a7, 0) ∧ getT t a7 = (v8, e, 0)
theorem RdS.eq {t v8 : List UInt8} {v1 v2 v3 v4 v5 v6 v7 : Int} {e : Nat} (r : RdS t v1 v2 v3 v4 v5 v6 v7 v8 e) : t = putNum v1 ++ (putNum v2 ++ (putNum v3 ++ (putNum v4 ++ (putNum v5 ++ (putNum v6 ++ (putNum v7 ++ (putText v8 ++ t.drop e))))))) ∧ 0 < e ∧ e ≤ t.length := by
 obtain ⟨a1, a2, a3, a4, a5, a6, a7, g1, g2, g3, g4, g5, g6, g7, g8⟩ := r
 obtain ⟨k1, _⟩ := getN_ok g1
 obtain ⟨k2, _⟩ := getN_ok g2
 obtain ⟨k3, _⟩ := getN_ok g3
 obtain ⟨k4, _⟩ := getN_ok g4
 obtain ⟨k5, _⟩ := getN_ok g5
 obtain ⟨k6, _⟩ := getN_ok g6
 obtain ⟨k7, _⟩ := getN_ok g7
 obtain ⟨k8, x2, x3, x4⟩ := getT_ok g8
 refine ⟨?_, by omega, x3⟩
 rw [List.drop_zero, k2, k3, k4, k5, k6, k7, k8] at k1
 exact k1
theorem RdS.st {t v8 : List UInt8} {v1 v2 v3 v4 v5 v6 v7 : Int} {e : Nat} (r : RdS t v1 v2 v3 v4 v5 v6 v7 v8 e) : stI t = if e = t.length ∧ (0 ≤ v6 ∧ v6 ≤ 16777215) ∧ (0 ≤ v7 ∧ v7 ≤ 16777215) ∧ stateOk ⟨v1, v2, v3, v4, v5, v8, fromI v6, fromI v7⟩ then some ⟨v1, v2, v3, v4, v5, v8, fromI v6, fromI v7⟩ else none := by
 obtain ⟨a1, a2, a3, a4, a5, a6, a7, g1, g2, g3, g4, g5, g6, g7, g8⟩ := r
 unfold stI
 simp only [numI_ok _ g1, numI_ok _ g2, numI_ok _ g3, numI_ok _ g4, numI_ok _ g5, numI_ok _ g6, numI_ok _ g7, textI_ok _ g8, true_and]
end Go.Proofs.YthjbhdmjfakfaaaGreatDoor
namespace Go.Proofs.YthjbhdmjfakfaaaGreatDoor
open Go.KH

end Go.Proofs.YthjbhdmjfakfaaaGreatDoor
namespace Go.Proofs.YthjbhdmjfakfaaaGreatDoor
open Go.KH

def machFit (m : UMach) : Prop := (1 ≤ m.blocks ∧ m.blocks ≤ 8) ∧ flashOk m.flash ∧ (m.flash.sec.length : Int) = 27 + m.blocks
instance (m : UMach) : Decidable (machFit m) := by unfold machFit; infer_instance
def stM (m : UMach) : Option UState := if machFit m ∧ (metaGet m.flash).1.2 = 0 then stI (metaGet m.flash).1.1.2 else none
theorem metaGet_at (f : UFlash) : ((metaGet f).1.2 = 0 ↔ 0 ≤ (metaGet f).2) := by
 unfold metaGet
 by_cases h1 : (metaR (flashGet f 0)).2 = 0
 ·by_cases h2 : (metaR (flashGet f 1)).2 = 0
  ·by_cases h3 : (metaR (flashGet f 1)).1.1 ≤ (metaR (flashGet f 0)).1.1 <;> simp [h1, h2, h3]
  ·simp [h1, h2]
 ·by_cases h2 : (metaR (flashGet f 1)).2 = 0 <;> simp [h1, h2]
theorem metaR_len (t : List UInt8) : (metaR t).1.2.length ≤ 80 ∧ 0 ≤ (metaR t).1.1 ∧ (metaR t).1.1 ≤ 1000000 := by
 unfold metaR metaI
 split
 ·simp only
  split
  ·rename_i h; exact ⟨h.2.2.2, by simp only; omega, h.2.2.1.2⟩
  ·simp
 ·simp
theorem metaGet_len (f : UFlash) : (metaGet f).1.1.2.length ≤ 80 ∧ 0 ≤ (metaGet f).1.1.1 ∧ (metaGet f).1.1.1 ≤ 1000000 := by
 unfold metaGet
 simp only
 split
 ·exact metaR_len _
 ·split
  ·exact metaR_len _
  ·simp
theorem stM_no {m : UMach} (h : ¬ machFit m) : stM m = none := by unfold stM; rw [if_neg (fun k => h k.1)]
def b_impl_stateOf : C := (jo [⟨(some 1), none, .box (.t 0)⟩, ⟨(some 2), none, .alloc [(i64 0), (i64 0), (i64 0), (i64 0), (i64 0), (str []), nils, nils]⟩, q 3 (.mv (.c (.bool false)))]
 (.seq (.seq (.dops true (.tk (jf 6 0 1) (.tk (jl 7 6) (.sq (jc 8 84 [(.t 7)]) (.tk (q 9 (.un .not (.t 8))) (.tk (jm 10 9) (.tk (qg 11 10 false (.fld 1 (.t 1))) (.tk (qg 12 10 false (.ld true 2 (.t 11))) (.sq (jcg 13 10 false 161 [(.t 12)]) (.tk (qg 14 10 false (.un .not (.t 13))) (.tk (q 15 (.pick (.t 10) (.c (.bool true)) (.t 14))) (.tk (jm 16 15) (.tk (qg 17 16 false (.fld 1 (.t 1))) (.tk (qg 18 16 false (.fld 0 (.t 17))) (.tk (qg 19 16 false (.ld false 1 (.t 18))) (.tk (qg 21 16 false (.fld 0 (.t 1))) (.tk (qg 22 16 false (.ld false 1 (.t 21))) (.tk (qg 23 16 false (.bin .add (.c (i64 3)) (.t 22))) (.tk (qg 24 16 false (.bin .add (.t 23) (.c (i64 24)))) (.sq (jcg 20 16 false 35 [(.t 19)]) (.tk (qg 25 16 false (.bin .neq (.t 20) (.t 24))) (.tk (q 26 (.pick (.t 16) (.c (.bool true)) (.t 25))) .nil))))))))))))))))))))))
 (.cond (.t 26) (jo [q 27 (.build [(i64 0), (i64 0), (i64 0), (i64 0), (i64 0), (str []), nils, nils] []), js 8 2 27, q 3 (.mv (.c (.bool false)))]
 .ret) .skip))
 (jo [jf 29 1 1, jd 30 2 29, jc 31 142 [(.t 30)], jm 28 31, q 32 (.ext 0 (.t 28)), q 33 (.ext 1 (.t 28)), ⟨(some 4), none, .alloc [(i64 0), (str []), (i64 0)]⟩, js 3 4 32, jm 5 33]
 (.seq (jo [jm 34 5, jk 35 .lss 34 0]
 (.cond (.t 35) (jo [q 36 (.build [(i64 0), (i64 0), (i64 0), (i64 0), (i64 0), (str []), nils, nils] []), js 8 2 36, q 3 (.mv (.c (.bool false)))]
 .ret) .skip))
 (jo [jf 37 1 4, jl 38 37, jc 39 162 [(.t 38)], q 40 (.ext 0 (.t 39)), q 41 (.ext 1 (.t 39)), js 8 2 40, jm 3 41]
 .ret)))))
theorem w_impl_stateOf : Wk Tryz.prog 76 42 [.cell 2 true 8, .tmp 3] b_impl_stateOf := Wk.of mixedOrders Tryz.func76 (by kernel_rfl) (by kernel_rfl)

set_option maxHeartbeats 1600000 in
theorem stateOf_ac {h : H} {cs : List Value} {m : UMach} (hv : RepR h (spMach m) cs) (hs : m.flash.fin1) : AC Tryz.prog 76 [.agg cs.toArray] h fun r h' => Ext h h' ∧ ∃ cs', r = .tuple #[.agg cs'.toArray, .bool (stM m).isSome] ∧ StF h h' cs' ((stM m).getD zeroS) := by
 obtain ⟨vs, vd, rfl, r⟩ := mach_r.1 hv
 have o1 := r.1.one
 have o2 := r.2.one
 have nofit : ∀ {h'}, ¬ machFit m → Ext h h' → Ext h h' ∧ ∃ cs', Value.tuple #[.agg #[i64 0, i64 0, i64 0, i64 0, i64 0, str [], nils, nils], .bool false] = .tuple #[.agg cs'.toArray, .bool (stM m).isSome] ∧ StF h h' cs' ((stM m).getD zeroS) := fun hn e => by
  rw [stM_no hn]; exact ⟨e, _, rfl, zero_f _ _⟩
 refine w_impl_stateOf (by simp) ?_
 unfold b_impl_stateOf
 refine wpc_cut (fun f1 h1 => ∃ b1 b2, f1 1 = ptr b1 0 ∧ f1 2 = ptr b2 0 ∧ h1.get b1 = some ⟨[i64 m.blocks, vs, vd], 3⟩ ∧ h1.get b2 = some ⟨[i64 0, i64 0, i64 0, i64 0, i64 0, str [], nils, nils], 8⟩ ∧ h1.base ≤ b2 ∧ h.get b2 = none ∧ Ext h h1) ?_ ?_
 ·simp -implicitDefEqProofs only [go_sem, o1, o2]
  intro b1 hb1 n1
  simp -implicitDefEqProofs only [go_sem, o1, o2]
  intro b2 hb2 n2
  obtain ⟨z, y, n2'⟩ := fne n2
  simp -implicitDefEqProofs only [go_sem, o1, o2, z, y]
  exact ⟨b1, b2, rfl, rfl, by simp -implicitDefEqProofs only [go_sem, y], by simp -implicitDefEqProofs only [go_sem], hb2, n2', ((Ext.refl h).set n1 _).set n2 _⟩
 rintro f1 h1 ⟨b1, b2, f01, f02, g1, g2, hb2, n2, e1⟩
 have o3 : vcl vs = [vs] := r.1.vcl
 skip
 refine wpc_cut (fun f2 h2 => h2 = h1 ∧ f2 1 = ptr b1 0 ∧ f2 2 = ptr b2 0 ∧ machFit m) ?_ ?_
 ·simp -implicitDefEqProofs only [go_sem, f01, ldc_get g1, Sub.refl, o1, o2, o3, ldc_get g2, stc_get g2, hb2]
  refine (isBlocks_pc _ _).use ?_
  by_cases p1 : 1 ≤ m.blocks ∧ m.blocks ≤ 8
  rotate_left
  ·simp -implicitDefEqProofs only [go_sem, f01, f02, ldc_get g1, Sub.refl, p1, o1, o2, o3, ldc_get g2, stc_get g2, hb2]
   exact nofit (fun h => p1 h.1) (e1.set' n2 _)
  have w1 : IntKind.i64.wrap (3 + m.blocks) = 3 + m.blocks := wrap_i64 (by omega) (by omega)
  have w2 : IntKind.i64.wrap (3 + m.blocks + 24) = 3 + m.blocks + 24 := wrap_i64 (by omega) (by omega)
  simp -implicitDefEqProofs only [go_sem, f01, ldc_get g1, Sub.refl, p1, o1, o2, o3, ldc_get g2, stc_get g2, hb2]
  refine (isFlash_pc (r.ext e1) hs).use ?_
  by_cases p2 : flashOk m.flash
  rotate_left
  ·simp -implicitDefEqProofs only [go_sem, f01, f02, ldc_get g1, Sub.refl, p1, p2, o1, o2, o3, ldc_get g2, stc_get g2, hb2]
   exact nofit (fun h => p2 h.2.1) (e1.set' n2 _)
  simp -implicitDefEqProofs only [go_sem, f01, ldc_get g1, Sub.refl, p1, p2, o1, o2, o3, ldc_get g2, stc_get g2, hb2]
  refine (sizeStr_pc (r.1.ext e1)).use ?_
  by_cases p3 : (m.flash.sec.length : Int) = 3 + m.blocks + 24
  rotate_left
  ·simp -implicitDefEqProofs only [go_sem, f01, f02, ldc_get g1, Sub.refl, p1, p2, w1, w2, p3, o1, o2, o3, ldc_get g2, stc_get g2, hb2]
   exact nofit (fun h => p3 (by have := h.2.2; omega)) (e1.set' n2 _)
  ·simp -implicitDefEqProofs only [go_sem, f01, f02, ldc_get g1, Sub.refl, p1, p2, w1, w2, decide_eq_true p3, p3, o1, o2, o3, ldc_get g2, stc_get g2, hb2]
   exact ⟨p1, p2, by omega⟩
 rintro f2 h2 ⟨rfl, q1, q2, hfit⟩
 have h27 := hfit.2.2
 have hb8 := hfit.1
 have hml := metaGet_len m.flash
 have hat := metaGet_at m.flash
 obtain ⟨M, hM⟩ : ∃ M, metaGet m.flash = M := ⟨_, rfl⟩
 have hst : stM m = if M.1.2 = 0 then stI M.1.1.2 else none := by
  unfold stM
  rw [hM]
  by_cases h0 : M.1.2 = 0
  ·rw [if_pos ⟨hfit, h0⟩, if_pos h0]
  ·rw [if_neg (fun h => h0 h.2), if_neg h0]
 rw [hM] at hml hat
 simp -implicitDefEqProofs only [go_sem, q1, ldc_get g1, o1, o2, o3, ldc_get g2, stc_get g2, hb2]
 refine (metaGet_pc (r.ext e1) hfit.2.1 (by omega)).use ?_
 rw [hM]
 simp -implicitDefEqProofs only [go_sem, q1, q2, o1, o2, o3, ldc_get g2, stc_get g2, hb2]
 intro b4 hb4 n4
 have z42 : (b2 = b4) = False := eq_false fun e => by rw [← e, g2] at n4; cases n4
 have y42 : (b4 = b2) = False := eq_false fun e => (of_eq_false z42) e.symm
 have g2' : ∀ x, (h2.set b4 x).get b2 = some ⟨[i64 0, i64 0, i64 0, i64 0, i64 0, str [], nils, nils], 8⟩ := fun x => by rw [H.set_get_ne _ _ _ _ (of_eq_false z42)]; exact g2
 have e4 := fun x => e1.set n4 x
 skip
 by_cases h0 : M.1.2 = 0
 rotate_left
 ·simp -implicitDefEqProofs only [go_sem, show M.2 < 0 by omega, o1, o2, o3, ldc_get g2, stc_get g2, hb2, q1, q2, hb4, z42, y42]
  rw [hst, if_neg h0]
  exact ⟨(e1.set' n2 _).set' (e1.none n4) _, _, rfl, zero_f _ _⟩
 rw [if_pos h0] at hst
 simp -implicitDefEqProofs only [go_sem, show ¬ M.2 < 0 by omega, o1, o2, o3, ldc_get g2, stc_get g2, hb2, q1, q2, hb4, z42, y42]
 refine AC_of (stateRead_ac (by omega)) ?_
 rintro _ h5 - ⟨e5, cs5, rfl, F5⟩
 rw [hst]
 have l5 := F5.r.len
 have t5 := take_len l5
 have o5 := F5.r.one
 have g5 := e5.2.g b2 _ (g2' _)
 have hb5 : h5.base ≤ b2 := by rw [e5.1]; exact hb2
 have eh := (e4 ⟨metaC M.1, 3⟩).trans e5
 simp -implicitDefEqProofs only [go_sem, l5, t5, o5, ldc_get g5, stc_get g5, hb5, o1, o2, o3, ldc_get g2, stc_get g2, hb2, q1, q2, hb4, z42, y42]
 obtain ⟨uh, um, rfl, p1, p2, d⟩ := F5
 exact ⟨eh.set' n2 _, _, rfl, uh, um, rfl, (p1.set (g2' _) _).back (e4 _), (p2.set (g2' _) _).back (e4 _), d⟩
end Go.Proofs.YthjbhdmjfakfaaaGreatDoor
namespace Go.Proofs.YthjbhdmjfakfaaaGreatDoor
open Go.KH

theorem stI_ok {t : List UInt8} {s : UState} (h : stI t = some s) : stateOk s := by
 unfold stI at h
 simp only at h
 split at h
 ·rename_i hc
  simp only [Option.some.injEq] at h
  rw [← h]; exact hc.2.2.2.2
 ·cases h
theorem stM_ok {m : UMach} {s : UState} (h : stM m = some s) : machFit m ∧ stateOk s := by
 unfold stM at h
 split at h
 ·rename_i hc; exact ⟨hc.1, stI_ok h⟩
 ·cases h
def areaOf (m : UMach) (n : Int) : List UInt8 := flashGet m.flash (3 + m.blocks + n)
theorem areaOf_len {m : UMach} (hf : machFit m) (n : Int) : (areaOf m n).length ≤ 96 := flashGet_len hf.2.1 _
def b_impl_Machine_areaAt : C := (jo [⟨(some 2), none, .box (.t 0)⟩, q 4 (.mv (.c (i64 0)))]
 (jo [jf 5 0 2, jl 6 5, q 7 (.bin .add (.c (i64 3)) (.t 6)), jm 8 1, jb 9 .add 7 8, jm 4 9]
 .ret))
theorem w_impl_Machine_areaAt : Wk Tryz.prog 164 10 [.tmp 4] b_impl_Machine_areaAt := Wk.of mixedOrders Tryz.func164 (by kernel_rfl) (by kernel_rfl)

theorem areaAt_pc {h : H} {cs : List Value} {m : UMach} {n : Int} (hv : RepR h (spMach m) cs) (hb : 1 ≤ m.blocks ∧ m.blocks ≤ 8) (hn : 0 ≤ n ∧ n ≤ 100) : PC Tryz.prog 164 [.agg cs.toArray, i64 n] h (i64 (3 + m.blocks + n)) := by
 obtain ⟨vs, vd, rfl, r⟩ := mach_r.1 hv
 have o1 := r.1.one
 have o2 := r.2.one
 refine PC_of ?_
 skip
 refine w_impl_Machine_areaAt (by simp) ?_
 unfold b_impl_Machine_areaAt
 simp -implicitDefEqProofs only [go_sem, o1, o2]
 intro b1 hb_b1 n_b1
 simp -implicitDefEqProofs only [go_sem, wrap_i64 (show -(9223372036854775808 : Int) ≤ (3 + m.blocks) by omega) (show (3 + m.blocks) < 9223372036854775808 by omega), wrap_i64 (show -(9223372036854775808 : Int) ≤ (3 + m.blocks + n) by omega) (show (3 + m.blocks + n) < 9223372036854775808 by omega), o1, o2, hb_b1]
 exact ((Ext.refl _).set' n_b1 _)
def b_impl_Machine_area : C := (jo [⟨(some 2), none, .box (.t 0)⟩, q 4 (.mv (.c (str [])))]
 (.seq (.dops true (.tk (jf 5 1 2) (.tk (jd 6 2 5) (.tk (jd 7 3 2) (.tk (jm 8 1) (.sq (jc 9 164 [(.t 7), (.t 8)]) (.sq (jc 10 166 [(.t 6), (.t 9)]) (.tk (jm 4 10) .nil))))))))
 .ret))
theorem w_impl_Machine_area : Wk Tryz.prog 163 11 [.tmp 4] b_impl_Machine_area := Wk.of mixedOrders Tryz.func163 (by kernel_rfl) (by kernel_rfl)

theorem area_pc {h : H} {cs : List Value} {m : UMach} {n : Int} (hv : RepR h (spMach m) cs) (hf : machFit m) (hn : 0 ≤ n ∧ n ≤ 23) : PC Tryz.prog 163 [.agg cs.toArray, i64 n] h (str (areaOf m n)) := by
 have hv0 := hv
 obtain ⟨vs, vd, rfl, r⟩ := mach_r.1 hv
 have o1 := r.1.one
 have o2 := r.2.one
 have hd := flashOk_small hf.2.1
 have h27 := hf.2.2
 have hb := hf.1
 refine PC_of ?_
 skip
 refine w_impl_Machine_area (by simp) ?_
 unfold b_impl_Machine_area
 simp -implicitDefEqProofs only [go_sem, o1, o2]
 intro b1 hb_b1 n_b1
 simp -implicitDefEqProofs only [go_sem, o1, o2, hb_b1]
 refine (areaAt_pc (hv0.ext ((Ext.refl _).set' n_b1 _)) hb (by omega)).use ?_
 simp -implicitDefEqProofs only [go_sem, Sub.refl, o1, o2, hb_b1]
 refine (read_pc (r.ext ((Ext.refl _).set' n_b1 _)) (by omega) (by omega)).use ?_
 simp -implicitDefEqProofs only [go_sem, Sub.refl, o1, o2, hb_b1]
 exact ⟨((Ext.refl _).set' n_b1 _), rfl⟩
theorem stateOk_stash {s : UState} (hok : stateOk s) : 0 ≤ s.stash ∧ s.stash ≤ 4 := by
 have h5 := hok.2.2.2.2
 by_cases p : s.phase = 1
 ·rw [if_pos p] at h5; omega
 ·rw [if_neg p] at h5; omega
end Go.Proofs.YthjbhdmjfakfaaaGreatDoor