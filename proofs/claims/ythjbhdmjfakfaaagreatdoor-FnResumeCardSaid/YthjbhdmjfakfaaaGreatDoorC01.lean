/- A helper of this seat's claims (contracts of the functions): what it shows is shown for every input that its statements name, on no other condition. -/
import Derived.Test.YthjbhdmjfakfaaaGreatDoorMC0
set_option linter.unusedVariables false
set_option linter.unusedSimpArgs false
set_option maxRecDepth 100000
namespace Go.Proofs.YthjbhdmjfakfaaaGreatDoor
open Go.KH

def b_impl_crcMore : C := (jo [q 4 (.mv (.c (.int .u32 0)))]
 (jo [jm 9 0, q 10 (.un .xor (.t 9)), jm 5 10]
 (.seq (jo [jm 11 1, q 12 (.slen (.t 11)), q 13 (.mv (.c (i64 0)))]
 (.block 0 (.loop (jo [jb 14 .lss 13 12]
 (.seq (.cond (.t 14) .skip (.exit 0))
 (.seq (.block 1 (jo [jm 15 13, jm 6 15]
 (jo [q 16 (.mv (.c (i64 0)))]
 (.block 2 (.loop (jo [jk 17 .lss 16 8]
 (.seq (.cond (.t 17) .skip (.exit 2))
 (.seq (.block 3 (jo [jm 18 16, jm 7 18]
 (jo [jm 19 5, jm 20 1, jm 21 6, q 22 (.sidx (.t 20) (.t 21)), q 23 (.cv .u32 (.t 22)), jm 24 7, jb 25 .shr 23 24, jb 26 .xor 19 25, q 27 (.bin .and (.t 26) (.c (.int .u32 1))), jm 8 27]
 (jo [jm 28 5, q 29 (.bin .shr (.t 28) (.c (.int .u64 1))), jm 5 29]
 (jo [jm 30 8, q 31 (.bin .eql (.t 30) (.c (.int .u32 1)))]
 (.cond (.t 31) (.ops [jm 32 5, q 33 (.bin .xor (.t 32) (.c (.int .u32 3988292384))), jm 5 33]) .skip))))))
 (.ops [jk 34 .add 16 1, jm 16 34])))))))))
 (.ops [jk 35 .add 13 1, jm 13 35])))))))
 (jo [jm 36 5, q 37 (.un .xor (.t 36)), jm 4 37]
 .ret))))
theorem w_impl_crcMore : Wk Tryz.prog 182 38 [.tmp 4] b_impl_crcMore := Wk.of mixedOrders Tryz.func182 (by kernel_rfl) (by kernel_rfl)

theorem crcMore_pc (h : H) (r : BitVec 32) (l : List UInt8) (hl : l.length ≤ 1099511627776) : PC Tryz.prog 182 [w32 r, str l] h (w32 (~~~ (crcL (~~~ r) l))) := by
 refine w_impl_crcMore (by simp) ?_
 unfold b_impl_crcMore
 simp -implicitDefEqProofs only [go_sem, not_w32]
 refine loopW_of (fun m f h' => ∃ k, m + k = l.length ∧ h' = h ∧ f 1 = str l ∧ f 12 = i64 l.length ∧ f 13 = i64 k ∧ f 5 = w32 (crcL (~~~ r) (l.take k))) l.length
  ⟨0, by simp, rfl, by simp -implicitDefEqProofs only [go_sem], by simp -implicitDefEqProofs only [go_sem], by simp -implicitDefEqProofs only [go_sem]; rfl, by simp -implicitDefEqProofs only [go_sem]; rfl⟩ ?_
 rintro m f h' ⟨k, hm, rfl, f1, f12, f13, f5⟩
 by_cases hk : k < l.length
 ·have hb : l[k]? = some l[k] := by simp [hk]
  simp -implicitDefEqProofs only [go_sem, f1, f12, f13, f5, hk, Int.ofNat_lt]
  refine loopW_of (fun m' g h'' => ∃ j : Nat, m' + j = 8 ∧ h'' = h' ∧ g 1 = str l ∧ g 12 = i64 l.length ∧ g 13 = i64 k ∧ g 6 = i64 k ∧ g 16 = i64 j ∧ g 5 = w32 (mixBits (b32 l[k]) j (crcL (~~~ r) (l.take k)))) 8
   ⟨0, by simp, rfl, by simp -implicitDefEqProofs only [go_sem, f1], by simp -implicitDefEqProofs only [go_sem, f12], by simp -implicitDefEqProofs only [go_sem, f13], by simp -implicitDefEqProofs only [go_sem, f13], by simp -implicitDefEqProofs only [go_sem]; rfl, by simp -implicitDefEqProofs only [go_sem, f5]; rfl⟩ ?_
  rintro m' g h'' ⟨j, hm', rfl, g1, g12, g13, g6, g16, g5⟩
  skip
  by_cases hj : j < 8
  ·simp -implicitDefEqProofs only [go_sem, show (j : Int) < 8 by omega, Int.natCast_nonneg, hb, wrap_b32, shr_w32 _ .i64 j (by omega), xor_w32, and1_w32, shr1_w32, eq1_w32, g1, g12, g13, g6, g16, g5]
   refine Br.of (fun h4 => ?_) (fun h4 => ?_)
   ·simp -implicitDefEqProofs only [go_sem, h4, poly_w32, wrap_i64 (show -(9223372036854775808 : Int) ≤ ((j : Int) + 1) by omega) (show ((j : Int) + 1) < 9223372036854775808 by omega), g1, g12, g13, g6, g16, g5]
    refine ⟨m' - 1, by omega, _, Ext.refl _, j + 1, by omega, rfl, rfl, ?_⟩
    simp only [mixBits, mixBit, h4, if_true]
   ·simp -implicitDefEqProofs only [go_sem, h4, poly_w32, wrap_i64 (show -(9223372036854775808 : Int) ≤ ((j : Int) + 1) by omega) (show ((j : Int) + 1) < 9223372036854775808 by omega), g1, g12, g13, g6, g16, g5]
    refine ⟨m' - 1, by omega, _, Ext.refl _, j + 1, by omega, rfl, rfl, ?_⟩
    simp only [mixBits, mixBit, h4, if_false]
  ·have e : j = 8 := by omega
   subst e
   simp -implicitDefEqProofs only [go_sem, Int.lt_irrefl, show ¬ (((8 : Nat) : Int) < 8) by omega, wrap_i64 (show -(9223372036854775808 : Int) ≤ ((k : Int) + 1) by omega) (show ((k : Int) + 1) < 9223372036854775808 by omega), g1, g12, g13, g6, g16, g5]
   refine ⟨m - 1, by omega, _, Ext.refl _, k + 1, by omega, rfl, rfl, ?_⟩
   rw [crcL_take _ _ _ hk, mix_byte]
 ·have e : k = l.length := by omega
  subst e
  skip
  simp -implicitDefEqProofs only [go_sem, f1, f12, f13, f5, Int.lt_irrefl, Nat.lt_irrefl, Int.ofNat_lt, not_w32, List.take_length]
def b_spec_l01Crc : C := (jo [q 4 (.mv (.c (i64 0)))]
 (jo [jm 8 0, q 9 (.cv .u32 (.t 8)), q 10 (.bin .xor (.t 9) (.c (.int .u32 4294967295))), jm 5 10]
 (.seq (jo [q 6 (.mv (.c (i64 0)))]
 (.block 0 (.loop (.seq (jo [jm 11 6, jm 12 1, q 13 (.slen (.t 12)), jb 14 .lss 11 13]
 (.cond (.t 14) .skip (.exit 0)))
 (.seq (.block 1 (jo [jm 17 5, jm 18 1, jm 19 6, q 20 (.sidx (.t 18) (.t 19)), q 21 (.cv .u32 (.t 20)), jb 22 .xor 17 21, jm 5 22]
 (jo [q 7 (.mv (.c (i64 0)))]
 (.block 2 (.loop (.seq (jo [jm 23 7, jk 24 .lss 23 8]
 (.cond (.t 24) .skip (.exit 2)))
 (.seq (.block 3 (jo [jm 27 5, q 28 (.bin .and (.t 27) (.c (.int .u32 1))), q 29 (.bin .eql (.t 28) (.c (.int .u32 1)))]
 (.cond (.t 29) (.ops [jm 30 5, q 31 (.bin .shr (.t 30) (.c (.int .u64 1))), q 32 (.bin .xor (.t 31) (.c (.int .u32 3988292384))), jm 5 32]) (.ops [jm 33 5, q 34 (.bin .shr (.t 33) (.c (.int .u64 1))), jm 5 34]))))
 (.ops [jm 25 7, jk 26 .add 25 1, jm 7 26]))))))))
 (.ops [jm 15 6, jk 16 .add 15 1, jm 6 16]))))))
 (jo [jm 35 5, q 36 (.bin .xor (.t 35) (.c (.int .u32 4294967295))), q 37 (.cv .i64 (.t 36)), jm 4 37]
 .ret))))
theorem w_spec_l01Crc : Wk Tryz.prog 105 38 [.tmp 4] b_spec_l01Crc := Wk.of mixedOrders Tryz.func105 (by kernel_rfl) (by kernel_rfl)

theorem l01Crc_pc (h : H) (r : BitVec 32) (l : List UInt8) (hl : l.length ≤ 1099511627776) : PC Tryz.prog 105 [i64 r.toNat, str l] h (i64 (~~~ (crcL (~~~ r) l)).toNat) := by
 refine w_spec_l01Crc (by simp) ?_
 unfold b_spec_l01Crc
 simp -implicitDefEqProofs only [go_sem, wrap_u32v, ones_w32]
 refine loopW_of (fun m f h' => ∃ k, m + k = l.length ∧ h' = h ∧ f 1 = str l ∧ f 6 = i64 k ∧ f 5 = w32 (crcL (~~~ r) (l.take k))) l.length
  ⟨0, by simp, rfl, by simp -implicitDefEqProofs only [go_sem], by simp -implicitDefEqProofs only [go_sem]; rfl, by simp -implicitDefEqProofs only [go_sem]; rfl⟩ ?_
 rintro m f h' ⟨k, hm, rfl, f1, f6, f5⟩
 by_cases hk : k < l.length
 ·have hb : l[k]? = some l[k] := by simp [hk]
  simp -implicitDefEqProofs only [go_sem, f1, f6, f5, hk, Int.ofNat_lt, Int.natCast_nonneg, hb, wrap_b32, xor_w32]
  refine loopW_of (fun m' g h'' => ∃ j : Nat, m' + j = 8 ∧ h'' = h' ∧ g 1 = str l ∧ g 6 = i64 k ∧ g 7 = i64 j ∧ g 5 = w32 (crcBits j (crcL (~~~ r) (l.take k) ^^^ b32 l[k]))) 8
   ⟨0, by simp, rfl, by simp -implicitDefEqProofs only [go_sem, f1], by simp -implicitDefEqProofs only [go_sem, f6], by simp -implicitDefEqProofs only [go_sem]; rfl, by simp -implicitDefEqProofs only [go_sem]; rfl⟩ ?_
  rintro m' g h'' ⟨j, hm', rfl, g1, g6, g7, g5⟩
  skip
  by_cases hj : j < 8
  ·simp -implicitDefEqProofs only [go_sem, show (j : Int) < 8 by omega, and1_w32, eq1_w32, g1, g6, g7, g5]
   refine Br.of (fun h4 => ?_) (fun h4 => ?_)
   ·simp -implicitDefEqProofs only [go_sem, h4, shr1_w32, poly_w32, wrap_i64 (show -(9223372036854775808 : Int) ≤ ((j : Int) + 1) by omega) (show ((j : Int) + 1) < 9223372036854775808 by omega), g1, g6, g7, g5]
    refine ⟨m' - 1, by omega, _, Ext.refl _, j + 1, by omega, rfl, rfl, ?_⟩
    simp only [crcBits, crcBit, h4, if_true]
   ·simp -implicitDefEqProofs only [go_sem, h4, shr1_w32, poly_w32, wrap_i64 (show -(9223372036854775808 : Int) ≤ ((j : Int) + 1) by omega) (show ((j : Int) + 1) < 9223372036854775808 by omega), g1, g6, g7, g5]
    refine ⟨m' - 1, by omega, _, Ext.refl _, j + 1, by omega, rfl, rfl, ?_⟩
    simp only [crcBits, crcBit, h4, if_false]
  ·have e : j = 8 := by omega
   subst e
   simp -implicitDefEqProofs only [go_sem, Int.lt_irrefl, show ¬ (((8 : Nat) : Int) < 8) by omega, wrap_i64 (show -(9223372036854775808 : Int) ≤ ((k : Int) + 1) by omega) (show ((k : Int) + 1) < 9223372036854775808 by omega), g1, g6, g7, g5]
   refine ⟨m - 1, by omega, _, Ext.refl _, k + 1, by omega, rfl, rfl, ?_⟩
   rw [crcL_take _ _ _ hk]
   rfl
 ·have e : k = l.length := by omega
  subst e
  skip
  simp -implicitDefEqProofs only [go_sem, f1, f6, f5, Int.lt_irrefl, Nat.lt_irrefl, Int.ofNat_lt, ones_w32, wrap_i64_32, List.take_length]
def b_impl_putNum : C := (jo [q 2 (.mv (.c (str [])))]
 (jo [jm 5 0, q 6 (.cv .u64 (.t 5)), q 7 (.bin .shl (.t 6) (.c (.int .u64 1))), jm 3 7]
 (.seq (jo [jm 8 0, jk 9 .lss 8 0]
 (.cond (.t 9) (.ops [jm 10 3, q 11 (.un .xor (.t 10)), jm 3 11]) .skip))
 (jo [q 4 (.mv (.c nils))]
 (.seq (.block 0 (.loop (.seq (jo [jm 12 3, q 13 (.bin .gtr (.t 12) (.c (.int .u64 127)))]
 (.cond (.t 13) .skip (.exit 0)))
 (.seq (.block 1 (.ops [jm 16 4, jm 17 3, q 18 (.cv .u8 (.t 17)), q 19 (.bin .or (.t 18) (.c (u8 128))), ⟨(some 20), none, .bsl 1 [(u8 0)] [(0, 1, (.t 19))]⟩, ⟨(some 21), none, .app 1 1 (.t 16) (.t 20)⟩, jm 4 21]))
 (.ops [jm 14 3, q 15 (.bin .shr (.t 14) (.c (.int .u64 7))), jm 3 15])))))
 (jo [jm 22 4, jm 23 3, q 24 (.cv .u8 (.t 23)), ⟨(some 25), none, .bsl 1 [(u8 0)] [(0, 1, (.t 24))]⟩, ⟨(some 26), none, .app 1 1 (.t 22) (.t 25)⟩, q 27 (.b2s (.t 26)), jm 2 27]
 .ret))))))
theorem w_impl_putNum : Wk Tryz.prog 94 28 [.tmp 2] b_impl_putNum := Wk.of mixedOrders Tryz.func94 (by kernel_rfl) (by kernel_rfl)

theorem putNum_pc (h : H) (n : Int) (hn : in64 n) : PC Tryz.prog 94 [i64 n] h (str (putNum n)) := by
 unfold in64 at hn
 refine PC_of ?_
 by_cases hneg : n < 0
 ·obtain ⟨x, hx⟩ : ∃ x : Nat, (x : Int) = 2 * n + 18446744073709551616 := ⟨(2 * n + 18446744073709551616).toNat, by omega⟩
  have e1 : obin .shl (.int .u64 (n % 18446744073709551616)) (.int .u64 1) = some (.int .u64 (x : Int)) := by
   rw [bi_shl, if_neg (by omega), wrap_u64m]
   congr 2
   show (n % 18446744073709551616 * 2 ^ 1) % 18446744073709551616 = _
   omega
  have e2 : (18446744073709551615 - x : Nat) = zig n := by unfold zig; rw [if_pos hneg]; omega
  refine w_impl_putNum (by simp) ?_
  unfold b_impl_putNum
  simp -implicitDefEqProofs only [go_sem, wrap_u64m, e1, hneg, not_u64 x (by omega), e2]
  refine loopW_of (fun m f h' => ∃ (u : Nat) (acc : List UInt8) (v : Value), m = u ∧ f 3 = .int .u64 (u : Int) ∧ f 4 = v ∧ acc ++ leb u = putNum n ∧ u < 18446744073709551616 ∧ Ext h h' ∧ Own h h' v 1 (bys acc)) (zig n)
   ⟨zig n, [], nils, rfl, by simp -implicitDefEqProofs only [go_sem], by simp -implicitDefEqProofs only [go_sem], rfl, zig_lt hn, Ext.refl _, Own.nil _ _ _⟩ ?_
  rintro m f h' ⟨u, acc, v, hmu, f3, rfl, hacc, hu, he, ho⟩
  obtain ⟨a, c, f4⟩ := ho.shape
  rw [f4] at ho
  have hlen : acc.length ≤ 10 := by have := putNum_le hn; rw [← hacc] at this; simp at this; omega
  by_cases h127 : u < 128
  ·simp -implicitDefEqProofs only [go_sem, f3, f4, show ¬ (127 : Int) < (u : Int) by omega, wrap_ofNat]
   intro b1 hb_b1 n_b1
   simp -implicitDefEqProofs only [go_sem, hb_b1]
   refine appW_own (new := [[.int .u8 ((UInt8.ofNat u).toNat : Int)]]) (he.set n_b1 _) (ho.ext ((Ext.refl _).set n_b1 _)) rfl (by intro r hr; simp at hr; subst hr; rfl) rfl (by simp; omega) ?_
   intro v' h'' he2 ho2 _
   simp -implicitDefEqProofs only [go_sem, hb_b1]
   refine b2s_own (l := acc ++ [UInt8.ofNat u]) (by simpa using ho2) ?_
   simp -implicitDefEqProofs only [go_sem, hb_b1]
   rw [leb_lt h127] at hacc
   rw [hacc]
   exact ⟨he2, rfl⟩
  ·skip
   simp -implicitDefEqProofs only [go_sem, f3, f4, show (127 : Int) < (u : Int) by omega, wrap_ofNat, or128]
   intro b2 hb_b2 n_b2
   simp -implicitDefEqProofs only [go_sem, hb_b2]
   refine appW_own (new := [[.int .u8 ((UInt8.ofNat (u % 128 + 128)).toNat : Int)]]) (he.set n_b2 _) (ho.ext ((Ext.refl _).set n_b2 _)) rfl (by intro r hr; simp at hr; subst hr; rfl) rfl (by simp; omega) ?_
   intro v' h'' he2 ho2 _
   have e7 : obin .shr (.int .u64 (u : Int)) (.int .u64 7) = some (.int .u64 ((u / 128 : Nat) : Int)) := by
    rw [bi_shr, if_neg (by omega)]
    congr 2
    rw [Int.fdiv_eq_ediv_of_nonneg _ (by decide)]
    norm_cast
   simp -implicitDefEqProofs only [go_sem, f3, e7, hb_b2]
   rw [leb_ge h127] at hacc
   exact ⟨u / 128, by omega, h'', Ext.refl _, u / 128, acc ++ [UInt8.ofNat (u % 128 + 128)], v', rfl, rfl, rfl, by simpa using hacc, by omega, he2, by simpa using ho2⟩
 ·obtain ⟨x, hx⟩ : ∃ x : Nat, (x : Int) = n := ⟨n.toNat, by omega⟩
  have e1 : obin .shl (.int .u64 (n % 18446744073709551616)) (.int .u64 1) = some (.int .u64 (zig n : Int)) := by
   rw [bi_shl, if_neg (by omega), wrap_u64m]
   congr 2
   show (n % 18446744073709551616 * 2 ^ 1) % 18446744073709551616 = _
   unfold zig; rw [if_neg hneg]; omega
  skip
  refine w_impl_putNum (by simp) ?_
  unfold b_impl_putNum
  simp -implicitDefEqProofs only [go_sem, wrap_u64m, e1, hneg]
  refine loopW_of (fun m f h' => ∃ (u : Nat) (acc : List UInt8) (v : Value), m = u ∧ f 3 = .int .u64 (u : Int) ∧ f 4 = v ∧ acc ++ leb u = putNum n ∧ u < 18446744073709551616 ∧ Ext h h' ∧ Own h h' v 1 (bys acc)) (zig n)
   ⟨zig n, [], nils, rfl, by simp -implicitDefEqProofs only [go_sem], by simp -implicitDefEqProofs only [go_sem], rfl, zig_lt hn, Ext.refl _, Own.nil _ _ _⟩ ?_
  rintro m f h' ⟨u, acc, v, hmu, f3, rfl, hacc, hu, he, ho⟩
  obtain ⟨a, c, f4⟩ := ho.shape
  rw [f4] at ho
  have hlen : acc.length ≤ 10 := by have := putNum_le hn; rw [← hacc] at this; simp at this; omega
  by_cases h127 : u < 128
  ·simp -implicitDefEqProofs only [go_sem, f3, f4, show ¬ (127 : Int) < (u : Int) by omega, wrap_ofNat]
   intro b1 hb_b1 n_b1
   simp -implicitDefEqProofs only [go_sem, hb_b1]
   refine appW_own (new := [[.int .u8 ((UInt8.ofNat u).toNat : Int)]]) (he.set n_b1 _) (ho.ext ((Ext.refl _).set n_b1 _)) rfl (by intro r hr; simp at hr; subst hr; rfl) rfl (by simp; omega) ?_
   intro v' h'' he2 ho2 _
   simp -implicitDefEqProofs only [go_sem, hb_b1]
   refine b2s_own (l := acc ++ [UInt8.ofNat u]) (by simpa using ho2) ?_
   simp -implicitDefEqProofs only [go_sem, hb_b1]
   rw [leb_lt h127] at hacc
   rw [hacc]
   exact ⟨he2, rfl⟩
  ·skip
   simp -implicitDefEqProofs only [go_sem, f3, f4, show (127 : Int) < (u : Int) by omega, wrap_ofNat, or128]
   intro b2 hb_b2 n_b2
   simp -implicitDefEqProofs only [go_sem, hb_b2]
   refine appW_own (new := [[.int .u8 ((UInt8.ofNat (u % 128 + 128)).toNat : Int)]]) (he.set n_b2 _) (ho.ext ((Ext.refl _).set n_b2 _)) rfl (by intro r hr; simp at hr; subst hr; rfl) rfl (by simp; omega) ?_
   intro v' h'' he2 ho2 _
   have e7 : obin .shr (.int .u64 (u : Int)) (.int .u64 7) = some (.int .u64 ((u / 128 : Nat) : Int)) := by
    rw [bi_shr, if_neg (by omega)]
    congr 2
    rw [Int.fdiv_eq_ediv_of_nonneg _ (by decide)]
    norm_cast
   simp -implicitDefEqProofs only [go_sem, f3, e7, hb_b2]
   rw [leb_ge h127] at hacc
   exact ⟨u / 128, by omega, h'', Ext.refl _, u / 128, acc ++ [UInt8.ofNat (u % 128 + 128)], v', rfl, rfl, rfl, by simpa using hacc, by omega, he2, by simpa using ho2⟩
def b_spec_l01Fold : C := (jo [q 2 (.mv (.c (.int .u64 0)))]
 (.seq (jo [jm 3 0, jk 4 .lss 3 0]
 (.cond (.t 4) (jo [jm 5 0, jk 6 .add 5 1, q 7 (.un .neg (.t 6)), q 8 (.cv .u64 (.t 7)), q 9 (.bin .mul (.c (.int .u64 2)) (.t 8)), q 10 (.bin .add (.t 9) (.c (.int .u64 1))), jm 2 10]
 .ret) .skip))
 (jo [jm 11 0, q 12 (.cv .u64 (.t 11)), q 13 (.bin .mul (.c (.int .u64 2)) (.t 12)), jm 2 13]
 .ret)))
theorem w_spec_l01Fold : Wk Tryz.prog 113 14 [.tmp 2] b_spec_l01Fold := Wk.of mixedOrders Tryz.func113 (by kernel_rfl) (by kernel_rfl)

theorem l01Fold_pc (h : H) (n : Int) (hn : in64 n) : PC Tryz.prog 113 [i64 n] h (.int .u64 (zig n : Int)) := by
 unfold in64 at hn
 unfold zig
 refine w_spec_l01Fold (by simp) ?_
 unfold b_spec_l01Fold
 simp -implicitDefEqProofs only [go_sem]
 by_cases hneg : n < 0
 ·simp -implicitDefEqProofs only [go_sem, hneg, wrap_i64 (show -(9223372036854775808 : Int) ≤ (n + 1) by omega) (show (n + 1) < 9223372036854775808 by omega), wrap_i64 (show -(9223372036854775808 : Int) ≤ (0 - (n + 1)) by omega) (show (0 - (n + 1)) < 9223372036854775808 by omega), wrap_u64 (show 0 ≤ 0 - (n + 1) by omega) (show 0 - (n + 1) < 18446744073709551616 by omega), wrap_u64 (show 0 ≤ 2 * (0 - (n + 1)) by omega) (show 2 * (0 - (n + 1)) < 18446744073709551616 by omega), wrap_u64 (show 0 ≤ 2 * (0 - (n + 1)) + 1 by omega) (show 2 * (0 - (n + 1)) + 1 < 18446744073709551616 by omega)]
  congr 1; omega
 ·simp -implicitDefEqProofs only [go_sem, hneg, wrap_u64 (show 0 ≤ n by omega) (show n < 18446744073709551616 by omega), wrap_u64 (show 0 ≤ 2 * n by omega) (show 2 * n < 18446744073709551616 by omega)]
  congr 1; omega
def b_spec_PutNum : C := (jo [q 2 (.mv (.c (str [])))]
 (jo [jm 5 0, jc 6 113 [(.t 5)], jm 3 6]
 (jo [⟨(some 7), none, .bsl 0 [] []⟩, jm 4 7]
 (.seq (.block 0 (.loop (.seq (jo [jm 8 3, q 9 (.bin .geq (.t 8) (.c (.int .u64 128)))]
 (.cond (.t 9) .skip (.exit 0)))
 (.block 1 (jo [jm 10 4, jm 11 3, q 12 (.bin .rem (.t 11) (.c (.int .u64 128))), q 13 (.bin .add (.t 12) (.c (.int .u64 128))), q 14 (.cv .u8 (.t 13)), ⟨(some 15), none, .bsl 1 [(u8 0)] [(0, 1, (.t 14))]⟩, ⟨(some 16), none, .app 1 1 (.t 10) (.t 15)⟩, jm 4 16]
 (.ops [jm 17 3, q 18 (.bin .quo (.t 17) (.c (.int .u64 128))), jm 3 18]))))))
 (jo [jm 19 4, jm 20 3, q 21 (.cv .u8 (.t 20)), ⟨(some 22), none, .bsl 1 [(u8 0)] [(0, 1, (.t 21))]⟩, ⟨(some 23), none, .app 1 1 (.t 19) (.t 22)⟩, q 24 (.b2s (.t 23)), jm 2 24]
 .ret)))))
theorem w_spec_PutNum : Wk Tryz.prog 55 25 [.tmp 2] b_spec_PutNum := Wk.of mixedOrders Tryz.func55 (by kernel_rfl) (by kernel_rfl)

theorem specPutNum_pc (h : H) (n : Int) (hn : in64 n) : PC Tryz.prog 55 [i64 n] h (str (putNum n)) := by
 have hn0 := hn
 unfold in64 at hn
 refine PC_of ?_
 refine w_spec_PutNum (by simp) ?_
 unfold b_spec_PutNum
 simp -implicitDefEqProofs only [go_sem]
 refine (l01Fold_pc _ n hn0).use ?_
 simp -implicitDefEqProofs only [go_sem]
 intro b0 hb_b0 n_b0
 simp -implicitDefEqProofs only [go_sem, hb_b0]
 refine loopW_of (fun m f h' => ∃ (u : Nat) (acc : List UInt8) (v : Value), m = u ∧ f 3 = .int .u64 (u : Int) ∧ f 4 = v ∧ acc ++ leb u = putNum n ∧ u < 18446744073709551616 ∧ Ext h h' ∧ Own h h' v 1 (bys acc)) (zig n)
  ⟨zig n, [], sl b0 0 0 0, rfl, by simp -implicitDefEqProofs only [go_sem, hb_b0], by simp -implicitDefEqProofs only [go_sem, hb_b0], rfl, zig_lt hn, ((Ext.refl _).set' n_b0 _), .inr ⟨b0, 0, 0, rfl, Nat.le_refl _, hb_b0, n_b0, H.set_get_same _ _ _, Nat.le_refl _, Wid.nil _⟩⟩ ?_
 rintro m f h' ⟨u, acc, v, hmu, f3, rfl, hacc, hu, he, ho⟩
 skip
 obtain ⟨a, c, f4⟩ := ho.shape
 rw [f4] at ho
 have hlen : acc.length ≤ 10 := by have := putNum_le hn; rw [← hacc] at this; simp at this; omega
 by_cases h127 : u < 128
 ·simp -implicitDefEqProofs only [go_sem, f3, f4, show ¬ (128 : Int) ≤ (u : Int) by omega, wrap_ofNat]
  intro b1 hb_b1 n_b1
  simp -implicitDefEqProofs only [go_sem, hb_b1]
  refine appW_own (new := [[.int .u8 ((UInt8.ofNat u).toNat : Int)]]) (he.set n_b1 _) (ho.ext ((Ext.refl _).set n_b1 _)) rfl (by intro r hr; simp at hr; subst hr; rfl) rfl (by simp; omega) ?_
  intro v' h'' he2 ho2 _
  simp -implicitDefEqProofs only [go_sem, hb_b1]
  refine b2s_own (l := acc ++ [UInt8.ofNat u]) (by simpa using ho2) ?_
  simp -implicitDefEqProofs only [go_sem, hb_b1]
  rw [leb_lt h127] at hacc
  rw [hacc]
  exact ⟨he2, rfl⟩
 ·skip
  have e5 : obin .rem (.int .u64 (u : Int)) (.int .u64 128) = some (.int .u64 ((u % 128 : Nat) : Int)) := by
   rw [bi_rem, if_neg (by omega), Int.tmod_eq_emod_of_nonneg (by omega)]
   norm_cast
  have e6 : IntKind.u64.wrap (((u % 128 : Nat) : Int) + 128) = ((u % 128 + 128 : Nat) : Int) := by
   rw [wrap_u64 (by omega) (by omega)]; norm_cast
  simp -implicitDefEqProofs only [go_sem, f3, f4, show (128 : Int) ≤ (u : Int) by omega, e5, e6, wrap_ofNat]
  intro b2 hb_b2 n_b2
  simp -implicitDefEqProofs only [go_sem, hb_b2]
  refine appW_own (new := [[.int .u8 ((UInt8.ofNat (u % 128 + 128)).toNat : Int)]]) (he.set n_b2 _) (ho.ext ((Ext.refl _).set n_b2 _)) rfl (by intro r hr; simp at hr; subst hr; rfl) rfl (by simp; omega) ?_
  intro v' h'' he2 ho2 _
  have e7 : obin .quo (.int .u64 (u : Int)) (.int .u64 128) = some (.int .u64 ((u / 128 : Nat) : Int)) := by
   rw [bi_quo, if_neg (by omega), Int.tdiv_eq_ediv_of_nonneg (by omega), wrap_u64 (by omega) (by omega)]
   norm_cast
  simp -implicitDefEqProofs only [go_sem, f3, e7, hb_b2]
  rw [leb_ge h127] at hacc
  exact ⟨u / 128, by omega, h'', Ext.refl _, u / 128, acc ++ [UInt8.ofNat (u % 128 + 128)], v', rfl, rfl, rfl, by simpa using hacc, by omega, he2, by simpa using ho2⟩
def b_impl_putText : C := (jo [q 2 (.mv (.c (str [])))]
 (jo [jm 3 0, q 4 (.slen (.t 3)), jc 5 94 [(.t 4)], jm 6 0, jb 7 .add 5 6, jm 2 7]
 .ret))
theorem w_impl_putText : Wk Tryz.prog 95 8 [.tmp 2] b_impl_putText := Wk.of mixedOrders Tryz.func95 (by kernel_rfl) (by kernel_rfl)

theorem putText_pc (h : H) (t : List UInt8) (ht : t.length ≤ 1099511627776) : PC Tryz.prog 95 [str t] h (str (putText t)) := by
 have hn : in64 (t.length : Int) := by unfold in64; omega
 have hl := putNum_le hn
 refine w_impl_putText (by simp) ?_
 unfold b_impl_putText
 simp -implicitDefEqProofs only [go_sem]
 refine (putNum_pc _ _ hn).use ?_
 simp -implicitDefEqProofs only [go_sem]
 refine Req.of (by omega) ?_
 simp -implicitDefEqProofs only [go_sem]
 rfl
def b_spec_PutText : C := (jo [q 2 (.mv (.c (str [])))]
 (.seq (jo [jm 3 0, q 4 (.slen (.t 3)), jk 5 .gtr 4 8000]
 (.cond (.t 5) (jo [q 2 (.mv (.c (str [])))]
 .ret) .skip))
 (jo [jm 6 0, q 7 (.slen (.t 6)), jc 8 55 [(.t 7)], jm 9 0, jb 10 .add 8 9, jm 2 10]
 .ret)))
theorem w_spec_PutText : Wk Tryz.prog 56 11 [.tmp 2] b_spec_PutText := Wk.of mixedOrders Tryz.func56 (by kernel_rfl) (by kernel_rfl)

theorem specPutText_pc (h : H) (t : List UInt8) (ht : t.length ≤ 8000) : PC Tryz.prog 56 [str t] h (str (putText t)) := by
 have hn : in64 (t.length : Int) := by unfold in64; omega
 have hl := putNum_le hn
 refine w_spec_PutText (by simp) ?_
 unfold b_spec_PutText
 simp -implicitDefEqProofs only [go_sem, show ¬ (8000 : Int) < (t.length : Int) by omega]
 refine (specPutNum_pc _ _ hn).use ?_
 simp -implicitDefEqProofs only [go_sem]
 refine Req.of (by omega) ?_
 simp -implicitDefEqProofs only [go_sem]
 rfl
def b_spec_l01Four : C := (jo [q 2 (.mv (.c (str [])))]
 (jo [jm 3 0, q 4 (.cv .u8 (.t 3)), jm 5 0, q 6 (.bin .shr (.t 5) (.c (.int .u64 8))), q 7 (.cv .u8 (.t 6)), jm 8 0, q 9 (.bin .shr (.t 8) (.c (.int .u64 16))), q 10 (.cv .u8 (.t 9)), jm 11 0, q 12 (.bin .shr (.t 11) (.c (.int .u64 24))), q 13 (.cv .u8 (.t 12)), ⟨(some 14), none, .bsl 4 [(u8 0), (u8 0), (u8 0), (u8 0)] [(0, 1, (.t 4)), (1, 1, (.t 7)), (2, 1, (.t 10)), (3, 1, (.t 13))]⟩, q 15 (.b2s (.t 14)), jm 2 15]
 .ret))
theorem w_spec_l01Four : Wk Tryz.prog 104 16 [.tmp 2] b_spec_l01Four := Wk.of mixedOrders Tryz.func104 (by kernel_rfl) (by kernel_rfl)

theorem l01Four_pc (h : H) (x : BitVec 32) : PC Tryz.prog 104 [i64 x.toNat] h (str (four x)) := by
 refine PC_of ?_
 refine w_spec_l01Four (by simp) ?_
 unfold b_spec_l01Four
 simp -implicitDefEqProofs only [go_sem, wrap_ofNat, shr8 .i64 _ (by decide), shr16 .i64 _ (by decide), shr24 .i64 _ (by decide)]
 intro b1 hb_b1 n_b1
 simp -implicitDefEqProofs only [go_sem, bytesOf_cons, bytesOf_nil, UInt8.ofNat_toNat, hb_b1]
 exact ⟨((Ext.refl _).set' n_b1 _), rfl⟩
def b_impl_seal : C := (jo [q 2 (.mv (.c (str [])))]
 (jo [jm 4 0, jc 5 182 [(.c (.int .u32 0)), (.t 4)], jm 3 5]
 (jo [jm 6 0, jm 7 3, q 8 (.cv .u8 (.t 7)), jm 9 3, q 10 (.bin .shr (.t 9) (.c (.int .u64 8))), q 11 (.cv .u8 (.t 10)), jm 12 3, q 13 (.bin .shr (.t 12) (.c (.int .u64 16))), q 14 (.cv .u8 (.t 13)), jm 15 3, q 16 (.bin .shr (.t 15) (.c (.int .u64 24))), q 17 (.cv .u8 (.t 16)), ⟨(some 18), none, .bsl 4 [(u8 0), (u8 0), (u8 0), (u8 0)] [(0, 1, (.t 8)), (1, 1, (.t 11)), (2, 1, (.t 14)), (3, 1, (.t 17))]⟩, q 19 (.b2s (.t 18)), jb 20 .add 6 19, jm 2 20]
 .ret)))
theorem w_impl_seal : Wk Tryz.prog 98 21 [.tmp 2] b_impl_seal := Wk.of mixedOrders Tryz.func98 (by kernel_rfl) (by kernel_rfl)

theorem seal_pc (h : H) (t : List UInt8) (ht : t.length ≤ 1099511627776) : PC Tryz.prog 98 [str t] h (str (sealB t)) := by
 have hc := crcMore_pc h 0#32 t ht
 refine PC_of ?_
 refine w_impl_seal (by simp) ?_
 unfold b_impl_seal
 simp -implicitDefEqProofs only [go_sem]
 refine PC.use hc ?_
 simp -implicitDefEqProofs only [go_sem, wrap_ofNat, shr8 .u32 _ (by decide), shr16 .u32 _ (by decide), shr24 .u32 _ (by decide)]
 intro b1 hb_b1 n_b1
 simp -implicitDefEqProofs only [go_sem, bytesOf_cons, bytesOf_nil, UInt8.ofNat_toNat, show t.length + 4 ≤ 4611686018427387904 by omega, hb_b1]
 exact ⟨((Ext.refl _).set' n_b1 _), rfl⟩
def b_spec_Seal : C := (jo [q 2 (.mv (.c (str [])))]
 (.seq (jo [jm 3 0, q 4 (.slen (.t 3)), jk 5 .gtr 4 7996]
 (.cond (.t 5) (jo [q 2 (.mv (.c (str [])))]
 .ret) .skip))
 (jo [jm 6 0, jm 7 0, jc 8 105 [(.c (i64 0)), (.t 7)], jc 9 104 [(.t 8)], jb 10 .add 6 9, jm 2 10]
 .ret)))
theorem w_spec_Seal : Wk Tryz.prog 45 11 [.tmp 2] b_spec_Seal := Wk.of mixedOrders Tryz.func45 (by kernel_rfl) (by kernel_rfl)

theorem specSeal_pc (h : H) (t : List UInt8) (ht : t.length ≤ 7996) : PC Tryz.prog 45 [str t] h (str (sealB t)) := by
 have hc := l01Crc_pc h 0#32 t (by omega)
 refine w_spec_Seal (by simp) ?_
 unfold b_spec_Seal
 simp -implicitDefEqProofs only [go_sem, show ¬ (7996 : Int) < (t.length : Int) by omega]
 refine PC.use hc ?_
 simp -implicitDefEqProofs only [go_sem]
 refine (l01Four_pc _ _).use ?_
 simp -implicitDefEqProofs only [go_sem, four]
 refine Req.of (by omega) ?_
 simp -implicitDefEqProofs only [go_sem]
 rfl
def b_impl_putNums : C := (jo [q 2 (.mv (.c (str [])))]
 (jo [q 3 (.mv (.c (str [])))]
 (.seq (jo [jm 6 0, q 7 (.len (.t 6)), q 8 (.mv (.c (i64 0)))]
 (.block 0 (.loop (jo [jb 9 .lss 8 7]
 (.seq (.cond (.t 9) .skip (.exit 0))
 (.seq (.block 1 (jo [q 10 (.idx 1 (.t 6) (.t 8)), jl 11 10, jm 5 11]
 (.ops [jm 12 3, jm 13 5, jc 14 94 [(.t 13)], jb 15 .add 12 14, jm 3 15])))
 (.ops [jk 16 .add 8 1, jm 8 16])))))))
 (jo [jm 17 3, jm 2 17]
 .ret))))
theorem w_impl_putNums : Wk Tryz.prog 181 18 [.tmp 2] b_impl_putNums := Wk.of mixedOrders Tryz.func181 (by kernel_rfl) (by kernel_rfl)

theorem putNums_pc {h : H} {v : Value} {l : List Int} (hv : Sl h v 1 (l.map fun n => [i64 n])) (hb : l.length ≤ 1000) (hl : ∀ n ∈ l, in64 n) : PC Tryz.prog 181 [v] h (str (l.flatMap putNum)) := by
 obtain ⟨a, c, b, o, rfl, hcap, h2, h3⟩ := hv
 simp only [List.length_map] at h2
 refine w_impl_putNums (by simp) ?_
 unfold b_impl_putNums
 simp -implicitDefEqProofs only [go_sem, List.length_map]
 refine loopW_of (fun m f h' => ∃ k, m + k = l.length ∧ h' = h ∧ f 6 = .slice a l.length c ∧ f 7 = i64 l.length ∧ f 8 = i64 k ∧ f 3 = str ((l.take k).flatMap putNum) ∧ ((l.take k).flatMap putNum).length ≤ 10 * k) l.length
  ⟨0, by simp, rfl, by simp -implicitDefEqProofs only [go_sem, List.length_map], by simp -implicitDefEqProofs only [go_sem, List.length_map], by simp -implicitDefEqProofs only [go_sem]; rfl, by simp -implicitDefEqProofs only [go_sem]; rfl, by simp⟩ ?_
 rintro m f h' ⟨k, hm, rfl, f6, f7, f8, f3, hlen⟩
 skip
 by_cases hk : k < l.length
 ·have e1 := h3 k [i64 l[k]] (by simp [hk])
  have hn := hl l[k] (List.getElem_mem hk)
  have h10 := putNum_le hn
  have e2 : (l.take (k + 1)).flatMap putNum = (l.take k).flatMap putNum ++ putNum l[k] := by
   rw [List.take_succ_eq_append_getElem hk, List.flatMap_append]; simp
  simp -implicitDefEqProofs only [go_sem, hk, e1, f6, f7, f8, f3, h2, Int.ofNat_lt, Int.natCast_nonneg]
  refine (putNum_pc _ _ hn).use ?_
  simp -implicitDefEqProofs only [go_sem, f6, f7, f8, f3, h2, Int.ofNat_lt, Int.natCast_nonneg]
  refine Req.of (by omega) ?_
  simp -implicitDefEqProofs only [go_sem, wrap_i64 (show -(9223372036854775808 : Int) ≤ ((k : Int) + 1) by omega) (show ((k : Int) + 1) < 9223372036854775808 by omega), f6, f7, f8, f3, h2, Int.ofNat_lt, Int.natCast_nonneg]
  exact ⟨m - 1, by omega, h', Ext.refl _, k + 1, by omega, rfl, rfl, by rw [e2], by rw [e2, List.length_append]; omega⟩
 ·have e : k = l.length := by omega
  subst e
  simp -implicitDefEqProofs only [go_sem, Nat.lt_irrefl, List.take_length, f6, f7, f8, f3, h2, Int.ofNat_lt, Int.natCast_nonneg]
end Go.Proofs.YthjbhdmjfakfaaaGreatDoor