/- A helper of this seat's claims (contracts of the functions): what it shows is shown for every input that its statements name, on no other condition. -/
import Derived.Test.YthjbhdmjfakfaaaGreatDoorMC0
set_option linter.unusedVariables false
set_option linter.unusedSimpArgs false
set_option maxRecDepth 100000
namespace Go.Proofs.YthjbhdmjfakfaaaGreatDoor
open Go.KH

/-! ## Numbers, texts, checksums -/
/-- impl.crcMore -/
def b_impl_crcMore : C := (.seq (.ops [q 4 (.mv (.c (.int .u32 0)))])
 (.seq (.ops [q 9 (.mv (.t 0)), q 10 (.un .xor (.t 9)), q 5 (.mv (.t 10))])
 (.seq (.seq (.ops [q 11 (.mv (.t 1)), q 12 (.slen (.t 11)), q 13 (.mv (.c (i64 0)))])
 (.block 0 (.loop (.seq (.ops [q 14 (.bin .lss (.t 13) (.t 12))])
 (.seq (.cond (.t 14) .skip (.exit 0))
 (.seq (.block 1 (.seq (.ops [q 15 (.mv (.t 13)), q 6 (.mv (.t 15))])
 (.seq (.ops [q 16 (.mv (.c (i64 0)))])
 (.block 2 (.loop (.seq (.ops [q 17 (.bin .lss (.t 16) (.c (i64 8)))])
 (.seq (.cond (.t 17) .skip (.exit 2))
 (.seq (.block 3 (.seq (.ops [q 18 (.mv (.t 16)), q 7 (.mv (.t 18))])
 (.seq (.ops [q 19 (.mv (.t 5)), q 20 (.mv (.t 1)), q 21 (.mv (.t 6)), q 22 (.sidx (.t 20) (.t 21)), q 23 (.cv .u32 (.t 22)), q 24 (.mv (.t 7)), q 25 (.bin .shr (.t 23) (.t 24)), q 26 (.bin .xor (.t 19) (.t 25)), q 27 (.bin .and (.t 26) (.c (.int .u32 1))), q 8 (.mv (.t 27))])
 (.seq (.ops [q 28 (.mv (.t 5)), q 29 (.bin .shr (.t 28) (.c (.int .u64 1))), q 5 (.mv (.t 29))])
 (.seq (.ops [q 30 (.mv (.t 8)), q 31 (.bin .eql (.t 30) (.c (.int .u32 1)))])
 (.cond (.t 31) (.ops [q 32 (.mv (.t 5)), q 33 (.bin .xor (.t 32) (.c (.int .u32 3988292384))), q 5 (.mv (.t 33))]) .skip))))))
 (.ops [q 34 (.bin .add (.t 16) (.c (i64 1))), q 16 (.mv (.t 34))])))))))))
 (.ops [q 35 (.bin .add (.t 13) (.c (i64 1))), q 13 (.mv (.t 35))])))))))
 (.seq (.ops [q 36 (.mv (.t 5)), q 37 (.un .xor (.t 36)), q 4 (.mv (.t 37))])
 .ret))))
theorem w_impl_crcMore {args : List Value} {h : H} {Q : Value → H → Prop} (hl : args.length ≤ 38) (hk : wpc Tryz.prog b_impl_crcMore (retw [.tmp 4] Q) (argsFr args) h) : AC Tryz.prog 182 args h Q :=
  AC.of_wpc mixedOrders Tryz.func182 (by kernel_rfl) (by kernel_rfl : prepF Tryz.prog Tryz.f182 = some ⟨38, [.tmp 4], b_impl_crcMore⟩) hl hk

theorem crcMore_pc (h : H) (r : BitVec 32) (l : List UInt8) (hl : l.length ≤ 1099511627776) : PC Tryz.prog 182 [w32 r, str l] h (w32 (~~~ (crcL (~~~ r) l))) := by
  refine w_impl_crcMore (by simp) ?_
  unfold b_impl_crcMore
  simp -implicitDefEqProofs only [go_sem, not_w32]
  refine loopW_of (fun m f h' => ∃ k, m + k = l.length ∧ h' = h ∧ f 1 = str l ∧ f 12 = i64 l.length ∧ f 13 = i64 k ∧ f 5 = w32 (crcL (~~~ r) (l.take k))) l.length
    ⟨0, by simp, rfl, by simp -implicitDefEqProofs only [go_sem], by simp -implicitDefEqProofs only [go_sem], by simp -implicitDefEqProofs only [go_sem]; rfl, by simp -implicitDefEqProofs only [go_sem]; rfl⟩ ?_
  rintro m f h' ⟨k, hm, rfl, f1, f12, f13, f5⟩
  by_cases hk : k < l.length
  · have hb : l[k]? = some l[k] := by simp [hk]
    simp -implicitDefEqProofs only [go_sem, f1, f12, f13, f5, hk, Int.ofNat_lt]
    refine loopW_of (fun m' g h'' => ∃ j : Nat, m' + j = 8 ∧ h'' = h' ∧ g 1 = str l ∧ g 12 = i64 l.length ∧ g 13 = i64 k ∧ g 6 = i64 k ∧ g 16 = i64 j ∧ g 5 = w32 (mixBits (b32 l[k]) j (crcL (~~~ r) (l.take k)))) 8
      ⟨0, by simp, rfl, by simp -implicitDefEqProofs only [go_sem, f1], by simp -implicitDefEqProofs only [go_sem, f12], by simp -implicitDefEqProofs only [go_sem, f13], by simp -implicitDefEqProofs only [go_sem, f13], by simp -implicitDefEqProofs only [go_sem]; rfl, by simp -implicitDefEqProofs only [go_sem, f5]; rfl⟩ ?_
    rintro m' g h'' ⟨j, hm', rfl, g1, g12, g13, g6, g16, g5⟩
    skip
    by_cases hj : j < 8
    · simp -implicitDefEqProofs only [go_sem, show (j : Int) < 8 by omega, Int.natCast_nonneg, hb, wrap_b32, shr_w32 _ .i64 j (by omega), xor_w32, and1_w32, shr1_w32, eq1_w32, g1, g12, g13, g6, g16, g5]
      refine Br.of (fun h4 => ?_) (fun h4 => ?_)
      · simp -implicitDefEqProofs only [go_sem, h4, poly_w32, wrap_i64 (show -(9223372036854775808 : Int) ≤ ((j : Int) + 1) by omega) (show ((j : Int) + 1) < 9223372036854775808 by omega), g1, g12, g13, g6, g16, g5]
        refine ⟨m' - 1, by omega, _, Ext.refl _, j + 1, by omega, rfl, rfl, ?_⟩
        simp only [mixBits, mixBit, h4, if_true]
      · simp -implicitDefEqProofs only [go_sem, h4, poly_w32, wrap_i64 (show -(9223372036854775808 : Int) ≤ ((j : Int) + 1) by omega) (show ((j : Int) + 1) < 9223372036854775808 by omega), g1, g12, g13, g6, g16, g5]
        refine ⟨m' - 1, by omega, _, Ext.refl _, j + 1, by omega, rfl, rfl, ?_⟩
        simp only [mixBits, mixBit, h4, if_false]
    · have e : j = 8 := by omega
      subst e
      simp -implicitDefEqProofs only [go_sem, Int.lt_irrefl, show ¬ (((8 : Nat) : Int) < 8) by omega, wrap_i64 (show -(9223372036854775808 : Int) ≤ ((k : Int) + 1) by omega) (show ((k : Int) + 1) < 9223372036854775808 by omega), g1, g12, g13, g6, g16, g5]
      refine ⟨m - 1, by omega, _, Ext.refl _, k + 1, by omega, rfl, rfl, ?_⟩
      rw [crcL_take _ _ _ hk, mix_byte]
  · have e : k = l.length := by omega
    subst e
    skip
    simp -implicitDefEqProofs only [go_sem, f1, f12, f13, f5, Int.lt_irrefl, Nat.lt_irrefl, Int.ofNat_lt, not_w32, List.take_length]
/-- spec.l01Crc -/
def b_spec_l01Crc : C := (.seq (.ops [q 4 (.mv (.c (i64 0)))])
 (.seq (.ops [q 8 (.mv (.t 0)), q 9 (.cv .u32 (.t 8)), q 10 (.bin .xor (.t 9) (.c (.int .u32 4294967295))), q 5 (.mv (.t 10))])
 (.seq (.seq (.ops [q 6 (.mv (.c (i64 0)))])
 (.block 0 (.loop (.seq (.seq (.ops [q 11 (.mv (.t 6)), q 12 (.mv (.t 1)), q 13 (.slen (.t 12)), q 14 (.bin .lss (.t 11) (.t 13))])
 (.cond (.t 14) .skip (.exit 0)))
 (.seq (.block 1 (.seq (.ops [q 17 (.mv (.t 5)), q 18 (.mv (.t 1)), q 19 (.mv (.t 6)), q 20 (.sidx (.t 18) (.t 19)), q 21 (.cv .u32 (.t 20)), q 22 (.bin .xor (.t 17) (.t 21)), q 5 (.mv (.t 22))])
 (.seq (.ops [q 7 (.mv (.c (i64 0)))])
 (.block 2 (.loop (.seq (.seq (.ops [q 23 (.mv (.t 7)), q 24 (.bin .lss (.t 23) (.c (i64 8)))])
 (.cond (.t 24) .skip (.exit 2)))
 (.seq (.block 3 (.seq (.ops [q 27 (.mv (.t 5)), q 28 (.bin .and (.t 27) (.c (.int .u32 1))), q 29 (.bin .eql (.t 28) (.c (.int .u32 1)))])
 (.cond (.t 29) (.ops [q 30 (.mv (.t 5)), q 31 (.bin .shr (.t 30) (.c (.int .u64 1))), q 32 (.bin .xor (.t 31) (.c (.int .u32 3988292384))), q 5 (.mv (.t 32))]) (.ops [q 33 (.mv (.t 5)), q 34 (.bin .shr (.t 33) (.c (.int .u64 1))), q 5 (.mv (.t 34))]))))
 (.ops [q 25 (.mv (.t 7)), q 26 (.bin .add (.t 25) (.c (i64 1))), q 7 (.mv (.t 26))]))))))))
 (.ops [q 15 (.mv (.t 6)), q 16 (.bin .add (.t 15) (.c (i64 1))), q 6 (.mv (.t 16))]))))))
 (.seq (.ops [q 35 (.mv (.t 5)), q 36 (.bin .xor (.t 35) (.c (.int .u32 4294967295))), q 37 (.cv .i64 (.t 36)), q 4 (.mv (.t 37))])
 .ret))))
theorem w_spec_l01Crc {args : List Value} {h : H} {Q : Value → H → Prop} (hl : args.length ≤ 38) (hk : wpc Tryz.prog b_spec_l01Crc (retw [.tmp 4] Q) (argsFr args) h) : AC Tryz.prog 105 args h Q :=
  AC.of_wpc mixedOrders Tryz.func105 (by kernel_rfl) (by kernel_rfl : prepF Tryz.prog Tryz.f105 = some ⟨38, [.tmp 4], b_spec_l01Crc⟩) hl hk

theorem l01Crc_pc (h : H) (r : BitVec 32) (l : List UInt8) (hl : l.length ≤ 1099511627776) : PC Tryz.prog 105 [i64 r.toNat, str l] h (i64 (~~~ (crcL (~~~ r) l)).toNat) := by
  refine w_spec_l01Crc (by simp) ?_
  unfold b_spec_l01Crc
  simp -implicitDefEqProofs only [go_sem, wrap_u32v, ones_w32]
  refine loopW_of (fun m f h' => ∃ k, m + k = l.length ∧ h' = h ∧ f 1 = str l ∧ f 6 = i64 k ∧ f 5 = w32 (crcL (~~~ r) (l.take k))) l.length
    ⟨0, by simp, rfl, by simp -implicitDefEqProofs only [go_sem], by simp -implicitDefEqProofs only [go_sem]; rfl, by simp -implicitDefEqProofs only [go_sem]; rfl⟩ ?_
  rintro m f h' ⟨k, hm, rfl, f1, f6, f5⟩
  by_cases hk : k < l.length
  · have hb : l[k]? = some l[k] := by simp [hk]
    simp -implicitDefEqProofs only [go_sem, f1, f6, f5, hk, Int.ofNat_lt, Int.natCast_nonneg, hb, wrap_b32, xor_w32]
    refine loopW_of (fun m' g h'' => ∃ j : Nat, m' + j = 8 ∧ h'' = h' ∧ g 1 = str l ∧ g 6 = i64 k ∧ g 7 = i64 j ∧ g 5 = w32 (crcBits j (crcL (~~~ r) (l.take k) ^^^ b32 l[k]))) 8
      ⟨0, by simp, rfl, by simp -implicitDefEqProofs only [go_sem, f1], by simp -implicitDefEqProofs only [go_sem, f6], by simp -implicitDefEqProofs only [go_sem]; rfl, by simp -implicitDefEqProofs only [go_sem]; rfl⟩ ?_
    rintro m' g h'' ⟨j, hm', rfl, g1, g6, g7, g5⟩
    skip
    by_cases hj : j < 8
    · simp -implicitDefEqProofs only [go_sem, show (j : Int) < 8 by omega, and1_w32, eq1_w32, g1, g6, g7, g5]
      refine Br.of (fun h4 => ?_) (fun h4 => ?_)
      · simp -implicitDefEqProofs only [go_sem, h4, shr1_w32, poly_w32, wrap_i64 (show -(9223372036854775808 : Int) ≤ ((j : Int) + 1) by omega) (show ((j : Int) + 1) < 9223372036854775808 by omega), g1, g6, g7, g5]
        refine ⟨m' - 1, by omega, _, Ext.refl _, j + 1, by omega, rfl, rfl, ?_⟩
        simp only [crcBits, crcBit, h4, if_true]
      · simp -implicitDefEqProofs only [go_sem, h4, shr1_w32, poly_w32, wrap_i64 (show -(9223372036854775808 : Int) ≤ ((j : Int) + 1) by omega) (show ((j : Int) + 1) < 9223372036854775808 by omega), g1, g6, g7, g5]
        refine ⟨m' - 1, by omega, _, Ext.refl _, j + 1, by omega, rfl, rfl, ?_⟩
        simp only [crcBits, crcBit, h4, if_false]
    · have e : j = 8 := by omega
      subst e
      simp -implicitDefEqProofs only [go_sem, Int.lt_irrefl, show ¬ (((8 : Nat) : Int) < 8) by omega, wrap_i64 (show -(9223372036854775808 : Int) ≤ ((k : Int) + 1) by omega) (show ((k : Int) + 1) < 9223372036854775808 by omega), g1, g6, g7, g5]
      refine ⟨m - 1, by omega, _, Ext.refl _, k + 1, by omega, rfl, rfl, ?_⟩
      rw [crcL_take _ _ _ hk]
      rfl
  · have e : k = l.length := by omega
    subst e
    skip
    simp -implicitDefEqProofs only [go_sem, f1, f6, f5, Int.lt_irrefl, Nat.lt_irrefl, Int.ofNat_lt, ones_w32, wrap_i64_32, List.take_length]
/-- impl.putNum -/
def b_impl_putNum : C := (.seq (.ops [q 2 (.mv (.c (str [])))])
 (.seq (.ops [q 5 (.mv (.t 0)), q 6 (.cv .u64 (.t 5)), q 7 (.bin .shl (.t 6) (.c (.int .u64 1))), q 3 (.mv (.t 7))])
 (.seq (.seq (.ops [q 8 (.mv (.t 0)), q 9 (.bin .lss (.t 8) (.c (i64 0)))])
 (.cond (.t 9) (.ops [q 10 (.mv (.t 3)), q 11 (.un .xor (.t 10)), q 3 (.mv (.t 11))]) .skip))
 (.seq (.ops [q 4 (.mv (.c nils))])
 (.seq (.block 0 (.loop (.seq (.seq (.ops [q 12 (.mv (.t 3)), q 13 (.bin .gtr (.t 12) (.c (.int .u64 127)))])
 (.cond (.t 13) .skip (.exit 0)))
 (.seq (.block 1 (.ops [q 16 (.mv (.t 4)), q 17 (.mv (.t 3)), q 18 (.cv .u8 (.t 17)), q 19 (.bin .or (.t 18) (.c (u8 128))), ⟨(some 20), none, .bsl 1 [(u8 0)] [(0, 1, (.t 19))]⟩, ⟨(some 21), none, .app 1 1 (.t 16) (.t 20)⟩, q 4 (.mv (.t 21))]))
 (.ops [q 14 (.mv (.t 3)), q 15 (.bin .shr (.t 14) (.c (.int .u64 7))), q 3 (.mv (.t 15))])))))
 (.seq (.ops [q 22 (.mv (.t 4)), q 23 (.mv (.t 3)), q 24 (.cv .u8 (.t 23)), ⟨(some 25), none, .bsl 1 [(u8 0)] [(0, 1, (.t 24))]⟩, ⟨(some 26), none, .app 1 1 (.t 22) (.t 25)⟩, q 27 (.b2s (.t 26)), q 2 (.mv (.t 27))])
 .ret))))))
theorem w_impl_putNum {args : List Value} {h : H} {Q : Value → H → Prop} (hl : args.length ≤ 28) (hk : wpc Tryz.prog b_impl_putNum (retw [.tmp 2] Q) (argsFr args) h) : AC Tryz.prog 94 args h Q :=
  AC.of_wpc mixedOrders Tryz.func94 (by kernel_rfl) (by kernel_rfl : prepF Tryz.prog Tryz.f94 = some ⟨28, [.tmp 2], b_impl_putNum⟩) hl hk

theorem putNum_pc (h : H) (n : Int) (hn : in64 n) : PC Tryz.prog 94 [i64 n] h (str (putNum n)) := by
  unfold in64 at hn
  refine PC_of ?_
  by_cases hneg : n < 0
  · obtain ⟨x, hx⟩ : ∃ x : Nat, (x : Int) = 2 * n + 18446744073709551616 := ⟨(2 * n + 18446744073709551616).toNat, by omega⟩
    have e1 : obin .shl (.int .u64 (n % 18446744073709551616)) (.int .u64 1) = some (.int .u64 (x : Int)) := by
      rw [bi_shl, if_neg (by omega), wrap_u64m]
      congr 2
      show (n % 18446744073709551616 * 2 ^ 1) % 18446744073709551616 = _
      omega
    have e2 : (18446744073709551615 - x : Nat) = zig n := by unfold zig; rw [if_pos hneg]; omega
    refine w_impl_putNum (by simp) ?_
    unfold b_impl_putNum
    simp -implicitDefEqProofs only [go_sem, wrap_u64m, e1, hneg, not_u64 x (by omega), e2]
    refine loopW_of (fun m f h' => ∃ (u : Nat) (acc : List UInt8) (v : Value), m = u ∧ f 3 = .int .u64 (u : Int) ∧ f 4 = v ∧ acc ++ leb u = putNum n ∧ u < 18446744073709551616 ∧ Ext h h' ∧ Own h h' v 1 (bys acc)) (zig n)
      ⟨zig n, [], nils, rfl, by simp -implicitDefEqProofs only [go_sem], by simp -implicitDefEqProofs only [go_sem], rfl, zig_lt hn, Ext.refl _, Own.nil _ _ _⟩ ?_
    rintro m f h' ⟨u, acc, v, hmu, f3, rfl, hacc, hu, he, ho⟩
    obtain ⟨a, c, f4⟩ := ho.shape
    rw [f4] at ho
    have hlen : acc.length ≤ 10 := by have := putNum_le hn; rw [← hacc] at this; simp at this; omega
    by_cases h127 : u < 128
    · simp -implicitDefEqProofs only [go_sem, f3, f4, show ¬ (127 : Int) < (u : Int) by omega, wrap_ofNat]
      intro b1 hb_b1 n_b1
      simp -implicitDefEqProofs only [go_sem, hb_b1]
      refine appW_own (new := [[.int .u8 ((UInt8.ofNat u).toNat : Int)]]) (he.set n_b1 _) (ho.ext ((Ext.refl _).set n_b1 _)) rfl (by intro r hr; simp at hr; subst hr; rfl) rfl (by simp; omega) ?_
      intro v' h'' he2 ho2 _
      simp -implicitDefEqProofs only [go_sem, hb_b1]
      refine b2s_own (l := acc ++ [UInt8.ofNat u]) (by simpa using ho2) ?_
      simp -implicitDefEqProofs only [go_sem, hb_b1]
      rw [leb_lt h127] at hacc
      rw [hacc]
      exact ⟨he2, rfl⟩
    · skip
      simp -implicitDefEqProofs only [go_sem, f3, f4, show (127 : Int) < (u : Int) by omega, wrap_ofNat, or128]
      intro b2 hb_b2 n_b2
      simp -implicitDefEqProofs only [go_sem, hb_b2]
      refine appW_own (new := [[.int .u8 ((UInt8.ofNat (u % 128 + 128)).toNat : Int)]]) (he.set n_b2 _) (ho.ext ((Ext.refl _).set n_b2 _)) rfl (by intro r hr; simp at hr; subst hr; rfl) rfl (by simp; omega) ?_
      intro v' h'' he2 ho2 _
      have e7 : obin .shr (.int .u64 (u : Int)) (.int .u64 7) = some (.int .u64 ((u / 128 : Nat) : Int)) := by
        rw [bi_shr, if_neg (by omega)]
        congr 2
        rw [Int.fdiv_eq_ediv_of_nonneg _ (by decide)]
        norm_cast
      simp -implicitDefEqProofs only [go_sem, f3, e7, hb_b2]
      rw [leb_ge h127] at hacc
      exact ⟨u / 128, by omega, h'', Ext.refl _, u / 128, acc ++ [UInt8.ofNat (u % 128 + 128)], v', rfl, rfl, rfl, by simpa using hacc, by omega, he2, by simpa using ho2⟩
  · obtain ⟨x, hx⟩ : ∃ x : Nat, (x : Int) = n := ⟨n.toNat, by omega⟩
    have e1 : obin .shl (.int .u64 (n % 18446744073709551616)) (.int .u64 1) = some (.int .u64 (zig n : Int)) := by
      rw [bi_shl, if_neg (by omega), wrap_u64m]
      congr 2
      show (n % 18446744073709551616 * 2 ^ 1) % 18446744073709551616 = _
      unfold zig; rw [if_neg hneg]; omega
    skip
    refine w_impl_putNum (by simp) ?_
    unfold b_impl_putNum
    simp -implicitDefEqProofs only [go_sem, wrap_u64m, e1, hneg]
    refine loopW_of (fun m f h' => ∃ (u : Nat) (acc : List UInt8) (v : Value), m = u ∧ f 3 = .int .u64 (u : Int) ∧ f 4 = v ∧ acc ++ leb u = putNum n ∧ u < 18446744073709551616 ∧ Ext h h' ∧ Own h h' v 1 (bys acc)) (zig n)
      ⟨zig n, [], nils, rfl, by simp -implicitDefEqProofs only [go_sem], by simp -implicitDefEqProofs only [go_sem], rfl, zig_lt hn, Ext.refl _, Own.nil _ _ _⟩ ?_
    rintro m f h' ⟨u, acc, v, hmu, f3, rfl, hacc, hu, he, ho⟩
    obtain ⟨a, c, f4⟩ := ho.shape
    rw [f4] at ho
    have hlen : acc.length ≤ 10 := by have := putNum_le hn; rw [← hacc] at this; simp at this; omega
    by_cases h127 : u < 128
    · simp -implicitDefEqProofs only [go_sem, f3, f4, show ¬ (127 : Int) < (u : Int) by omega, wrap_ofNat]
      intro b1 hb_b1 n_b1
      simp -implicitDefEqProofs only [go_sem, hb_b1]
      refine appW_own (new := [[.int .u8 ((UInt8.ofNat u).toNat : Int)]]) (he.set n_b1 _) (ho.ext ((Ext.refl _).set n_b1 _)) rfl (by intro r hr; simp at hr; subst hr; rfl) rfl (by simp; omega) ?_
      intro v' h'' he2 ho2 _
      simp -implicitDefEqProofs only [go_sem, hb_b1]
      refine b2s_own (l := acc ++ [UInt8.ofNat u]) (by simpa using ho2) ?_
      simp -implicitDefEqProofs only [go_sem, hb_b1]
      rw [leb_lt h127] at hacc
      rw [hacc]
      exact ⟨he2, rfl⟩
    · skip
      simp -implicitDefEqProofs only [go_sem, f3, f4, show (127 : Int) < (u : Int) by omega, wrap_ofNat, or128]
      intro b2 hb_b2 n_b2
      simp -implicitDefEqProofs only [go_sem, hb_b2]
      refine appW_own (new := [[.int .u8 ((UInt8.ofNat (u % 128 + 128)).toNat : Int)]]) (he.set n_b2 _) (ho.ext ((Ext.refl _).set n_b2 _)) rfl (by intro r hr; simp at hr; subst hr; rfl) rfl (by simp; omega) ?_
      intro v' h'' he2 ho2 _
      have e7 : obin .shr (.int .u64 (u : Int)) (.int .u64 7) = some (.int .u64 ((u / 128 : Nat) : Int)) := by
        rw [bi_shr, if_neg (by omega)]
        congr 2
        rw [Int.fdiv_eq_ediv_of_nonneg _ (by decide)]
        norm_cast
      simp -implicitDefEqProofs only [go_sem, f3, e7, hb_b2]
      rw [leb_ge h127] at hacc
      exact ⟨u / 128, by omega, h'', Ext.refl _, u / 128, acc ++ [UInt8.ofNat (u % 128 + 128)], v', rfl, rfl, rfl, by simpa using hacc, by omega, he2, by simpa using ho2⟩
/-- spec.l01Fold -/
def b_spec_l01Fold : C := (.seq (.ops [q 2 (.mv (.c (.int .u64 0)))])
 (.seq (.seq (.ops [q 3 (.mv (.t 0)), q 4 (.bin .lss (.t 3) (.c (i64 0)))])
 (.cond (.t 4) (.seq (.ops [q 5 (.mv (.t 0)), q 6 (.bin .add (.t 5) (.c (i64 1))), q 7 (.un .neg (.t 6)), q 8 (.cv .u64 (.t 7)), q 9 (.bin .mul (.c (.int .u64 2)) (.t 8)), q 10 (.bin .add (.t 9) (.c (.int .u64 1))), q 2 (.mv (.t 10))])
 .ret) .skip))
 (.seq (.ops [q 11 (.mv (.t 0)), q 12 (.cv .u64 (.t 11)), q 13 (.bin .mul (.c (.int .u64 2)) (.t 12)), q 2 (.mv (.t 13))])
 .ret)))
theorem w_spec_l01Fold {args : List Value} {h : H} {Q : Value → H → Prop} (hl : args.length ≤ 14) (hk : wpc Tryz.prog b_spec_l01Fold (retw [.tmp 2] Q) (argsFr args) h) : AC Tryz.prog 113 args h Q :=
  AC.of_wpc mixedOrders Tryz.func113 (by kernel_rfl) (by kernel_rfl : prepF Tryz.prog Tryz.f113 = some ⟨14, [.tmp 2], b_spec_l01Fold⟩) hl hk

theorem l01Fold_pc (h : H) (n : Int) (hn : in64 n) : PC Tryz.prog 113 [i64 n] h (.int .u64 (zig n : Int)) := by
  unfold in64 at hn
  unfold zig
  refine w_spec_l01Fold (by simp) ?_
  unfold b_spec_l01Fold
  simp -implicitDefEqProofs only [go_sem]
  by_cases hneg : n < 0
  · simp -implicitDefEqProofs only [go_sem, hneg, wrap_i64 (show -(9223372036854775808 : Int) ≤ (n + 1) by omega) (show (n + 1) < 9223372036854775808 by omega), wrap_i64 (show -(9223372036854775808 : Int) ≤ (0 - (n + 1)) by omega) (show (0 - (n + 1)) < 9223372036854775808 by omega), wrap_u64 (show 0 ≤ 0 - (n + 1) by omega) (show 0 - (n + 1) < 18446744073709551616 by omega), wrap_u64 (show 0 ≤ 2 * (0 - (n + 1)) by omega) (show 2 * (0 - (n + 1)) < 18446744073709551616 by omega), wrap_u64 (show 0 ≤ 2 * (0 - (n + 1)) + 1 by omega) (show 2 * (0 - (n + 1)) + 1 < 18446744073709551616 by omega)]
    congr 1; omega
  · simp -implicitDefEqProofs only [go_sem, hneg, wrap_u64 (show 0 ≤ n by omega) (show n < 18446744073709551616 by omega), wrap_u64 (show 0 ≤ 2 * n by omega) (show 2 * n < 18446744073709551616 by omega)]
    congr 1; omega
/-- spec.PutNum -/
def b_spec_PutNum : C := (.seq (.ops [q 2 (.mv (.c (str [])))])
 (.seq (.ops [q 5 (.mv (.t 0)), ⟨(some 6), none, .call (.c (.func (.func 113) #[] #[])) [(.t 5)]⟩, q 3 (.mv (.t 6))])
 (.seq (.ops [⟨(some 7), none, .bsl 0 [] []⟩, q 4 (.mv (.t 7))])
 (.seq (.block 0 (.loop (.seq (.seq (.ops [q 8 (.mv (.t 3)), q 9 (.bin .geq (.t 8) (.c (.int .u64 128)))])
 (.cond (.t 9) .skip (.exit 0)))
 (.block 1 (.seq (.ops [q 10 (.mv (.t 4)), q 11 (.mv (.t 3)), q 12 (.bin .rem (.t 11) (.c (.int .u64 128))), q 13 (.bin .add (.t 12) (.c (.int .u64 128))), q 14 (.cv .u8 (.t 13)), ⟨(some 15), none, .bsl 1 [(u8 0)] [(0, 1, (.t 14))]⟩, ⟨(some 16), none, .app 1 1 (.t 10) (.t 15)⟩, q 4 (.mv (.t 16))])
 (.ops [q 17 (.mv (.t 3)), q 18 (.bin .quo (.t 17) (.c (.int .u64 128))), q 3 (.mv (.t 18))]))))))
 (.seq (.ops [q 19 (.mv (.t 4)), q 20 (.mv (.t 3)), q 21 (.cv .u8 (.t 20)), ⟨(some 22), none, .bsl 1 [(u8 0)] [(0, 1, (.t 21))]⟩, ⟨(some 23), none, .app 1 1 (.t 19) (.t 22)⟩, q 24 (.b2s (.t 23)), q 2 (.mv (.t 24))])
 .ret)))))
theorem w_spec_PutNum {args : List Value} {h : H} {Q : Value → H → Prop} (hl : args.length ≤ 25) (hk : wpc Tryz.prog b_spec_PutNum (retw [.tmp 2] Q) (argsFr args) h) : AC Tryz.prog 55 args h Q :=
  AC.of_wpc mixedOrders Tryz.func55 (by kernel_rfl) (by kernel_rfl : prepF Tryz.prog Tryz.f55 = some ⟨25, [.tmp 2], b_spec_PutNum⟩) hl hk

theorem specPutNum_pc (h : H) (n : Int) (hn : in64 n) : PC Tryz.prog 55 [i64 n] h (str (putNum n)) := by
  have hn0 := hn
  unfold in64 at hn
  refine PC_of ?_
  refine w_spec_PutNum (by simp) ?_
  unfold b_spec_PutNum
  simp -implicitDefEqProofs only [go_sem]
  refine (l01Fold_pc _ n hn0).use ?_
  simp -implicitDefEqProofs only [go_sem]
  intro b0 hb_b0 n_b0
  simp -implicitDefEqProofs only [go_sem, hb_b0]
  refine loopW_of (fun m f h' => ∃ (u : Nat) (acc : List UInt8) (v : Value), m = u ∧ f 3 = .int .u64 (u : Int) ∧ f 4 = v ∧ acc ++ leb u = putNum n ∧ u < 18446744073709551616 ∧ Ext h h' ∧ Own h h' v 1 (bys acc)) (zig n)
    ⟨zig n, [], sl b0 0 0 0, rfl, by simp -implicitDefEqProofs only [go_sem, hb_b0], by simp -implicitDefEqProofs only [go_sem, hb_b0], rfl, zig_lt hn, ((Ext.refl _).set' n_b0 _), .inr ⟨b0, 0, 0, rfl, Nat.le_refl _, hb_b0, n_b0, H.set_get_same _ _ _, Nat.le_refl _, Wid.nil _⟩⟩ ?_
  rintro m f h' ⟨u, acc, v, hmu, f3, rfl, hacc, hu, he, ho⟩
  skip
  obtain ⟨a, c, f4⟩ := ho.shape
  rw [f4] at ho
  have hlen : acc.length ≤ 10 := by have := putNum_le hn; rw [← hacc] at this; simp at this; omega
  by_cases h127 : u < 128
  · simp -implicitDefEqProofs only [go_sem, f3, f4, show ¬ (128 : Int) ≤ (u : Int) by omega, wrap_ofNat]
    intro b1 hb_b1 n_b1
    simp -implicitDefEqProofs only [go_sem, hb_b1]
    refine appW_own (new := [[.int .u8 ((UInt8.ofNat u).toNat : Int)]]) (he.set n_b1 _) (ho.ext ((Ext.refl _).set n_b1 _)) rfl (by intro r hr; simp at hr; subst hr; rfl) rfl (by simp; omega) ?_
    intro v' h'' he2 ho2 _
    simp -implicitDefEqProofs only [go_sem, hb_b1]
    refine b2s_own (l := acc ++ [UInt8.ofNat u]) (by simpa using ho2) ?_
    simp -implicitDefEqProofs only [go_sem, hb_b1]
    rw [leb_lt h127] at hacc
    rw [hacc]
    exact ⟨he2, rfl⟩
  · skip
    have e5 : obin .rem (.int .u64 (u : Int)) (.int .u64 128) = some (.int .u64 ((u % 128 : Nat) : Int)) := by
      rw [bi_rem, if_neg (by omega), Int.tmod_eq_emod_of_nonneg (by omega)]
      norm_cast
    have e6 : IntKind.u64.wrap (((u % 128 : Nat) : Int) + 128) = ((u % 128 + 128 : Nat) : Int) := by
      rw [wrap_u64 (by omega) (by omega)]; norm_cast
    simp -implicitDefEqProofs only [go_sem, f3, f4, show (128 : Int) ≤ (u : Int) by omega, e5, e6, wrap_ofNat]
    intro b2 hb_b2 n_b2
    simp -implicitDefEqProofs only [go_sem, hb_b2]
    refine appW_own (new := [[.int .u8 ((UInt8.ofNat (u % 128 + 128)).toNat : Int)]]) (he.set n_b2 _) (ho.ext ((Ext.refl _).set n_b2 _)) rfl (by intro r hr; simp at hr; subst hr; rfl) rfl (by simp; omega) ?_
    intro v' h'' he2 ho2 _
    have e7 : obin .quo (.int .u64 (u : Int)) (.int .u64 128) = some (.int .u64 ((u / 128 : Nat) : Int)) := by
      rw [bi_quo, if_neg (by omega), Int.tdiv_eq_ediv_of_nonneg (by omega), wrap_u64 (by omega) (by omega)]
      norm_cast
    simp -implicitDefEqProofs only [go_sem, f3, e7, hb_b2]
    rw [leb_ge h127] at hacc
    exact ⟨u / 128, by omega, h'', Ext.refl _, u / 128, acc ++ [UInt8.ofNat (u % 128 + 128)], v', rfl, rfl, rfl, by simpa using hacc, by omega, he2, by simpa using ho2⟩
/-- impl.putText -/
def b_impl_putText : C := (.seq (.ops [q 2 (.mv (.c (str [])))])
 (.seq (.ops [q 3 (.mv (.t 0)), q 4 (.slen (.t 3)), ⟨(some 5), none, .call (.c (.func (.func 94) #[] #[])) [(.t 4)]⟩, q 6 (.mv (.t 0)), q 7 (.bin .add (.t 5) (.t 6)), q 2 (.mv (.t 7))])
 .ret))
theorem w_impl_putText {args : List Value} {h : H} {Q : Value → H → Prop} (hl : args.length ≤ 8) (hk : wpc Tryz.prog b_impl_putText (retw [.tmp 2] Q) (argsFr args) h) : AC Tryz.prog 95 args h Q :=
  AC.of_wpc mixedOrders Tryz.func95 (by kernel_rfl) (by kernel_rfl : prepF Tryz.prog Tryz.f95 = some ⟨8, [.tmp 2], b_impl_putText⟩) hl hk

theorem putText_pc (h : H) (t : List UInt8) (ht : t.length ≤ 1099511627776) : PC Tryz.prog 95 [str t] h (str (putText t)) := by
  have hn : in64 (t.length : Int) := by unfold in64; omega
  have hl := putNum_le hn
  refine w_impl_putText (by simp) ?_
  unfold b_impl_putText
  simp -implicitDefEqProofs only [go_sem]
  refine (putNum_pc _ _ hn).use ?_
  simp -implicitDefEqProofs only [go_sem]
  refine Req.of (by omega) ?_
  simp -implicitDefEqProofs only [go_sem]
  rfl
/-- spec.PutText -/
def b_spec_PutText : C := (.seq (.ops [q 2 (.mv (.c (str [])))])
 (.seq (.seq (.ops [q 3 (.mv (.t 0)), q 4 (.slen (.t 3)), q 5 (.bin .gtr (.t 4) (.c (i64 8000)))])
 (.cond (.t 5) (.seq (.ops [q 2 (.mv (.c (str [])))])
 .ret) .skip))
 (.seq (.ops [q 6 (.mv (.t 0)), q 7 (.slen (.t 6)), ⟨(some 8), none, .call (.c (.func (.func 55) #[] #[])) [(.t 7)]⟩, q 9 (.mv (.t 0)), q 10 (.bin .add (.t 8) (.t 9)), q 2 (.mv (.t 10))])
 .ret)))
theorem w_spec_PutText {args : List Value} {h : H} {Q : Value → H → Prop} (hl : args.length ≤ 11) (hk : wpc Tryz.prog b_spec_PutText (retw [.tmp 2] Q) (argsFr args) h) : AC Tryz.prog 56 args h Q :=
  AC.of_wpc mixedOrders Tryz.func56 (by kernel_rfl) (by kernel_rfl : prepF Tryz.prog Tryz.f56 = some ⟨11, [.tmp 2], b_spec_PutText⟩) hl hk

theorem specPutText_pc (h : H) (t : List UInt8) (ht : t.length ≤ 8000) : PC Tryz.prog 56 [str t] h (str (putText t)) := by
  have hn : in64 (t.length : Int) := by unfold in64; omega
  have hl := putNum_le hn
  refine w_spec_PutText (by simp) ?_
  unfold b_spec_PutText
  simp -implicitDefEqProofs only [go_sem, show ¬ (8000 : Int) < (t.length : Int) by omega]
  refine (specPutNum_pc _ _ hn).use ?_
  simp -implicitDefEqProofs only [go_sem]
  refine Req.of (by omega) ?_
  simp -implicitDefEqProofs only [go_sem]
  rfl
/-- spec.l01Four -/
def b_spec_l01Four : C := (.seq (.ops [q 2 (.mv (.c (str [])))])
 (.seq (.ops [q 3 (.mv (.t 0)), q 4 (.cv .u8 (.t 3)), q 5 (.mv (.t 0)), q 6 (.bin .shr (.t 5) (.c (.int .u64 8))), q 7 (.cv .u8 (.t 6)), q 8 (.mv (.t 0)), q 9 (.bin .shr (.t 8) (.c (.int .u64 16))), q 10 (.cv .u8 (.t 9)), q 11 (.mv (.t 0)), q 12 (.bin .shr (.t 11) (.c (.int .u64 24))), q 13 (.cv .u8 (.t 12)), ⟨(some 14), none, .bsl 4 [(u8 0), (u8 0), (u8 0), (u8 0)] [(0, 1, (.t 4)), (1, 1, (.t 7)), (2, 1, (.t 10)), (3, 1, (.t 13))]⟩, q 15 (.b2s (.t 14)), q 2 (.mv (.t 15))])
 .ret))
theorem w_spec_l01Four {args : List Value} {h : H} {Q : Value → H → Prop} (hl : args.length ≤ 16) (hk : wpc Tryz.prog b_spec_l01Four (retw [.tmp 2] Q) (argsFr args) h) : AC Tryz.prog 104 args h Q :=
  AC.of_wpc mixedOrders Tryz.func104 (by kernel_rfl) (by kernel_rfl : prepF Tryz.prog Tryz.f104 = some ⟨16, [.tmp 2], b_spec_l01Four⟩) hl hk

theorem l01Four_pc (h : H) (x : BitVec 32) : PC Tryz.prog 104 [i64 x.toNat] h (str (four x)) := by
  refine PC_of ?_
  refine w_spec_l01Four (by simp) ?_
  unfold b_spec_l01Four
  simp -implicitDefEqProofs only [go_sem, wrap_ofNat, shr8 .i64 _ (by decide), shr16 .i64 _ (by decide), shr24 .i64 _ (by decide)]
  intro b1 hb_b1 n_b1
  simp -implicitDefEqProofs only [go_sem, bytesOf_cons, bytesOf_nil, UInt8.ofNat_toNat, hb_b1]
  exact ⟨((Ext.refl _).set' n_b1 _), rfl⟩
/-- impl.seal -/
def b_impl_seal : C := (.seq (.ops [q 2 (.mv (.c (str [])))])
 (.seq (.ops [q 4 (.mv (.t 0)), ⟨(some 5), none, .call (.c (.func (.func 182) #[] #[])) [(.c (.int .u32 0)), (.t 4)]⟩, q 3 (.mv (.t 5))])
 (.seq (.ops [q 6 (.mv (.t 0)), q 7 (.mv (.t 3)), q 8 (.cv .u8 (.t 7)), q 9 (.mv (.t 3)), q 10 (.bin .shr (.t 9) (.c (.int .u64 8))), q 11 (.cv .u8 (.t 10)), q 12 (.mv (.t 3)), q 13 (.bin .shr (.t 12) (.c (.int .u64 16))), q 14 (.cv .u8 (.t 13)), q 15 (.mv (.t 3)), q 16 (.bin .shr (.t 15) (.c (.int .u64 24))), q 17 (.cv .u8 (.t 16)), ⟨(some 18), none, .bsl 4 [(u8 0), (u8 0), (u8 0), (u8 0)] [(0, 1, (.t 8)), (1, 1, (.t 11)), (2, 1, (.t 14)), (3, 1, (.t 17))]⟩, q 19 (.b2s (.t 18)), q 20 (.bin .add (.t 6) (.t 19)), q 2 (.mv (.t 20))])
 .ret)))
theorem w_impl_seal {args : List Value} {h : H} {Q : Value → H → Prop} (hl : args.length ≤ 21) (hk : wpc Tryz.prog b_impl_seal (retw [.tmp 2] Q) (argsFr args) h) : AC Tryz.prog 98 args h Q :=
  AC.of_wpc mixedOrders Tryz.func98 (by kernel_rfl) (by kernel_rfl : prepF Tryz.prog Tryz.f98 = some ⟨21, [.tmp 2], b_impl_seal⟩) hl hk

theorem seal_pc (h : H) (t : List UInt8) (ht : t.length ≤ 1099511627776) : PC Tryz.prog 98 [str t] h (str (sealB t)) := by
  have hc := crcMore_pc h 0#32 t ht
  refine PC_of ?_
  refine w_impl_seal (by simp) ?_
  unfold b_impl_seal
  simp -implicitDefEqProofs only [go_sem]
  refine PC.use hc ?_
  simp -implicitDefEqProofs only [go_sem, wrap_ofNat, shr8 .u32 _ (by decide), shr16 .u32 _ (by decide), shr24 .u32 _ (by decide)]
  intro b1 hb_b1 n_b1
  simp -implicitDefEqProofs only [go_sem, bytesOf_cons, bytesOf_nil, UInt8.ofNat_toNat, show t.length + 4 ≤ 4611686018427387904 by omega, hb_b1]
  exact ⟨((Ext.refl _).set' n_b1 _), rfl⟩
/-- spec.Seal -/
def b_spec_Seal : C := (.seq (.ops [q 2 (.mv (.c (str [])))])
 (.seq (.seq (.ops [q 3 (.mv (.t 0)), q 4 (.slen (.t 3)), q 5 (.bin .gtr (.t 4) (.c (i64 7996)))])
 (.cond (.t 5) (.seq (.ops [q 2 (.mv (.c (str [])))])
 .ret) .skip))
 (.seq (.ops [q 6 (.mv (.t 0)), q 7 (.mv (.t 0)), ⟨(some 8), none, .call (.c (.func (.func 105) #[] #[])) [(.c (i64 0)), (.t 7)]⟩, ⟨(some 9), none, .call (.c (.func (.func 104) #[] #[])) [(.t 8)]⟩, q 10 (.bin .add (.t 6) (.t 9)), q 2 (.mv (.t 10))])
 .ret)))
theorem w_spec_Seal {args : List Value} {h : H} {Q : Value → H → Prop} (hl : args.length ≤ 11) (hk : wpc Tryz.prog b_spec_Seal (retw [.tmp 2] Q) (argsFr args) h) : AC Tryz.prog 45 args h Q :=
  AC.of_wpc mixedOrders Tryz.func45 (by kernel_rfl) (by kernel_rfl : prepF Tryz.prog Tryz.f45 = some ⟨11, [.tmp 2], b_spec_Seal⟩) hl hk

theorem specSeal_pc (h : H) (t : List UInt8) (ht : t.length ≤ 7996) : PC Tryz.prog 45 [str t] h (str (sealB t)) := by
  have hc := l01Crc_pc h 0#32 t (by omega)
  refine w_spec_Seal (by simp) ?_
  unfold b_spec_Seal
  simp -implicitDefEqProofs only [go_sem, show ¬ (7996 : Int) < (t.length : Int) by omega]
  refine PC.use hc ?_
  simp -implicitDefEqProofs only [go_sem]
  refine (l01Four_pc _ _).use ?_
  simp -implicitDefEqProofs only [go_sem, four]
  refine Req.of (by omega) ?_
  simp -implicitDefEqProofs only [go_sem]
  rfl
/-- impl.putNums -/
def b_impl_putNums : C := (.seq (.ops [q 2 (.mv (.c (str [])))])
 (.seq (.ops [q 3 (.mv (.c (str [])))])
 (.seq (.seq (.ops [q 6 (.mv (.t 0)), q 7 (.len (.t 6)), q 8 (.mv (.c (i64 0)))])
 (.block 0 (.loop (.seq (.ops [q 9 (.bin .lss (.t 8) (.t 7))])
 (.seq (.cond (.t 9) .skip (.exit 0))
 (.seq (.block 1 (.seq (.ops [q 10 (.idx 1 (.t 6) (.t 8)), q 11 (.ld false 1 (.t 10)), q 5 (.mv (.t 11))])
 (.ops [q 12 (.mv (.t 3)), q 13 (.mv (.t 5)), ⟨(some 14), none, .call (.c (.func (.func 94) #[] #[])) [(.t 13)]⟩, q 15 (.bin .add (.t 12) (.t 14)), q 3 (.mv (.t 15))])))
 (.ops [q 16 (.bin .add (.t 8) (.c (i64 1))), q 8 (.mv (.t 16))])))))))
 (.seq (.ops [q 17 (.mv (.t 3)), q 2 (.mv (.t 17))])
 .ret))))
theorem w_impl_putNums {args : List Value} {h : H} {Q : Value → H → Prop} (hl : args.length ≤ 18) (hk : wpc Tryz.prog b_impl_putNums (retw [.tmp 2] Q) (argsFr args) h) : AC Tryz.prog 181 args h Q :=
  AC.of_wpc mixedOrders Tryz.func181 (by kernel_rfl) (by kernel_rfl : prepF Tryz.prog Tryz.f181 = some ⟨18, [.tmp 2], b_impl_putNums⟩) hl hk

theorem putNums_pc {h : H} {v : Value} {l : List Int} (hv : Sl h v 1 (l.map fun n => [i64 n])) (hb : l.length ≤ 1000) (hl : ∀ n ∈ l, in64 n) : PC Tryz.prog 181 [v] h (str (l.flatMap putNum)) := by
  obtain ⟨a, c, b, o, rfl, hcap, h2, h3⟩ := hv
  simp only [List.length_map] at h2
  refine w_impl_putNums (by simp) ?_
  unfold b_impl_putNums
  simp -implicitDefEqProofs only [go_sem, List.length_map]
  refine loopW_of (fun m f h' => ∃ k, m + k = l.length ∧ h' = h ∧ f 6 = .slice a l.length c ∧ f 7 = i64 l.length ∧ f 8 = i64 k ∧ f 3 = str ((l.take k).flatMap putNum) ∧ ((l.take k).flatMap putNum).length ≤ 10 * k) l.length
    ⟨0, by simp, rfl, by simp -implicitDefEqProofs only [go_sem, List.length_map], by simp -implicitDefEqProofs only [go_sem, List.length_map], by simp -implicitDefEqProofs only [go_sem]; rfl, by simp -implicitDefEqProofs only [go_sem]; rfl, by simp⟩ ?_
  rintro m f h' ⟨k, hm, rfl, f6, f7, f8, f3, hlen⟩
  skip
  by_cases hk : k < l.length
  · have e1 := h3 k [i64 l[k]] (by simp [hk])
    have hn := hl l[k] (List.getElem_mem hk)
    have h10 := putNum_le hn
    have e2 : (l.take (k + 1)).flatMap putNum = (l.take k).flatMap putNum ++ putNum l[k] := by
      rw [List.take_succ_eq_append_getElem hk, List.flatMap_append]; simp
    simp -implicitDefEqProofs only [go_sem, hk, e1, f6, f7, f8, f3, h2, Int.ofNat_lt, Int.natCast_nonneg]
    refine (putNum_pc _ _ hn).use ?_
    simp -implicitDefEqProofs only [go_sem, f6, f7, f8, f3, h2, Int.ofNat_lt, Int.natCast_nonneg]
    refine Req.of (by omega) ?_
    simp -implicitDefEqProofs only [go_sem, wrap_i64 (show -(9223372036854775808 : Int) ≤ ((k : Int) + 1) by omega) (show ((k : Int) + 1) < 9223372036854775808 by omega), f6, f7, f8, f3, h2, Int.ofNat_lt, Int.natCast_nonneg]
    exact ⟨m - 1, by omega, h', Ext.refl _, k + 1, by omega, rfl, rfl, by rw [e2], by rw [e2, List.length_append]; omega⟩
  · have e : k = l.length := by omega
    subst e
    simp -implicitDefEqProofs only [go_sem, Nat.lt_irrefl, List.take_length, f6, f7, f8, f3, h2, Int.ofNat_lt, Int.natCast_nonneg]
end Go.Proofs.YthjbhdmjfakfaaaGreatDoor
