/- A helper of this seat's claims (contracts of the functions): what it shows is shown for every input that its statements name, on no other condition. -/
import Derived.Test.YthjbhdmjfakfaaaGreatDoorMCZ
set_option linter.unusedVariables false
set_option linter.unusedSimpArgs false
set_option maxRecDepth 100000
namespace Go.Proofs.YthjbhdmjfakfaaaGreatDoor
open Go.KH

/-! ## The digest of the program -/
/-- The package's two tables hold what they were laid with. -/
def Tabs (h : H) : Prop := RepR h [.s 1 (wsV shaStart.list), .s 1 (wsV keysL)] [sl 0 0 8 8, sl 1 0 64 64]
theorem Tabs.ext {h h' : H} (t : Tabs h) (e : Ext h h') : Tabs h' := RepR.ext t e
theorem keysL_get {k : Nat} (hk : k < 64) : keysL[k]? = some (shaKey k) := by simp [keysL, hk]
theorem Tabs.key {h : H} (t : Tabs h) {k : Nat} (hk : k < 64) : ldc h 1 k 1 = some [w32 (shaKey k)] := by
  obtain ⟨_, _, b, o, e, _, h2, h3⟩ := t.2.1
  cases e
  cases h2
  have := h3 k [w32 (shaKey k)] (by rw [wsV, List.getElem?_map, keysL_get hk]; rfl)
  rw [Nat.zero_add, Nat.mul_one] at this
  exact this
theorem Tabs.start {h : H} (t : Tabs h) : ldc h 0 0 8 = some (wcl shaStart.list) := by
  have s : Sl h (sl 0 0 8 8) 1 (wsV shaStart.list) := t.1
  exact srcOf_some (n := 7) rfl (s.src (Wid.map fun _ => rfl) (by decide))
theorem neg31 {k : Nat} (h : 1 ≤ k ∧ k ≤ 31) : (BitVec.ofNat 64 (18446744073709551616 - k) &&& 31#64).toNat = 32 - k := by
  have : ∀ j : Fin 31, (BitVec.ofNat 64 (18446744073709551616 - (j.1 + 1)) &&& 31#64).toNat = 32 - (j.1 + 1) := by decide
  have := this ⟨k - 1, by omega⟩
  simp only at this
  rw [show k - 1 + 1 = k by omega] at this
  exact this
/-- math/bits.RotateLeft32 -/
def b_math_bits_RotateLeft32 : C := (.seq (.ops [q 4 (.mv (.c (.int .u32 0)))])
 (.seq (.ops [q 6 (.mv (.t 1)), q 7 (.cv .u64 (.t 6)), q 8 (.bin .and (.t 7) (.c (.int .u64 31))), q 5 (.mv (.t 8))])
 (.seq (.ops [q 9 (.mv (.t 0)), q 10 (.mv (.t 5)), q 11 (.bin .shl (.t 9) (.t 10)), q 12 (.mv (.t 0)), q 13 (.mv (.t 5)), q 14 (.bin .sub (.c (.int .u64 32)) (.t 13)), q 15 (.bin .shr (.t 12) (.t 14)), q 16 (.bin .or (.t 11) (.t 15)), q 4 (.mv (.t 16))])
 .ret)))
theorem w_math_bits_RotateLeft32 {args : List Value} {h : H} {Q : Value → H → Prop} (hl : args.length ≤ 17) (hk : wpc Tryz.prog b_math_bits_RotateLeft32 (retw [.tmp 4] Q) (argsFr args) h) : AC Tryz.prog 237 args h Q :=
  AC.of_wpc mixedOrders Tryz.func237 (by kernel_rfl) (by kernel_rfl : prepF Tryz.prog Tryz.f237 = some ⟨17, [.tmp 4], b_math_bits_RotateLeft32⟩) hl hk

/-- impl.turned -/
def b_impl_turned : C := (.seq (.ops [q 4 (.mv (.c (.int .u32 0)))])
 (.seq (.ops [q 5 (.mv (.t 0)), q 6 (.mv (.t 1)), q 7 (.un .neg (.t 6)), ⟨(some 8), none, .call (.c (.func (.func 237) #[] #[])) [(.t 5), (.t 7)]⟩, q 4 (.mv (.t 8))])
 .ret))
theorem w_impl_turned {args : List Value} {h : H} {Q : Value → H → Prop} (hl : args.length ≤ 9) (hk : wpc Tryz.prog b_impl_turned (retw [.tmp 4] Q) (argsFr args) h) : AC Tryz.prog 226 args h Q :=
  AC.of_wpc mixedOrders Tryz.func226 (by kernel_rfl) (by kernel_rfl : prepF Tryz.prog Tryz.f226 = some ⟨9, [.tmp 4], b_impl_turned⟩) hl hk

theorem rot32_pc (h : H) (x : BitVec 32) {k : Nat} (hk : 1 ≤ k ∧ k ≤ 31) : PC Tryz.prog 237 [w32 x, i64 (-(k : Int))] h (w32 (rotW x k)) := by
  have e1 : IntKind.u64.wrap (-(k : Int)) = ((18446744073709551616 - k : Nat) : Int) := by rw [wrap_u64m]; omega
  have e2 : obin .and (.int .u64 ((18446744073709551616 - k : Nat) : Int)) (.int .u64 31) = some (.int .u64 ((32 - k : Nat) : Int)) := by
    rw [bi_and]
    have q1 : BitVec.ofInt IntKind.u64.bits ((18446744073709551616 - k : Nat) : Int) = BitVec.ofNat 64 (18446744073709551616 - k) := BitVec.ofInt_natCast ..
    rw [q1]
    show some (Value.int .u64 (IntKind.u64.wrap ((BitVec.ofNat 64 (18446744073709551616 - k) &&& 31#64).toNat : Int))) = _
    rw [neg31 hk, wrap_u64 (by omega) (by omega)]
  have e3 : IntKind.u64.wrap (32 - ((32 - k : Nat) : Int)) = (k : Int) := by rw [wrap_u64 (by omega) (by omega)]; omega
  have e4 : x <<< (32 - k) ||| x >>> k = rotW x k := BitVec.or_comm ..
  have e5 : (32 - ((32 - k : Nat) : Int)) = (k : Int) := by omega
  refine PC_of ?_
  refine w_math_bits_RotateLeft32 (by simp) ?_
  unfold b_math_bits_RotateLeft32
  simp -implicitDefEqProofs only [go_sem, e1, e2, e3, shl_w32 x .u64 (32 - k) (by omega), shr_w32 x .u64 k (by omega), or_w32, e4]
  exact Ext.refl _
theorem turned_pc (h : H) (x : BitVec 32) {k : Nat} (hk : 1 ≤ k ∧ k ≤ 31) : PC Tryz.prog 226 [w32 x, i64 (k : Int)] h (w32 (rotW x k)) := by
  refine PC_of ?_
  refine w_impl_turned (by simp) ?_
  unfold b_impl_turned
  simp -implicitDefEqProofs only [go_sem, show (0 : Int) - (k : Int) = -(k : Int) by omega, wrap_i64 (show -(9223372036854775808 : Int) ≤ (-(k : Int)) by omega) (show (-(k : Int)) < 9223372036854775808 by omega)]
  refine (rot32_pc h x hk).use ?_
  simp -implicitDefEqProofs only [go_sem]
  exact Ext.refl _
/-- impl.bigWord -/
def b_impl_bigWord : C := (.seq (.ops [q 2 (.mv (.c (.int .u32 0)))])
 (.seq (.dops false (.tk (q 3 (.mv (.t 0))) (.tk (q 4 (.sidx (.t 3) (.c (i64 0)))) (.tk (q 5 (.cv .u32 (.t 4))) (.tk (q 6 (.bin .shl (.t 5) (.c (.int .u64 24)))) (.tk (q 7 (.mv (.t 0))) (.tk (q 8 (.sidx (.t 7) (.c (i64 1)))) (.tk (q 9 (.cv .u32 (.t 8))) (.tk (q 10 (.bin .shl (.t 9) (.c (.int .u64 16)))) (.tk (q 11 (.bin .or (.t 6) (.t 10))) (.tk (q 12 (.mv (.t 0))) (.tk (q 13 (.sidx (.t 12) (.c (i64 2)))) (.tk (q 14 (.cv .u32 (.t 13))) (.tk (q 15 (.bin .shl (.t 14) (.c (.int .u64 8)))) (.tk (q 16 (.bin .or (.t 11) (.t 15))) (.tk (q 17 (.mv (.t 0))) (.tk (q 18 (.sidx (.t 17) (.c (i64 3)))) (.tk (q 19 (.cv .u32 (.t 18))) (.tk (q 20 (.bin .or (.t 16) (.t 19))) (.tk (q 2 (.mv (.t 20))) .nil))))))))))))))))))))
 .ret))
theorem w_impl_bigWord {args : List Value} {h : H} {Q : Value → H → Prop} (hl : args.length ≤ 21) (hk : wpc Tryz.prog b_impl_bigWord (retw [.tmp 2] Q) (argsFr args) h) : AC Tryz.prog 225 args h Q :=
  AC.of_wpc mixedOrders Tryz.func225 (by kernel_rfl) (by kernel_rfl : prepF Tryz.prog Tryz.f225 = some ⟨21, [.tmp 2], b_impl_bigWord⟩) hl hk

theorem bigWord_pc (h : H) {s : List UInt8} {a b c d : UInt8} (h0 : s[0]? = some a) (h1 : s[1]? = some b) (h2 : s[2]? = some c) (h3 : s[3]? = some d) : PC Tryz.prog 225 [str s] h (w32 (b32 a <<< 24 ||| b32 b <<< 16 ||| b32 c <<< 8 ||| b32 d)) := by
  refine PC_of ?_
  refine w_impl_bigWord (by simp) ?_
  unfold b_impl_bigWord
  simp -implicitDefEqProofs only [go_sem, Int.reduceToNat, h0, h1, h2, h3, wrap_b32, shl24_w32, shl16_w32, shl8_w32, or_w32]
  exact Ext.refl _
/-- Bytes of a number, the greatest first, as far as they are written from the end on. -/
def bigTo (n c j : Nat) : List UInt8 := (List.range c).map fun p => if c ≤ p + j then UInt8.ofNat (n / 256 ^ (c - 1 - p)) else 0
def bigB (n c : Nat) : List UInt8 := (List.range c).map fun p => UInt8.ofNat (n / 256 ^ (c - 1 - p))
theorem bigTo_len (n c j : Nat) : (bigTo n c j).length = c := by simp [bigTo]
theorem bigTo_all (n c : Nat) : bigTo n c c = bigB n c := by
  unfold bigTo bigB
  refine List.map_congr_left fun p _ => ?_
  rw [if_pos (by omega)]
theorem bigTo_zero (n c : Nat) : bigTo n c 0 = List.replicate c 0 := by
  refine List.eq_replicate_iff.2 ⟨bigTo_len n c 0, fun b hb => ?_⟩
  obtain ⟨p, hp, rfl⟩ := List.mem_map.1 hb
  have := List.mem_range.1 hp
  rw [if_neg (by omega)]
theorem bigTo_set {n c j : Nat} (hj : j < c) : (bigTo n c j).set (c - 1 - j) (UInt8.ofNat (n / 256 ^ j)) = bigTo n c (j + 1) := by
  refine List.ext_getElem? fun i => ?_
  rw [List.getElem?_set, bigTo_len]
  by_cases hi : i < c
  · simp only [bigTo, List.getElem?_map, List.getElem?_range hi, Option.map_some]
    by_cases e : c - 1 - j = i
    · rw [if_pos e, if_pos (by omega), if_pos (by omega), show c - 1 - i = j by omega]
    · rw [if_neg e]
      by_cases h1 : c ≤ i + j
      · rw [if_pos h1, if_pos (by omega)]
      · rw [if_neg h1, if_neg (by omega)]
  · rw [if_neg (by omega), List.getElem?_eq_none (by rw [bigTo_len]; omega), List.getElem?_eq_none (by rw [bigTo_len]; omega)]
theorem bigB_8 (n : Nat) : bigB n 8 = (List.range 8).map fun k => UInt8.ofNat (n / 2 ^ (56 - 8 * k)) := by
  unfold bigB
  refine List.map_congr_left fun p hp => ?_
  have := List.mem_range.1 hp
  rw [show (256 : Nat) = 2 ^ 8 from rfl, ← Nat.pow_mul, show 8 * (8 - 1 - p) = 56 - 8 * p by omega]
theorem bigB_4 (x : BitVec 32) : bigB x.toNat 4 = beB x := by
  unfold bigB beB
  simp [List.range_succ]
/-- impl.bigBytes -/
def b_impl_bigBytes : C := (.seq (.ops [q 4 (.mv (.c (str [])))])
 (.seq (.ops [q 7 (.mv (.t 1)), ⟨(some 8), none, .mks 1 1 [(u8 0)] (.t 7) (.t 7)⟩, q 5 (.mv (.t 8))])
 (.seq (.seq (.ops [q 9 (.mv (.t 1)), q 10 (.bin .sub (.t 9) (.c (i64 1))), q 6 (.mv (.t 10))])
 (.block 0 (.loop (.seq (.seq (.ops [q 11 (.mv (.t 6)), q 12 (.bin .geq (.t 11) (.c (i64 0)))])
 (.cond (.t 12) .skip (.exit 0)))
 (.seq (.block 1 (.seq (.ops [q 15 (.mv (.t 5)), q 16 (.mv (.t 6)), q 17 (.mv (.t 0)), q 18 (.cv .u8 (.t 17)), q 19 (.idx 1 (.t 15) (.t 16)), ⟨none, none, .st 1 (.t 19) (.t 18)⟩])
 (.ops [q 20 (.mv (.t 0)), q 21 (.bin .shr (.t 20) (.c (.int .u64 8))), q 0 (.mv (.t 21))])))
 (.ops [q 13 (.mv (.t 6)), q 14 (.bin .sub (.t 13) (.c (i64 1))), q 6 (.mv (.t 14))]))))))
 (.seq (.ops [q 22 (.mv (.t 5)), q 23 (.b2s (.t 22)), q 4 (.mv (.t 23))])
 .ret))))
theorem w_impl_bigBytes {args : List Value} {h : H} {Q : Value → H → Prop} (hl : args.length ≤ 24) (hk : wpc Tryz.prog b_impl_bigBytes (retw [.tmp 4] Q) (argsFr args) h) : AC Tryz.prog 173 args h Q :=
  AC.of_wpc mixedOrders Tryz.func173 (by kernel_rfl) (by kernel_rfl : prepF Tryz.prog Tryz.f173 = some ⟨24, [.tmp 4], b_impl_bigBytes⟩) hl hk

theorem bigBytes_pc (h : H) (n c : Nat) (hn : n < 18446744073709551616) (hc : 1 ≤ c ∧ c ≤ 8) : PC Tryz.prog 173 [.int .u64 (n : Int), i64 (c : Int)] h (str (bigB n c)) := by
  refine PC_of ?_
  refine w_impl_bigBytes (by simp) ?_
  unfold b_impl_bigBytes
  simp -implicitDefEqProofs only [go_sem, Int.natCast_nonneg]
  refine Req.of (by omega) ?_
  refine Req.of (by omega) ?_
  simp -implicitDefEqProofs only [go_sem]
  intro b8 hb8 n8
  simp -implicitDefEqProofs only [go_sem, Int.toNat_natCast, wrap_i64 (show -(9223372036854775808 : Int) ≤ ((c : Int) - 1) by omega) (show ((c : Int) - 1) < 9223372036854775808 by omega)]
  have q0 : (List.replicate c [u8 0]).flatten = (bys (bigTo n c 0)).flatten := by rw [bigTo_zero]; simp
  rw [q0]
  refine loopW_of (fun m f h' => ∃ j, m + j = c ∧ f 0 = .int .u64 ((n / 256 ^ j : Nat) : Int) ∧ f 5 = sl b8 0 c c ∧ f 6 = i64 ((c : Int) - 1 - j) ∧ h' = h.set b8 ⟨(bys (bigTo n c j)).flatten, c⟩) c
    ⟨0, by simp, by simp -implicitDefEqProofs only [go_sem]; simp, by simp -implicitDefEqProofs only [go_sem], by simp -implicitDefEqProofs only [go_sem]; simp, by simp⟩ ?_
  rintro m f h' ⟨j, hm, f0, f5, f6, rfl⟩
  have hx : n / 256 ^ j < 18446744073709551616 := Nat.lt_of_le_of_lt (Nat.div_le_self _ _) hn
  by_cases hj : j < c
  · have hsp := flat_splice (w := 1) (rows := bys (bigTo n c j)) (bys_wid _) (c - 1 - j) (by rw [bys_len, bigTo_len]; omega) (r := [u8 ((UInt8.ofNat (n / 256 ^ j)).toNat)]) rfl
    rw [Nat.mul_one] at hsp
    have hset : (bys (bigTo n c j)).set (c - 1 - j) [u8 ((UInt8.ofNat (n / 256 ^ j)).toNat)] = bys (bigTo n c (j + 1)) := by
      rw [← bigTo_set hj, bys, bys, List.map_set]
    rw [hset] at hsp
    have hl : (bys (bigTo n c j)).flatten.length = c := by rw [flat_length (bys_wid _), bys_len, bigTo_len]; omega
    have hst : stc (h.set b8 ⟨(bys (bigTo n c j)).flatten, c⟩) b8 (c - 1 - j) [u8 ((UInt8.ofNat (n / 256 ^ j)).toNat)] 1 = some (h.set b8 ⟨(bys (bigTo n c (j + 1))).flatten, c⟩) := by
      rw [stc_same, if_pos ⟨rfl, by simp only [hl]; omega, rfl⟩]
      simp only [hsp]
    have p1 : ((c : Int) - 1 - (j : Int)).toNat = c - 1 - j := by omega
    simp -implicitDefEqProofs only [go_sem, f0, f5, f6, show (0 : Int) ≤ (c : Int) - 1 - (j : Int) by omega, show (c : Int) - 1 - (j : Int) < (c : Int) by omega, p1, Nat.mul_one, wrap_ofNat, hb8, hst, shr8 .u64 (n / 256 ^ j) (by decide), wrap_i64 (show -(9223372036854775808 : Int) ≤ ((c : Int) - 1 - (j : Int) - 1) by omega) (show ((c : Int) - 1 - (j : Int) - 1) < 9223372036854775808 by omega)]
    refine ⟨m - 1, by omega, _, Ext.refl _, j + 1, by omega, ?_, ?_, rfl⟩
    · rw [Nat.div_div_eq_div_mul, ← Nat.pow_succ]
    · rw [show (c : Int) - 1 - (j : Int) - 1 = (c : Int) - 1 - ((j + 1 : Nat) : Int) by omega]
  · obtain rfl : j = c := by omega
    rw [bigTo_all]
    have hbl : (bigB n j).length = j := by rw [← bigTo_all, bigTo_len]
    have hfl : (bys (bigB n j)).flatten.length = j := by rw [flat_length (bys_wid _), bys_len, hbl]; omega
    have hld : ldc (h.set b8 ⟨(bys (bigB n j)).flatten, j⟩) b8 0 j = some (bys (bigB n j)).flatten := by
      rw [ldc_set_same, if_pos (by simp only [hfl]; omega), List.drop_zero, List.take_of_length_le (by simp only [hfl]; omega)]
    simp -implicitDefEqProofs only [go_sem, f0, f5, f6, show ¬ ((0 : Int) ≤ (j : Int) - 1 - (j : Int)) by omega, show ¬ (j = 0) by omega, hld, bytesOf_bys]
    exact (Ext.refl _).set n8 _
end Go.Proofs.YthjbhdmjfakfaaaGreatDoor
