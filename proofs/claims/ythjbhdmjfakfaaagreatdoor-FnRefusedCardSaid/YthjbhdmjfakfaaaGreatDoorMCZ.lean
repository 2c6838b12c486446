/- A helper of this seat's claims (contracts of the functions): what it shows is shown for every input that its statements name, on no other condition. -/
import Derived.Test.YthjbhdmjfakfaaaGreatDoorMCRb
import Derived.Test.YthjbhdmjfakfaaaGreatDoorCXa
import Derived.Test.YthjbhdmjfakfaaaGreatDoorC10s
set_option linter.unusedVariables false
set_option linter.unusedSimpArgs false
set_option maxRecDepth 100000
namespace Go.Proofs.YthjbhdmjfakfaaaGreatDoor
open Go.KH Go.RowKit

/-! ## strings.Join, Repeat, Count -/
theorem join_nosep : ∀ l : List (List UInt8), Lib.join l [] = l.flatten
  | [] => rfl
  | x :: l => by
    rw [Lib.join_cons, List.flatten_cons]
    congr 1
    unfold Lib.joinTail
    simp
theorem join_pc {h : H} {v : Value} {l : List (List UInt8)} (hv : Sl h v 1 (strs l)) (hb : l.flatten.length ≤ 1099511627776) (hl : l.length ≤ 1099511627776) : PC Tryz.prog 88 [v, str []] h (str l.flatten) := by
  refine PC_calls Tryz.func88 (by kernel_rfl) (by kernel_rfl) fun w0 w r => ?_
  rcases hv.texts with ⟨a, c, rfl, rfl⟩ | ⟨b, o, c, rfl, hc, hpos, hcells⟩
  · exact (Tryz.strings_Join_none a c ⟨#[]⟩ w).mono fun e w' ⟨he, hw⟩ => ⟨he, below_same hw⟩
  · obtain ⟨q1, q2⟩ := hcells r
    have hmap : (l.map fun x => (⟨x.toArray⟩ : ByteArray)).map (·.data.toList) = l := by rw [List.map_map]; simp [Function.comp_def]
    have hlen : (l.map fun x => (⟨x.toArray⟩ : ByteArray)).length = l.length := by simp
    have := Tryz.strings_Join b o c (l.map fun x => (⟨x.toArray⟩ : ByteArray)) ⟨#[]⟩ w q2 q1 (by rw [hlen]; omega) (by rw [hlen]; exact hc) (by
      rw [hmap, show (ByteArray.mk #[]).data.toList = [] from rfl, join_nosep]; omega)
    rw [hlen, hmap, show (ByteArray.mk #[]).data.toList = [] from rfl, join_nosep] at this
    exact this
theorem repeatL_rep (b : UInt8) : ∀ n, Lib.repeatL [b] n = List.replicate n b
  | 0 => rfl
  | n + 1 => by rw [Lib.repeatL, repeatL_rep b n, List.replicate_succ]; rfl
theorem repeat_pc (h : H) (b : UInt8) (n : Nat) (hn : n ≤ 1000000) : PC Tryz.prog 172 [str [b], i64 n] h (str (List.replicate n b)) := by
  refine PC_calls Tryz.func172 (by kernel_rfl) (by kernel_rfl) fun w0 w r => ?_
  have := Tryz.strings_Repeat ⟨#[b]⟩ n w (by omega) (by show 1 * n ≤ _; omega)
  refine this.mono fun e w' ⟨he, hw⟩ => ⟨?_, hw⟩
  rw [he, show (ByteArray.mk #[b]).data.toList = [b] from rfl, repeatL_rep]
  rfl
end Go.Proofs.YthjbhdmjfakfaaaGreatDoor

set_option linter.unusedVariables false
set_option linter.unusedSimpArgs false
set_option maxRecDepth 100000
namespace Go.Proofs.YthjbhdmjfakfaaaGreatDoor
open Go.KH

/-! ## The digest of the program -/
/-- The package's two tables hold what they were laid with. -/
def Tabs (h : H) : Prop := RepR h [.s 1 (wsV shaStart.list), .s 1 (wsV keysL)] [sl 0 0 8 8, sl 1 0 64 64]
theorem Tabs.ext {h h' : H} (t : Tabs h) (e : Ext h h') : Tabs h' := RepR.ext t e
theorem keysL_get {k : Nat} (hk : k < 64) : keysL[k]? = some (shaKey k) := by simp [keysL, hk]
theorem Tabs.key {h : H} (t : Tabs h) {k : Nat} (hk : k < 64) : ldc h 1 k 1 = some [w32 (shaKey k)] := by
  obtain ⟨_, _, b, o, e, _, h2, h3⟩ := t.2.1
  cases e
  cases h2
  have := h3 k [w32 (shaKey k)] (by rw [wsV, List.getElem?_map, keysL_get hk]; rfl)
  rw [Nat.zero_add, Nat.mul_one] at this
  exact this
theorem Tabs.start {h : H} (t : Tabs h) : ldc h 0 0 8 = some (wcl shaStart.list) := by
  have s : Sl h (sl 0 0 8 8) 1 (wsV shaStart.list) := t.1
  exact srcOf_some (n := 7) rfl (s.src (Wid.map fun _ => rfl) (by decide))
theorem neg31 {k : Nat} (h : 1 ≤ k ∧ k ≤ 31) : (BitVec.ofNat 64 (18446744073709551616 - k) &&& 31#64).toNat = 32 - k := by
  have : ∀ j : Fin 31, (BitVec.ofNat 64 (18446744073709551616 - (j.1 + 1)) &&& 31#64).toNat = 32 - (j.1 + 1) := by decide
  have := this ⟨k - 1, by omega⟩
  simp only at this
  rw [show k - 1 + 1 = k by omega] at this
  exact this
def b_math_bits_RotateLeft32 : C := (jo [q 4 (.mv (.c (.int .u32 0)))]
 (jo [jm 6 1, q 7 (.cv .u64 (.t 6)), q 8 (.bin .and (.t 7) (.c (.int .u64 31))), jm 5 8]
 (jo [jm 9 0, jm 10 5, jb 11 .shl 9 10, jm 12 0, jm 13 5, q 14 (.bin .sub (.c (.int .u64 32)) (.t 13)), jb 15 .shr 12 14, jb 16 .or 11 15, jm 4 16]
 .ret)))
theorem w_math_bits_RotateLeft32 : Wk Tryz.prog 237 17 [.tmp 4] b_math_bits_RotateLeft32 := Wk.of mixedOrders Tryz.func237 (by kernel_rfl) (by kernel_rfl)

def b_impl_turned : C := (jo [q 4 (.mv (.c (.int .u32 0)))]
 (jo [jm 5 0, jm 6 1, q 7 (.un .neg (.t 6)), jc 8 237 [(.t 5), (.t 7)], jm 4 8]
 .ret))
theorem w_impl_turned : Wk Tryz.prog 226 9 [.tmp 4] b_impl_turned := Wk.of mixedOrders Tryz.func226 (by kernel_rfl) (by kernel_rfl)

theorem rot32_pc (h : H) (x : BitVec 32) {k : Nat} (hk : 1 ≤ k ∧ k ≤ 31) : PC Tryz.prog 237 [w32 x, i64 (-(k : Int))] h (w32 (rotW x k)) := by
  have e1 : IntKind.u64.wrap (-(k : Int)) = ((18446744073709551616 - k : Nat) : Int) := by rw [wrap_u64m]; omega
  have e2 : obin .and (.int .u64 ((18446744073709551616 - k : Nat) : Int)) (.int .u64 31) = some (.int .u64 ((32 - k : Nat) : Int)) := by
    rw [bi_and]
    have q1 : BitVec.ofInt IntKind.u64.bits ((18446744073709551616 - k : Nat) : Int) = BitVec.ofNat 64 (18446744073709551616 - k) := BitVec.ofInt_natCast ..
    rw [q1]
    show some (Value.int .u64 (IntKind.u64.wrap ((BitVec.ofNat 64 (18446744073709551616 - k) &&& 31#64).toNat : Int))) = _
    rw [neg31 hk, wrap_u64 (by omega) (by omega)]
  have e3 : IntKind.u64.wrap (32 - ((32 - k : Nat) : Int)) = (k : Int) := by rw [wrap_u64 (by omega) (by omega)]; omega
  have e4 : x <<< (32 - k) ||| x >>> k = rotW x k := BitVec.or_comm ..
  have e5 : (32 - ((32 - k : Nat) : Int)) = (k : Int) := by omega
  refine PC_of ?_
  refine w_math_bits_RotateLeft32 (by simp) ?_
  unfold b_math_bits_RotateLeft32
  simp -implicitDefEqProofs only [go_sem, e1, e2, e3, shl_w32 x .u64 (32 - k) (by omega), shr_w32 x .u64 k (by omega), or_w32, e4]
  exact Ext.refl _
theorem turned_pc (h : H) (x : BitVec 32) {k : Nat} (hk : 1 ≤ k ∧ k ≤ 31) : PC Tryz.prog 226 [w32 x, i64 (k : Int)] h (w32 (rotW x k)) := by
  refine PC_of ?_
  refine w_impl_turned (by simp) ?_
  unfold b_impl_turned
  simp -implicitDefEqProofs only [go_sem, show (0 : Int) - (k : Int) = -(k : Int) by omega, wrap_i64 (show -(9223372036854775808 : Int) ≤ (-(k : Int)) by omega) (show (-(k : Int)) < 9223372036854775808 by omega)]
  refine (rot32_pc h x hk).use ?_
  simp -implicitDefEqProofs only [go_sem]
  exact Ext.refl _
def b_impl_bigWord : C := (jo [q 2 (.mv (.c (.int .u32 0)))]
 (.seq (.dops false (.tk (jm 3 0) (.tk (q 4 (.sidx (.t 3) (.c (i64 0)))) (.tk (q 5 (.cv .u32 (.t 4))) (.tk (q 6 (.bin .shl (.t 5) (.c (.int .u64 24)))) (.tk (jm 7 0) (.tk (q 8 (.sidx (.t 7) (.c (i64 1)))) (.tk (q 9 (.cv .u32 (.t 8))) (.tk (q 10 (.bin .shl (.t 9) (.c (.int .u64 16)))) (.tk (jb 11 .or 6 10) (.tk (jm 12 0) (.tk (q 13 (.sidx (.t 12) (.c (i64 2)))) (.tk (q 14 (.cv .u32 (.t 13))) (.tk (q 15 (.bin .shl (.t 14) (.c (.int .u64 8)))) (.tk (jb 16 .or 11 15) (.tk (jm 17 0) (.tk (q 18 (.sidx (.t 17) (.c (i64 3)))) (.tk (q 19 (.cv .u32 (.t 18))) (.tk (jb 20 .or 16 19) (.tk (jm 2 20) .nil))))))))))))))))))))
 .ret))
theorem w_impl_bigWord : Wk Tryz.prog 225 21 [.tmp 2] b_impl_bigWord := Wk.of mixedOrders Tryz.func225 (by kernel_rfl) (by kernel_rfl)

theorem bigWord_pc (h : H) {s : List UInt8} {a b c d : UInt8} (h0 : s[0]? = some a) (h1 : s[1]? = some b) (h2 : s[2]? = some c) (h3 : s[3]? = some d) : PC Tryz.prog 225 [str s] h (w32 (b32 a <<< 24 ||| b32 b <<< 16 ||| b32 c <<< 8 ||| b32 d)) := by
  refine PC_of ?_
  refine w_impl_bigWord (by simp) ?_
  unfold b_impl_bigWord
  simp -implicitDefEqProofs only [go_sem, Int.reduceToNat, h0, h1, h2, h3, wrap_b32, shl24_w32, shl16_w32, shl8_w32, or_w32]
  exact Ext.refl _
/-- Bytes of a number, the greatest first, as far as they are written from the end on. -/
def bigTo (n c j : Nat) : List UInt8 := (List.range c).map fun p => if c ≤ p + j then UInt8.ofNat (n / 256 ^ (c - 1 - p)) else 0
def bigB (n c : Nat) : List UInt8 := (List.range c).map fun p => UInt8.ofNat (n / 256 ^ (c - 1 - p))
theorem bigTo_len (n c j : Nat) : (bigTo n c j).length = c := by simp [bigTo]
theorem bigTo_all (n c : Nat) : bigTo n c c = bigB n c := by
  unfold bigTo bigB
  refine List.map_congr_left fun p _ => ?_
  rw [if_pos (by omega)]
theorem bigTo_zero (n c : Nat) : bigTo n c 0 = List.replicate c 0 := by
  refine List.eq_replicate_iff.2 ⟨bigTo_len n c 0, fun b hb => ?_⟩
  obtain ⟨p, hp, rfl⟩ := List.mem_map.1 hb
  have := List.mem_range.1 hp
  rw [if_neg (by omega)]
theorem bigTo_set {n c j : Nat} (hj : j < c) : (bigTo n c j).set (c - 1 - j) (UInt8.ofNat (n / 256 ^ j)) = bigTo n c (j + 1) := by
  refine List.ext_getElem? fun i => ?_
  rw [List.getElem?_set, bigTo_len]
  by_cases hi : i < c
  · simp only [bigTo, List.getElem?_map, List.getElem?_range hi, Option.map_some]
    by_cases e : c - 1 - j = i
    · rw [if_pos e, if_pos (by omega), if_pos (by omega), show c - 1 - i = j by omega]
    · rw [if_neg e]
      by_cases h1 : c ≤ i + j
      · rw [if_pos h1, if_pos (by omega)]
      · rw [if_neg h1, if_neg (by omega)]
  · rw [if_neg (by omega), List.getElem?_eq_none (by rw [bigTo_len]; omega), List.getElem?_eq_none (by rw [bigTo_len]; omega)]
theorem bigB_8 (n : Nat) : bigB n 8 = (List.range 8).map fun k => UInt8.ofNat (n / 2 ^ (56 - 8 * k)) := by
  unfold bigB
  refine List.map_congr_left fun p hp => ?_
  have := List.mem_range.1 hp
  rw [show (256 : Nat) = 2 ^ 8 from rfl, ← Nat.pow_mul, show 8 * (8 - 1 - p) = 56 - 8 * p by omega]
theorem bigB_4 (x : BitVec 32) : bigB x.toNat 4 = beB x := by
  unfold bigB beB
  simp [List.range_succ]
def b_impl_bigBytes : C := (jo [q 4 (.mv (.c (str [])))]
 (jo [jm 7 1, ⟨(some 8), none, .mks 1 1 [(u8 0)] (.t 7) (.t 7)⟩, jm 5 8]
 (.seq (jo [jm 9 1, jk 10 .sub 9 1, jm 6 10]
 (.block 0 (.loop (.seq (jo [jm 11 6, jk 12 .geq 11 0]
 (.cond (.t 12) .skip (.exit 0)))
 (.seq (.block 1 (jo [jm 15 5, jm 16 6, jm 17 0, q 18 (.cv .u8 (.t 17)), q 19 (.idx 1 (.t 15) (.t 16)), js 1 19 18]
 (.ops [jm 20 0, q 21 (.bin .shr (.t 20) (.c (.int .u64 8))), jm 0 21])))
 (.ops [jm 13 6, jk 14 .sub 13 1, jm 6 14]))))))
 (jo [jm 22 5, q 23 (.b2s (.t 22)), jm 4 23]
 .ret))))
theorem w_impl_bigBytes : Wk Tryz.prog 173 24 [.tmp 4] b_impl_bigBytes := Wk.of mixedOrders Tryz.func173 (by kernel_rfl) (by kernel_rfl)

theorem bigBytes_pc (h : H) (n c : Nat) (hn : n < 18446744073709551616) (hc : 1 ≤ c ∧ c ≤ 8) : PC Tryz.prog 173 [.int .u64 (n : Int), i64 (c : Int)] h (str (bigB n c)) := by
  refine PC_of ?_
  refine w_impl_bigBytes (by simp) ?_
  unfold b_impl_bigBytes
  simp -implicitDefEqProofs only [go_sem, Int.natCast_nonneg]
  refine Req.of (by omega) ?_
  refine Req.of (by omega) ?_
  simp -implicitDefEqProofs only [go_sem]
  intro b8 hb8 n8
  simp -implicitDefEqProofs only [go_sem, Int.toNat_natCast, wrap_i64 (show -(9223372036854775808 : Int) ≤ ((c : Int) - 1) by omega) (show ((c : Int) - 1) < 9223372036854775808 by omega)]
  have q0 : (List.replicate c [u8 0]).flatten = (bys (bigTo n c 0)).flatten := by rw [bigTo_zero]; simp
  rw [q0]
  refine loopW_of (fun m f h' => ∃ j, m + j = c ∧ f 0 = .int .u64 ((n / 256 ^ j : Nat) : Int) ∧ f 5 = sl b8 0 c c ∧ f 6 = i64 ((c : Int) - 1 - j) ∧ h' = h.set b8 ⟨(bys (bigTo n c j)).flatten, c⟩) c
    ⟨0, by simp, by simp -implicitDefEqProofs only [go_sem]; simp, by simp -implicitDefEqProofs only [go_sem], by simp -implicitDefEqProofs only [go_sem]; simp, by simp⟩ ?_
  rintro m f h' ⟨j, hm, f0, f5, f6, rfl⟩
  have hx : n / 256 ^ j < 18446744073709551616 := Nat.lt_of_le_of_lt (Nat.div_le_self _ _) hn
  by_cases hj : j < c
  · have hsp := flat_splice (w := 1) (rows := bys (bigTo n c j)) (bys_wid _) (c - 1 - j) (by rw [bys_len, bigTo_len]; omega) (r := [u8 ((UInt8.ofNat (n / 256 ^ j)).toNat)]) rfl
    rw [Nat.mul_one] at hsp
    have hset : (bys (bigTo n c j)).set (c - 1 - j) [u8 ((UInt8.ofNat (n / 256 ^ j)).toNat)] = bys (bigTo n c (j + 1)) := by
      rw [← bigTo_set hj, bys, bys, List.map_set]
    rw [hset] at hsp
    have hl : (bys (bigTo n c j)).flatten.length = c := by rw [flat_length (bys_wid _), bys_len, bigTo_len]; omega
    have hst : stc (h.set b8 ⟨(bys (bigTo n c j)).flatten, c⟩) b8 (c - 1 - j) [u8 ((UInt8.ofNat (n / 256 ^ j)).toNat)] 1 = some (h.set b8 ⟨(bys (bigTo n c (j + 1))).flatten, c⟩) := by
      rw [stc_same, if_pos ⟨rfl, by simp only [hl]; omega, rfl⟩]
      simp only [hsp]
    have p1 : ((c : Int) - 1 - (j : Int)).toNat = c - 1 - j := by omega
    simp -implicitDefEqProofs only [go_sem, f0, f5, f6, show (0 : Int) ≤ (c : Int) - 1 - (j : Int) by omega, show (c : Int) - 1 - (j : Int) < (c : Int) by omega, p1, Nat.mul_one, wrap_ofNat, hb8, hst, shr8 .u64 (n / 256 ^ j) (by decide), wrap_i64 (show -(9223372036854775808 : Int) ≤ ((c : Int) - 1 - (j : Int) - 1) by omega) (show ((c : Int) - 1 - (j : Int) - 1) < 9223372036854775808 by omega)]
    refine ⟨m - 1, by omega, _, Ext.refl _, j + 1, by omega, ?_, ?_, rfl⟩
    · rw [Nat.div_div_eq_div_mul, ← Nat.pow_succ]
    · rw [show (c : Int) - 1 - (j : Int) - 1 = (c : Int) - 1 - ((j + 1 : Nat) : Int) by omega]
  · obtain rfl : j = c := by omega
    rw [bigTo_all]
    have hbl : (bigB n j).length = j := by rw [← bigTo_all, bigTo_len]
    have hfl : (bys (bigB n j)).flatten.length = j := by rw [flat_length (bys_wid _), bys_len, hbl]; omega
    have hld : ldc (h.set b8 ⟨(bys (bigB n j)).flatten, j⟩) b8 0 j = some (bys (bigB n j)).flatten := by
      rw [ldc_set_same, if_pos (by simp only [hfl]; omega), List.drop_zero, List.take_of_length_le (by simp only [hfl]; omega)]
    simp -implicitDefEqProofs only [go_sem, f0, f5, f6, show ¬ ((0 : Int) ≤ (j : Int) - 1 - (j : Int)) by omega, show ¬ (j = 0) by omega, hld, bytesOf_bys]
    exact (Ext.refl _).set n8 _
end Go.Proofs.YthjbhdmjfakfaaaGreatDoor
