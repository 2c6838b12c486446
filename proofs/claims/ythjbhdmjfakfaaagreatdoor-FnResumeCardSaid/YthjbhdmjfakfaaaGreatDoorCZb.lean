/- A helper of this seat's claims (contracts of the functions): what it shows is shown for every input that its statements name, on no other condition. -/
import Derived.Test.YthjbhdmjfakfaaaGreatDoorMCXa
set_option linter.unusedVariables false
set_option linter.unusedSimpArgs false
set_option maxRecDepth 100000
namespace Go.Proofs.YthjbhdmjfakfaaaGreatDoor
open Go.KH

def wAll (l : List UInt8) (k : Nat) : List (BitVec 32) := if k ≤ 16 then w16 l k else wGrow (w16 l 16) (k - 16)
theorem wAll_len (l : List UInt8) (k : Nat) : (wAll l k).length = k := by
 unfold wAll
 split
 ·exact w16_len l k
 ·rw [wGrow_length, w16_len]; omega
theorem wAll_low {l : List UInt8} {k : Nat} (h : k < 16) : wAll l (k + 1) = wAll l k ++ [beW l k] := by
 unfold wAll
 rw [if_pos (by omega), if_pos (by omega), w16_succ]
theorem wAll_high {l : List UInt8} {k : Nat} (h : 16 ≤ k) : wAll l (k + 1) = wAll l k ++ [wNext (wAll l k)] := by
 have e : wAll l k = wGrow (w16 l 16) (k - 16) := by
  unfold wAll
  by_cases h1 : k ≤ 16
  ·obtain rfl : k = 16 := by omega
   rw [if_pos (by omega)]; rfl
  ·rw [if_neg h1]
 rw [e]
 unfold wAll
 rw [if_neg (by omega), show k + 1 - 16 = (k - 16) + 1 by omega]
 rfl
theorem wAll_64 (l : List UInt8) : wAll l 64 = wGrow (w16 l 16) 48 := by unfold wAll; rw [if_neg (by omega)]
theorem upTo_set {α : Type} {a b : List α} {k : Nat} {v w : α} (hl : a.length = b.length) (hz : a[k]? = some v) (hx : b[k]? = some w) : (a.take k ++ b.drop k).set k v = a.take (k + 1) ++ b.drop (k + 1) := by
 obtain ⟨h1, rfl⟩ := List.getElem?_eq_some_iff.1 hz
 have e : (a.take k).length = k := by simp; omega
 rw [List.set_append_right _ _ (by omega), e, Nat.sub_self, List.drop_eq_getElem_cons (by omega : k < b.length), List.set_cons_zero, List.take_add_one, hz, Option.toList, List.append_assoc]
 rfl
theorem upTo_get {α : Type} {a b : List α} {k : Nat} {w : α} (hl : a.length = b.length) (hx : b[k]? = some w) : (a.take k ++ b.drop k)[k]? = some w := by
 obtain ⟨h1, _⟩ := List.getElem?_eq_some_iff.1 hx
 have e : (a.take k).length = k := by simp; omega
 rw [List.getElem?_append_right (by omega), e, Nat.sub_self, List.getElem?_drop]
 exact hx
theorem upTo_len {α : Type} {a b : List α} {k : Nat} (hl : a.length = b.length) : (a.take k ++ b.drop k).length = b.length := by
 simp; omega
def b_impl_digestBlock : C := (jo [⟨(some 4), none, .alloc [(.int .u32 0), (.int .u32 0), (.int .u32 0), (.int .u32 0), (.int .u32 0), (.int .u32 0), (.int .u32 0), (.int .u32 0), (.int .u32 0), (.int .u32 0), (.int .u32 0), (.int .u32 0), (.int .u32 0), (.int .u32 0), (.int .u32 0), (.int .u32 0), (.int .u32 0), (.int .u32 0), (.int .u32 0), (.int .u32 0), (.int .u32 0), (.int .u32 0), (.int .u32 0), (.int .u32 0), (.int .u32 0), (.int .u32 0), (.int .u32 0), (.int .u32 0), (.int .u32 0), (.int .u32 0), (.int .u32 0), (.int .u32 0), (.int .u32 0), (.int .u32 0), (.int .u32 0), (.int .u32 0), (.int .u32 0), (.int .u32 0), (.int .u32 0), (.int .u32 0), (.int .u32 0), (.int .u32 0), (.int .u32 0), (.int .u32 0), (.int .u32 0), (.int .u32 0), (.int .u32 0), (.int .u32 0), (.int .u32 0), (.int .u32 0), (.int .u32 0), (.int .u32 0), (.int .u32 0), (.int .u32 0), (.int .u32 0), (.int .u32 0), (.int .u32 0), (.int .u32 0), (.int .u32 0), (.int .u32 0), (.int .u32 0), (.int .u32 0), (.int .u32 0), (.int .u32 0)]⟩]
 (.seq (jo [q 23 (.mv (.c (i64 0)))]
 (.block 0 (.loop (jo [jk 24 .lss 23 64]
 (.seq (.cond (.t 24) .skip (.exit 0))
 (.seq (.block 1 (jo [jm 25 23, jm 5 25]
 (.seq (jo [jm 26 5, jk 27 .lss 26 16]
 (.cond (.t 27) (jo [jm 28 5, jm 29 1, jm 30 5, q 31 (.bin .mul (.c (i64 4)) (.t 30)), q 32 (.ssl (.t 29) (some (.t 31)) none), jc 33 225 [(.t 32)], q 34 (.aidx 64 1 (.t 4) (.t 28)), js 1 34 33]
 (.exit 1)) .skip))
 (.seq (.dops true (.tk (jm 35 5) (.tk (jk 36 .sub 35 15) (.tk (q 37 (.aidx 64 1 (.t 4) (.t 36))) (.tk (jl 38 37) (.tk (jm 39 5) (.tk (jk 40 .sub 39 2) (.tk (q 41 (.aidx 64 1 (.t 4) (.t 40))) (.tk (jl 42 41) (.tk (jm 6 38) (.tk (jm 7 42) .nil)))))))))))
 (jo [jm 43 6, jc 44 226 [(.t 43), (.c (i64 7))], jm 45 6, jc 46 226 [(.t 45), (.c (i64 18))], jb 47 .xor 44 46, jm 48 6, q 49 (.bin .shr (.t 48) (.c (.int .u64 3))), jb 50 .xor 47 49, jm 8 50]
 (jo [jm 51 7, jc 52 226 [(.t 51), (.c (i64 17))], jm 53 7, jc 54 226 [(.t 53), (.c (i64 19))], jb 55 .xor 52 54, jm 56 7, q 57 (.bin .shr (.t 56) (.c (.int .u64 10))), jb 58 .xor 55 57, jm 9 58]
 (.dops true (.tk (jm 59 5) (.tk (jm 60 5) (.tk (jk 61 .sub 60 16) (.tk (q 62 (.aidx 64 1 (.t 4) (.t 61))) (.tk (jl 63 62) (.tk (jm 64 8) (.tk (jb 65 .add 63 64) (.tk (jm 66 5) (.tk (jk 67 .sub 66 7) (.tk (q 68 (.aidx 64 1 (.t 4) (.t 67))) (.tk (jl 69 68) (.tk (jb 70 .add 65 69) (.tk (jm 71 9) (.tk (jb 72 .add 70 71) (.tk (q 73 (.aidx 64 1 (.t 4) (.t 59))) (.lt (js 1 73 72) .nil)))))))))))))))))))))))
 (.ops [jk 74 .add 23 1, jm 23 74])))))))
 (.seq (.dops true (.tk (jm 75 0) (.tk (q 76 (.nck (.t 75))) (.tk (q 77 (.aidx 8 1 (.t 76) (.c (i64 0)))) (.tk (jl 78 77) (.tk (jm 79 0) (.tk (q 80 (.nck (.t 79))) (.tk (q 81 (.aidx 8 1 (.t 80) (.c (i64 1)))) (.tk (jl 82 81) (.tk (jm 83 0) (.tk (q 84 (.nck (.t 83))) (.tk (q 85 (.aidx 8 1 (.t 84) (.c (i64 2)))) (.tk (jl 86 85) (.tk (jm 87 0) (.tk (q 88 (.nck (.t 87))) (.tk (q 89 (.aidx 8 1 (.t 88) (.c (i64 3)))) (.tk (jl 90 89) (.tk (jm 91 0) (.tk (q 92 (.nck (.t 91))) (.tk (q 93 (.aidx 8 1 (.t 92) (.c (i64 4)))) (.tk (jl 94 93) (.tk (jm 95 0) (.tk (q 96 (.nck (.t 95))) (.tk (q 97 (.aidx 8 1 (.t 96) (.c (i64 5)))) (.tk (jl 98 97) (.tk (jm 99 0) (.tk (q 100 (.nck (.t 99))) (.tk (q 101 (.aidx 8 1 (.t 100) (.c (i64 6)))) (.tk (jl 102 101) (.tk (jm 103 0) (.tk (q 104 (.nck (.t 103))) (.tk (q 105 (.aidx 8 1 (.t 104) (.c (i64 7)))) (.tk (jl 106 105) (.tk (jm 10 78) (.tk (jm 11 82) (.tk (jm 12 86) (.tk (jm 13 90) (.tk (jm 14 94) (.tk (jm 15 98) (.tk (jm 16 102) (.tk (jm 17 106) .nil)))))))))))))))))))))))))))))))))))))))))
 (.seq (jo [q 107 (.mv (.c (i64 0)))]
 (.block 2 (.loop (jo [jk 108 .lss 107 64]
 (.seq (.cond (.t 108) .skip (.exit 2))
 (.seq (.block 3 (jo [jm 109 107, jm 18 109]
 (.seq (.dops true (.tk (jm 110 17) (.tk (jm 111 14) (.tk (jm 113 14) (.tk (jm 116 14) (.tk (jm 120 14) (.tk (jm 121 15) (.tk (jb 122 .and 120 121) (.tk (jm 123 14) (.tk (q 124 (.un .xor (.t 123))) (.tk (jm 125 16) (.tk (jb 126 .and 124 125) (.tk (jb 127 .xor 122 126) (.tk (jm 129 18) (.tk (q 130 (.aidx 64 1 (.c (ptr 1 0)) (.t 129))) (.tk (jl 131 130) (.tk (jm 133 18) (.tk (q 134 (.aidx 64 1 (.t 4) (.t 133))) (.tk (jl 135 134) (.sq (jc 112 226 [(.t 111), (.c (i64 6))]) (.sq (jc 114 226 [(.t 113), (.c (i64 11))]) (.tk (jb 115 .xor 112 114) (.sq (jc 117 226 [(.t 116), (.c (i64 25))]) (.tk (jb 118 .xor 115 117) (.tk (jb 119 .add 110 118) (.tk (jb 128 .add 119 127) (.tk (jb 132 .add 128 131) (.tk (jb 136 .add 132 135) (.tk (jm 19 136) .nil)))))))))))))))))))))))))))))
 (jo [jm 137 10, jc 138 226 [(.t 137), (.c (i64 2))], jm 139 10, jc 140 226 [(.t 139), (.c (i64 13))], jb 141 .xor 138 140, jm 142 10, jc 143 226 [(.t 142), (.c (i64 22))], jb 144 .xor 141 143, jm 145 10, jm 146 11, jb 147 .and 145 146, jm 148 10, jm 149 12, jb 150 .and 148 149, jb 151 .xor 147 150, jm 152 11, jm 153 12, jb 154 .and 152 153, jb 155 .xor 151 154, jb 156 .add 144 155, jm 20 156]
 (.ops [jm 157 19, jm 158 20, jb 159 .add 157 158, jm 160 10, jm 161 11, jm 162 12, jm 163 13, jm 164 19, jb 165 .add 163 164, jm 166 14, jm 167 15, jm 168 16, jm 10 159, jm 11 160, jm 12 161, jm 13 162, jm 14 165, jm 15 166, jm 16 167, jm 17 168])))))
 (.ops [jk 169 .add 107 1, jm 107 169])))))))
 (jo [jm 170 10, jm 171 11, jm 172 12, jm 173 13, jm 174 14, jm 175 15, jm 176 16, jm 177 17, q 178 (.build [(.int .u32 0), (.int .u32 0), (.int .u32 0), (.int .u32 0), (.int .u32 0), (.int .u32 0), (.int .u32 0), (.int .u32 0)] [(0, 1, (.t 170)), (1, 1, (.t 171)), (2, 1, (.t 172)), (3, 1, (.t 173)), (4, 1, (.t 174)), (5, 1, (.t 175)), (6, 1, (.t 176)), (7, 1, (.t 177))]), q 179 (.mv (.c (i64 0)))]
 (.block 4 (.loop (jo [jk 180 .lss 179 8]
 (.seq (.cond (.t 180) .skip (.exit 4))
 (.seq (.block 5 (jo [jm 181 179, q 182 (.ix false 8 1 (.t 178) (.t 179)), jm 21 181, jm 22 182]
 (.dops true (.tk (jm 183 0) (.tk (jm 184 21) (.tk (q 185 (.nck (.t 183))) (.tk (q 186 (.aidx 8 1 (.t 185) (.t 184))) (.tk (jl 187 186) (.tk (jm 188 22) (.tk (jb 189 .add 187 188) (.tk (q 190 (.nck (.t 183))) (.tk (q 191 (.aidx 8 1 (.t 190) (.t 184))) (.lt (js 1 191 189) .nil)))))))))))))
 (.ops [jk 192 .add 179 1, jm 179 192])))))))))))
theorem w_impl_digestBlock : Wk Tryz.prog 174 193 [] b_impl_digestBlock := Wk.of mixedOrders Tryz.func174 (by kernel_rfl) (by kernel_rfl)

set_option maxHeartbeats 6400000 in
theorem digestBlock_ac0 {h : H} {bS z : Nat} {s T : S8} {l : List UInt8} (hT : shaBlock s l = T) (tb : Tabs h) (hg : h.get bS = some ⟨wcl s.list, z⟩) (hb : h.base ≤ bS) (hl : l.length = 64) :
  AC Tryz.prog 174 [ptr bS 0, str l] h fun r h' => Keep (fun x => x = bS) h h' ∧ h'.get bS = some ⟨wcl T.list, z⟩ := by
 refine w_impl_digestBlock (by simp) ?_
 unfold b_impl_digestBlock
 simp -implicitDefEqProofs only [go_sem]
 intro b4 hb4 n4
 have z4 : b4 ≠ bS := fun e => by rw [e, hg] at n4; cases n4
 have h0 : [(Value.int .u32 0), (Value.int .u32 0), (.int .u32 0), (.int .u32 0), (.int .u32 0), (.int .u32 0), (.int .u32 0), (.int .u32 0), (.int .u32 0), (.int .u32 0), (.int .u32 0), (.int .u32 0), (.int .u32 0), (.int .u32 0), (.int .u32 0), (.int .u32 0), (.int .u32 0), (.int .u32 0), (.int .u32 0), (.int .u32 0), (.int .u32 0), (.int .u32 0), (.int .u32 0), (.int .u32 0), (.int .u32 0), (.int .u32 0), (.int .u32 0), (.int .u32 0), (.int .u32 0), (.int .u32 0), (.int .u32 0), (.int .u32 0), (.int .u32 0), (.int .u32 0), (.int .u32 0), (.int .u32 0), (.int .u32 0), (.int .u32 0), (.int .u32 0), (.int .u32 0), (.int .u32 0), (.int .u32 0), (.int .u32 0), (.int .u32 0), (.int .u32 0), (.int .u32 0), (.int .u32 0), (.int .u32 0), (.int .u32 0), (.int .u32 0), (.int .u32 0), (.int .u32 0), (.int .u32 0), (.int .u32 0), (.int .u32 0), (.int .u32 0), (.int .u32 0), (.int .u32 0), (.int .u32 0), (.int .u32 0), (.int .u32 0), (.int .u32 0), (.int .u32 0), (.int .u32 0)] = wcl (fill (wAll l 0)) := rfl
 rw [h0]
 simp -implicitDefEqProofs only [go_sem]
 refine loopW_of (fun m f h' => ∃ k, m + k = 64 ∧ h' = h.set b4 ⟨wcl (fill (wAll l k)), 64⟩ ∧ f 0 = ptr bS 0 ∧ f 1 = str l ∧ f 4 = ptr b4 0 ∧ f 23 = i64 k) 64
  ⟨0, by simp, rfl, by simp -implicitDefEqProofs only [go_sem], by simp -implicitDefEqProofs only [go_sem], by simp -implicitDefEqProofs only [go_sem], by simp -implicitDefEqProofs only [go_sem]; rfl⟩ ?_
 rintro m f h' ⟨k, hm, rfl, f0, f1, f4, f23⟩
 have hlw := wAll_len l k
 by_cases hk : k < 64
 ·have hf := fill_len (l := wAll l k) (by omega)
  by_cases hk16 : k < 16
  ·have hp := fill_put hlw hk (beW l k)
   rw [← wAll_low hk16] at hp
   obtain ⟨x0, e0⟩ : ∃ x, l[4 * k]? = some x := ⟨_, List.getElem?_eq_getElem (by omega)⟩
   obtain ⟨x1, e1⟩ : ∃ x, l[4 * k + 1]? = some x := ⟨_, List.getElem?_eq_getElem (by omega)⟩
   obtain ⟨x2, e2⟩ : ∃ x, l[4 * k + 2]? = some x := ⟨_, List.getElem?_eq_getElem (by omega)⟩
   obtain ⟨x3, e3⟩ : ∃ x, l[4 * k + 3]? = some x := ⟨_, List.getElem?_eq_getElem (by omega)⟩
   have hw : b32 x0 <<< 24 ||| b32 x1 <<< 16 ||| b32 x2 <<< 8 ||| b32 x3 = beW l k := by simp only [beW, List.getD, e0, e1, e2, e3, Option.getD_some]
   have htk : (l.take l.length).drop (4 * k) = l.drop (4 * k) := by rw [List.take_length]
   simp -implicitDefEqProofs only [go_sem, f0, f1, f4, f23, show (k : Int) < 64 by omega, show (k : Int) < 16 by omega, wrap_i64 (show -(9223372036854775808 : Int) ≤ (4 * (k : Int)) by omega) (show (4 * (k : Int)) < 9223372036854775808 by omega), show (0 : Int) ≤ 4 * (k : Int) by omega, show 4 * (k : Int) ≤ (l.length : Int) by omega, show (4 * (k : Int)).toNat = 4 * k by omega, htk]
   refine (bigWord_pc _ (s := l.drop (4 * k)) (a := x0) (b := x1) (c := x2) (d := x3) (by rw [List.getElem?_drop]; exact e0) (by rw [List.getElem?_drop]; exact e1) (by rw [List.getElem?_drop]; exact e2) (by rw [List.getElem?_drop]; exact e3)).use ?_
   rw [hw]
   simp -implicitDefEqProofs only [go_sem, f4, f23, Int.natCast_nonneg, Int.toNat_natCast, show (k : Int) < ((64 : Nat) : Int) by omega, Nat.mul_one, wcl_len, hf, hk, show k + 1 ≤ 64 by omega, hb4, hp, wrap_i64 (show -(9223372036854775808 : Int) ≤ ((k : Int) + 1) by omega) (show ((k : Int) + 1) < 9223372036854775808 by omega)]
   exact ⟨m - 1, by omega, _, Ext.refl _, k + 1, by omega, rfl, f0, f1, rfl⟩
  ·have hp := fill_put hlw hk (wNext (wAll l k))
   rw [← wAll_high (by omega)] at hp
   have r15 := fill_get (l := wAll l k) (k := k - 15) (by omega) (by omega)
   have r16 := fill_get (l := wAll l k) (k := k - 16) (by omega) (by omega)
   have r7 := fill_get (l := wAll l k) (k := k - 7) (by omega) (by omega)
   have r2 := fill_get (l := wAll l k) (k := k - 2) (by omega) (by omega)
   have hx : (wAll l k).getD (k - 16) 0 + (rotW ((wAll l k).getD (k - 15) 0) 7 ^^^ rotW ((wAll l k).getD (k - 15) 0) 18 ^^^ (wAll l k).getD (k - 15) 0 >>> 3) + (wAll l k).getD (k - 7) 0 + (rotW ((wAll l k).getD (k - 2) 0) 17 ^^^ rotW ((wAll l k).getD (k - 2) 0) 19 ^^^ (wAll l k).getD (k - 2) 0 >>> 10) = wNext (wAll l k) := by
    simp only [wNext, hlw]
   generalize (wAll l k).getD (k - 16) 0 = y16 at *
   generalize (wAll l k).getD (k - 15) 0 = y15 at *
   generalize (wAll l k).getD (k - 7) 0 = y7 at *
   generalize (wAll l k).getD (k - 2) 0 = y2 at *
   have p1 : IntKind.i64.wrap ((k : Int) - 15) = (k : Int) - 15 := wrap_i64 (show -(9223372036854775808 : Int) ≤ ((k : Int) - 15) by omega) (show ((k : Int) - 15) < 9223372036854775808 by omega)
   have p2 : (0 : Int) ≤ (k : Int) - 15 := by omega
   have p3 : ((k : Int) - 15).toNat = k - 15 := by omega
   have p4 : IntKind.i64.wrap ((k : Int) - 16) = (k : Int) - 16 := wrap_i64 (show -(9223372036854775808 : Int) ≤ ((k : Int) - 16) by omega) (show ((k : Int) - 16) < 9223372036854775808 by omega)
   have p5 : (0 : Int) ≤ (k : Int) - 16 := by omega
   have p6 : ((k : Int) - 16).toNat = k - 16 := by omega
   have p7 : IntKind.i64.wrap ((k : Int) - 7) = (k : Int) - 7 := wrap_i64 (show -(9223372036854775808 : Int) ≤ ((k : Int) - 7) by omega) (show ((k : Int) - 7) < 9223372036854775808 by omega)
   have p8 : (0 : Int) ≤ (k : Int) - 7 := by omega
   have p9 : ((k : Int) - 7).toNat = k - 7 := by omega
   have p10 : IntKind.i64.wrap ((k : Int) - 2) = (k : Int) - 2 := wrap_i64 (show -(9223372036854775808 : Int) ≤ ((k : Int) - 2) by omega) (show ((k : Int) - 2) < 9223372036854775808 by omega)
   have p11 : (0 : Int) ≤ (k : Int) - 2 := by omega
   have p12 : ((k : Int) - 2).toNat = k - 2 := by omega
   skip
   simp -implicitDefEqProofs only [go_sem, show (k : Int) < 64 by omega, show ¬ ((k : Int) < 16) by omega, show (k : Int) - 15 < ((64 : Nat) : Int) by omega, show (k : Int) - 2 < ((64 : Nat) : Int) by omega, show k - 15 + 1 ≤ 64 by omega, show k - 2 + 1 ≤ 64 by omega, f0, f1, f4, f23, p1, p2, p3, p4, p5, p6, p7, p8, p9, p10, p11, p12, wcl_len, hf, Nat.mul_one, r15, r16, r7, r2, xor_w32, shr3_w32, shr10_w32, add_w32]
   refine (turned_pc _ _ (k := 7) (by decide)).use ?_
   simp -implicitDefEqProofs only [go_sem, f0, f1, f4, f23, p1, p2, p3, p4, p5, p6, p7, p8, p9, p10, p11, p12, wcl_len, hf, Nat.mul_one, r15, r16, r7, r2, xor_w32, shr3_w32, shr10_w32, add_w32]
   refine (turned_pc _ _ (k := 18) (by decide)).use ?_
   simp -implicitDefEqProofs only [go_sem, f0, f1, f4, f23, p1, p2, p3, p4, p5, p6, p7, p8, p9, p10, p11, p12, wcl_len, hf, Nat.mul_one, r15, r16, r7, r2, xor_w32, shr3_w32, shr10_w32, add_w32]
   refine (turned_pc _ _ (k := 17) (by decide)).use ?_
   simp -implicitDefEqProofs only [go_sem, f0, f1, f4, f23, p1, p2, p3, p4, p5, p6, p7, p8, p9, p10, p11, p12, wcl_len, hf, Nat.mul_one, r15, r16, r7, r2, xor_w32, shr3_w32, shr10_w32, add_w32]
   refine (turned_pc _ _ (k := 19) (by decide)).use ?_
   simp -implicitDefEqProofs only [go_sem, show (k : Int) - 16 < ((64 : Nat) : Int) by omega, show (k : Int) - 7 < ((64 : Nat) : Int) by omega, show k - 16 + 1 ≤ 64 by omega, show k - 7 + 1 ≤ 64 by omega, hx, hp, hb4, Int.natCast_nonneg, Int.toNat_natCast, show (k : Int) < ((64 : Nat) : Int) by omega, show k + 1 ≤ 64 by omega, wrap_i64 (show -(9223372036854775808 : Int) ≤ ((k : Int) + 1) by omega) (show ((k : Int) + 1) < 9223372036854775808 by omega), f0, f1, f4, f23, p1, p2, p3, p4, p5, p6, p7, p8, p9, p10, p11, p12, wcl_len, hf, Nat.mul_one, r15, r16, r7, r2, xor_w32, shr3_w32, shr10_w32, add_w32]
   exact ⟨m - 1, by omega, _, Ext.refl _, k + 1, by omega, rfl, rfl⟩
 skip
 obtain rfl : k = 64 := by omega
 clear hk hm
 rw [wAll_64] at hlw
 simp only [wAll_64]
 generalize hW0 : w16 l 16 = W0 at *
 have hB : rnds (wGrow (w16 l 16) 48) s 64 = rnds (wGrow W0 48) s 64 := by rw [← hW0]
 generalize wGrow W0 48 = W at *
 generalize hH : h.set b4 ⟨wcl (fill W), 64⟩ = hh at *
 have eH : Ext h hh := by rw [← hH]; exact (Ext.refl _).set n4 _
 have gH : hh.get b4 = some ⟨wcl (fill W), 64⟩ := by rw [← hH]; exact H.set_get_same _ _ _
 have bH : hh.base ≤ b4 := by rw [eH.1]; exact hb4
 have bS' : hh.base ≤ bS := by rw [eH.1]; exact hb
 have gS : hh.get bS = some ⟨wcl s.list, z⟩ := eH.2.g _ _ hg
 have tb' : Tabs hh := tb.ext eH
 have hl8 : s.list.length = 8 := rfl
 have lS : ∀ (i : Nat) (x : BitVec 32), s.list[i]? = some x → ldc hh bS i 1 = some [w32 x] := by
  intro i x hx
  have hi : i < 8 := by rw [← hl8]; exact (List.getElem?_eq_some_iff.1 hx).1
  rw [ldc_get gS, if_pos (by rw [wcl_len, hl8]; omega), wcl_get hx]
 have d0 := lS 0 s.a rfl
 have d1 := lS 1 s.b rfl
 have d2 := lS 2 s.c rfl
 have d3 := lS 3 s.d rfl
 have d4 := lS 4 s.e rfl
 have d5 := lS 5 s.f rfl
 have d6 := lS 6 s.g rfl
 have d7 := lS 7 s.h rfl
 skip
 simp -implicitDefEqProofs only [go_sem, f0, f4, f23, show ¬ (((64 : Nat) : Int) < 64) by omega, Int.reduceToNat, show ((8 : Nat) : Int) = 8 from rfl, Int.reduceLT, Nat.zero_add, d0, d1, d2, d3, d4, d5, d6, d7, wcl_len, Nat.mul_one, xor_w32, shr3_w32, shr10_w32, add_w32]
 refine loopW_of (fun m f h' => ∃ k, m + k = 64 ∧ h' = hh ∧ f 0 = ptr bS 0 ∧ f 4 = ptr b4 0 ∧ f 107 = i64 k ∧ f 10 = w32 (rnds W s k).a ∧ f 11 = w32 (rnds W s k).b ∧ f 12 = w32 (rnds W s k).c ∧ f 13 = w32 (rnds W s k).d ∧ f 14 = w32 (rnds W s k).e ∧ f 15 = w32 (rnds W s k).f ∧ f 16 = w32 (rnds W s k).g ∧ f 17 = w32 (rnds W s k).h) 64
  ⟨0, by simp, rfl, by simp -implicitDefEqProofs only [go_sem, f0, wcl_len, Nat.mul_one, xor_w32, shr3_w32, shr10_w32, add_w32], by simp -implicitDefEqProofs only [go_sem, f4, wcl_len, Nat.mul_one, xor_w32, shr3_w32, shr10_w32, add_w32], by simp -implicitDefEqProofs only [go_sem, wcl_len, Nat.mul_one, xor_w32, shr3_w32, shr10_w32, add_w32]; rfl, by simp -implicitDefEqProofs only [go_sem, wcl_len, Nat.mul_one, xor_w32, shr3_w32, shr10_w32, add_w32]; rfl, by simp -implicitDefEqProofs only [go_sem, wcl_len, Nat.mul_one, xor_w32, shr3_w32, shr10_w32, add_w32]; rfl, by simp -implicitDefEqProofs only [go_sem, wcl_len, Nat.mul_one, xor_w32, shr3_w32, shr10_w32, add_w32]; rfl, by simp -implicitDefEqProofs only [go_sem, wcl_len, Nat.mul_one, xor_w32, shr3_w32, shr10_w32, add_w32]; rfl, by simp -implicitDefEqProofs only [go_sem, wcl_len, Nat.mul_one, xor_w32, shr3_w32, shr10_w32, add_w32]; rfl, by simp -implicitDefEqProofs only [go_sem, wcl_len, Nat.mul_one, xor_w32, shr3_w32, shr10_w32, add_w32]; rfl, by simp -implicitDefEqProofs only [go_sem, wcl_len, Nat.mul_one, xor_w32, shr3_w32, shr10_w32, add_w32]; rfl, by simp -implicitDefEqProofs only [go_sem, wcl_len, Nat.mul_one, xor_w32, shr3_w32, shr10_w32, add_w32]; rfl⟩ ?_
 clear f0 f1 f4 f23 m f
 rintro m f h' ⟨k, hm, rfl, f0, f4, f107, f10, f11, f12, f13, f14, f15, f16, f17⟩
 skip
 by_cases hk : k < 64
 ·have dk := tb'.key hk
  have dw := fill_get (l := W) (k := k) (by omega) (by omega)
  have hr : rnds W s (k + 1) = rnd (rnds W s k) (shaKey k) (W.getD k 0) := rfl
  have hf := fill_len (l := W) (by omega)
  generalize rnds W s k = r at *
  generalize W.getD k 0 = wk at *
  generalize shaKey k = kk at *
  have pk : IntKind.i64.wrap ((k : Int) + 1) = (k : Int) + 1 := wrap_i64 (show -(9223372036854775808 : Int) ≤ ((k : Int) + 1) by omega) (show ((k : Int) + 1) < 9223372036854775808 by omega)
  have G2 := fun o n => ldc_get gH o n
  skip
  simp -implicitDefEqProofs only [go_sem, show (k : Int) < 64 by omega, show (k : Int) < (64 : Nat) by omega, show k + 1 ≤ 64 by omega, Nat.mul_one, Int.toNat_natCast, Nat.zero_add, wcl_len, Nat.mul_one, xor_w32, shr3_w32, shr10_w32, add_w32, f0, f4, f107, f10, f11, f12, f13, f14, f15, f16, f17, Int.natCast_nonneg, xor_w32, and_w32, not_w32, add_w32, dk, G2, dw, wcl_len, hf, bH, pk]
  refine (turned_pc _ _ (k := 6) (by decide)).use ?_
  simp -implicitDefEqProofs only [go_sem, wcl_len, Nat.mul_one, xor_w32, shr3_w32, shr10_w32, add_w32, f0, f4, f107, f10, f11, f12, f13, f14, f15, f16, f17, Int.natCast_nonneg, xor_w32, and_w32, not_w32, add_w32, dk, G2, dw, wcl_len, hf, bH, pk]
  refine (turned_pc _ _ (k := 11) (by decide)).use ?_
  simp -implicitDefEqProofs only [go_sem, wcl_len, Nat.mul_one, xor_w32, shr3_w32, shr10_w32, add_w32, f0, f4, f107, f10, f11, f12, f13, f14, f15, f16, f17, Int.natCast_nonneg, xor_w32, and_w32, not_w32, add_w32, dk, G2, dw, wcl_len, hf, bH, pk]
  refine (turned_pc _ _ (k := 25) (by decide)).use ?_
  simp -implicitDefEqProofs only [go_sem, wcl_len, Nat.mul_one, xor_w32, shr3_w32, shr10_w32, add_w32, f0, f4, f107, f10, f11, f12, f13, f14, f15, f16, f17, Int.natCast_nonneg, xor_w32, and_w32, not_w32, add_w32, dk, G2, dw, wcl_len, hf, bH, pk]
  refine (turned_pc _ _ (k := 2) (by decide)).use ?_
  simp -implicitDefEqProofs only [go_sem, wcl_len, Nat.mul_one, xor_w32, shr3_w32, shr10_w32, add_w32, f0, f4, f107, f10, f11, f12, f13, f14, f15, f16, f17, Int.natCast_nonneg, xor_w32, and_w32, not_w32, add_w32, dk, G2, dw, wcl_len, hf, bH, pk]
  refine (turned_pc _ _ (k := 13) (by decide)).use ?_
  simp -implicitDefEqProofs only [go_sem, wcl_len, Nat.mul_one, xor_w32, shr3_w32, shr10_w32, add_w32, f0, f4, f107, f10, f11, f12, f13, f14, f15, f16, f17, Int.natCast_nonneg, xor_w32, and_w32, not_w32, add_w32, dk, G2, dw, wcl_len, hf, bH, pk]
  refine (turned_pc _ _ (k := 22) (by decide)).use ?_
  simp -implicitDefEqProofs only [go_sem, wcl_len, Nat.mul_one, xor_w32, shr3_w32, shr10_w32, add_w32, f0, f4, f107, f10, f11, f12, f13, f14, f15, f16, f17, Int.natCast_nonneg, xor_w32, and_w32, not_w32, add_w32, dk, G2, dw, wcl_len, hf, bH, pk]
  refine ⟨m - 1, by omega, _, Ext.refl _, k + 1, by omega, rfl, rfl, ?_⟩
  rw [hr]
  exact ⟨rfl, rfl, rfl, rfl, rfl, rfl, rfl, rfl⟩
 obtain rfl : k = 64 := by omega
 clear hk hm
 have hsum : (s.plus (rnds W s 64)) = T := by rw [← hT]; unfold shaBlock; rw [hB]
 clear hT hB
 generalize rnds W s 64 = r at *
 skip
 simp -implicitDefEqProofs only [go_sem, show ¬ (((64 : Nat) : Int) < 64) by omega, wcl_len, Nat.mul_one, xor_w32, shr3_w32, shr10_w32, add_w32, f0, f4, f107, f10, f11, f12, f13, f14, f15, f16, f17, Int.natCast_nonneg, xor_w32, and_w32, not_w32, add_w32, wcl_len, bH]
 skip
 have kH : Keep (fun x => x = bS) h h' := ⟨eH.1, fun b ob _ e => eH.2.g b ob e, fun b l e => eH.2.m b l e, fun b e => by
  cases q : h.get b with
  | none => exact absurd q e
  | some ob => rw [eH.2.g b ob q]; exact fun c => by cases c⟩
 refine loopW_of (fun m f h2 => ∃ (k : Nat), m + k = 8 ∧ f 0 = ptr bS 0 ∧ f 178 = .agg #[w32 r.a, w32 r.b, w32 r.c, w32 r.d, w32 r.e, w32 r.f, w32 r.g, w32 r.h] ∧ f 179 = i64 k ∧ Keep (fun x => x = bS) h h2 ∧ h2.get bS = some ⟨wcl ((s.plus r).list.take k ++ s.list.drop k), z⟩) 8
  ⟨0, by simp, by simp -implicitDefEqProofs only [go_sem, f0, wcl_len, Nat.mul_one, xor_w32, shr3_w32, shr10_w32, add_w32, Int.natCast_nonneg, xor_w32, and_w32, not_w32, add_w32, wcl_len, bH], by simp -implicitDefEqProofs only [go_sem, wcl_len, Nat.mul_one, xor_w32, shr3_w32, shr10_w32, add_w32, Int.natCast_nonneg, xor_w32, and_w32, not_w32, add_w32, wcl_len, bH], by simp -implicitDefEqProofs only [go_sem, wcl_len, Nat.mul_one, xor_w32, shr3_w32, shr10_w32, add_w32, Int.natCast_nonneg, xor_w32, and_w32, not_w32, add_w32, wcl_len, bH]; rfl, kH, gS⟩ ?_
 clear f0 f4 f107 f10 f11 f12 f13 f14 f15 f16 f17 m f
 rintro m f h4 ⟨k, hm, f0, f178, f179, k4, g4⟩
 have b4' : h4.base ≤ bS := by rw [k4.1]; exact hb
 by_cases hk : k < 8
 ·obtain ⟨x, y, hx, hy, hz, hv⟩ : ∃ x y, s.list[k]? = some x ∧ r.list[k]? = some y ∧ (s.plus r).list[k]? = some (x + y) ∧ [w32 r.a, w32 r.b, w32 r.c, w32 r.d, w32 r.e, w32 r.f, w32 r.g, w32 r.h][k]? = some (w32 y) := by
   match k, hk with
   | 0, _ | 1, _ | 2, _ | 3, _ | 4, _ | 5, _ | 6, _ | 7, _ => exact ⟨_, _, rfl, rfl, rfl, rfl⟩
  have hll : (s.plus r).list.length = s.list.length := (rfl : (s.plus r).list.length = 8).trans (rfl : 8 = s.list.length)
  have hq := upTo_get (a := (s.plus r).list) (b := s.list) hll hx
  have hq2 := upTo_set (a := (s.plus r).list) (b := s.list) hll hz hx
  have hq3 := upTo_len (a := (s.plus r).list) (b := s.list) hll (k := k)
  rw [hl8] at hq3
  generalize ((s.plus r).list.take k ++ s.list.drop k) = L at *
  have hld : ldc h4 bS k 1 = some [w32 x] := by rw [ldc_get g4, if_pos (by rw [wcl_len, hq3]; omega), wcl_get hq]
  have hst : stc h4 bS k [w32 (x + y)] 1 = some (h4.set bS ⟨wcl ((s.plus r).list.take (k + 1) ++ s.list.drop (k + 1)), z⟩) := by
   rw [stc_get g4, if_pos ⟨rfl, by simp only [wcl_len, hq3]; omega, rfl⟩, ← hq2, wcl_put _ _ _ (by rw [hq3]; exact hk)]
  simp -implicitDefEqProofs only [go_sem, f0, f178, f179, Int.natCast_nonneg, Int.toNat_natCast, show (k : Int) < 8 by omega, show (k : Int) < ((8 : Nat) : Int) by omega, Nat.mul_one, Nat.zero_add, hv, hld, add_w32, hst, b4', wrap_i64 (show -(9223372036854775808 : Int) ≤ ((k : Int) + 1) by omega) (show ((k : Int) + 1) < 9223372036854775808 by omega), wcl_len, Nat.mul_one, xor_w32, shr3_w32, shr10_w32, add_w32, Int.natCast_nonneg, xor_w32, and_w32, not_w32, add_w32, wcl_len, bH]
  exact ⟨m - 1, by omega, _, Ext.refl _, k + 1, by omega, rfl, k4.set (.inl rfl) _, H.set_get_same _ _ _⟩
 obtain rfl : k = 8 := by omega
 have e8 : (s.plus r).list.take 8 ++ s.list.drop 8 = T.list := by rw [hsum, List.take_of_length_le (by exact Nat.le_refl 8), List.drop_eq_nil_of_le (by exact Nat.le_refl 8), List.append_nil]
 rw [e8] at g4
 simp -implicitDefEqProofs only [go_sem, f0, f178, f179, show ¬ (((8 : Nat) : Int) < 8) by omega, wcl_len, Nat.mul_one, xor_w32, shr3_w32, shr10_w32, add_w32, Int.natCast_nonneg, xor_w32, and_w32, not_w32, add_w32, wcl_len, bH]
 exact ⟨k4, g4⟩
end Go.Proofs.YthjbhdmjfakfaaaGreatDoor