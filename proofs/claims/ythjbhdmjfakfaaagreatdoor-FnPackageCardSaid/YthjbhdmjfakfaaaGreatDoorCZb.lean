/- A helper of this seat's claims (contracts of the functions): what it shows is shown for every input that its statements name, on no other condition. -/
import Derived.Test.YthjbhdmjfakfaaaGreatDoorCZa
set_option linter.unusedVariables false
set_option linter.unusedSimpArgs false
set_option maxRecDepth 100000
namespace Go.Proofs.YthjbhdmjfakfaaaGreatDoor
open Go.KH

/-! ## A block of the program's digest -/
def wAll (l : List UInt8) (k : Nat) : List (BitVec 32) := if k ≤ 16 then w16 l k else wGrow (w16 l 16) (k - 16)
theorem wAll_len (l : List UInt8) (k : Nat) : (wAll l k).length = k := by
  unfold wAll
  split
  · exact w16_len l k
  · rw [wGrow_length, w16_len]; omega
theorem wAll_low {l : List UInt8} {k : Nat} (h : k < 16) : wAll l (k + 1) = wAll l k ++ [beW l k] := by
  unfold wAll
  rw [if_pos (by omega), if_pos (by omega), w16_succ]
theorem wAll_high {l : List UInt8} {k : Nat} (h : 16 ≤ k) : wAll l (k + 1) = wAll l k ++ [wNext (wAll l k)] := by
  have e : wAll l k = wGrow (w16 l 16) (k - 16) := by
    unfold wAll
    by_cases h1 : k ≤ 16
    · obtain rfl : k = 16 := by omega
      rw [if_pos (by omega)]; rfl
    · rw [if_neg h1]
  rw [e]
  unfold wAll
  rw [if_neg (by omega), show k + 1 - 16 = (k - 16) + 1 by omega]
  rfl
theorem wAll_64 (l : List UInt8) : wAll l 64 = wGrow (w16 l 16) 48 := by unfold wAll; rw [if_neg (by omega)]
theorem upTo_set {α : Type} {a b : List α} {k : Nat} {v w : α} (hl : a.length = b.length) (hz : a[k]? = some v) (hx : b[k]? = some w) : (a.take k ++ b.drop k).set k v = a.take (k + 1) ++ b.drop (k + 1) := by
  obtain ⟨h1, rfl⟩ := List.getElem?_eq_some_iff.1 hz
  have e : (a.take k).length = k := by simp; omega
  rw [List.set_append_right _ _ (by omega), e, Nat.sub_self, List.drop_eq_getElem_cons (by omega : k < b.length), List.set_cons_zero, List.take_add_one, hz, Option.toList, List.append_assoc]
  rfl
theorem upTo_get {α : Type} {a b : List α} {k : Nat} {w : α} (hl : a.length = b.length) (hx : b[k]? = some w) : (a.take k ++ b.drop k)[k]? = some w := by
  obtain ⟨h1, _⟩ := List.getElem?_eq_some_iff.1 hx
  have e : (a.take k).length = k := by simp; omega
  rw [List.getElem?_append_right (by omega), e, Nat.sub_self, List.getElem?_drop]
  exact hx
theorem upTo_len {α : Type} {a b : List α} {k : Nat} (hl : a.length = b.length) : (a.take k ++ b.drop k).length = b.length := by
  simp; omega
/-- impl.digestBlock -/
def b_impl_digestBlock : C := (.seq (.ops [⟨(some 4), none, .alloc [(.int .u32 0), (.int .u32 0), (.int .u32 0), (.int .u32 0), (.int .u32 0), (.int .u32 0), (.int .u32 0), (.int .u32 0), (.int .u32 0), (.int .u32 0), (.int .u32 0), (.int .u32 0), (.int .u32 0), (.int .u32 0), (.int .u32 0), (.int .u32 0), (.int .u32 0), (.int .u32 0), (.int .u32 0), (.int .u32 0), (.int .u32 0), (.int .u32 0), (.int .u32 0), (.int .u32 0), (.int .u32 0), (.int .u32 0), (.int .u32 0), (.int .u32 0), (.int .u32 0), (.int .u32 0), (.int .u32 0), (.int .u32 0), (.int .u32 0), (.int .u32 0), (.int .u32 0), (.int .u32 0), (.int .u32 0), (.int .u32 0), (.int .u32 0), (.int .u32 0), (.int .u32 0), (.int .u32 0), (.int .u32 0), (.int .u32 0), (.int .u32 0), (.int .u32 0), (.int .u32 0), (.int .u32 0), (.int .u32 0), (.int .u32 0), (.int .u32 0), (.int .u32 0), (.int .u32 0), (.int .u32 0), (.int .u32 0), (.int .u32 0), (.int .u32 0), (.int .u32 0), (.int .u32 0), (.int .u32 0), (.int .u32 0), (.int .u32 0), (.int .u32 0), (.int .u32 0)]⟩])
 (.seq (.seq (.ops [q 23 (.mv (.c (i64 0)))])
 (.block 0 (.loop (.seq (.ops [q 24 (.bin .lss (.t 23) (.c (i64 64)))])
 (.seq (.cond (.t 24) .skip (.exit 0))
 (.seq (.block 1 (.seq (.ops [q 25 (.mv (.t 23)), q 5 (.mv (.t 25))])
 (.seq (.seq (.ops [q 26 (.mv (.t 5)), q 27 (.bin .lss (.t 26) (.c (i64 16)))])
 (.cond (.t 27) (.seq (.ops [q 28 (.mv (.t 5)), q 29 (.mv (.t 1)), q 30 (.mv (.t 5)), q 31 (.bin .mul (.c (i64 4)) (.t 30)), q 32 (.ssl (.t 29) (some (.t 31)) none), ⟨(some 33), none, .call (.c (.func (.func 225) #[] #[])) [(.t 32)]⟩, q 34 (.aidx 64 1 (.t 4) (.t 28)), ⟨none, none, .st 1 (.t 34) (.t 33)⟩])
 (.exit 1)) .skip))
 (.seq (.dops true (.tk (q 35 (.mv (.t 5))) (.tk (q 36 (.bin .sub (.t 35) (.c (i64 15)))) (.tk (q 37 (.aidx 64 1 (.t 4) (.t 36))) (.tk (q 38 (.ld false 1 (.t 37))) (.tk (q 39 (.mv (.t 5))) (.tk (q 40 (.bin .sub (.t 39) (.c (i64 2)))) (.tk (q 41 (.aidx 64 1 (.t 4) (.t 40))) (.tk (q 42 (.ld false 1 (.t 41))) (.tk (q 6 (.mv (.t 38))) (.tk (q 7 (.mv (.t 42))) .nil)))))))))))
 (.seq (.ops [q 43 (.mv (.t 6)), ⟨(some 44), none, .call (.c (.func (.func 226) #[] #[])) [(.t 43), (.c (i64 7))]⟩, q 45 (.mv (.t 6)), ⟨(some 46), none, .call (.c (.func (.func 226) #[] #[])) [(.t 45), (.c (i64 18))]⟩, q 47 (.bin .xor (.t 44) (.t 46)), q 48 (.mv (.t 6)), q 49 (.bin .shr (.t 48) (.c (.int .u64 3))), q 50 (.bin .xor (.t 47) (.t 49)), q 8 (.mv (.t 50))])
 (.seq (.ops [q 51 (.mv (.t 7)), ⟨(some 52), none, .call (.c (.func (.func 226) #[] #[])) [(.t 51), (.c (i64 17))]⟩, q 53 (.mv (.t 7)), ⟨(some 54), none, .call (.c (.func (.func 226) #[] #[])) [(.t 53), (.c (i64 19))]⟩, q 55 (.bin .xor (.t 52) (.t 54)), q 56 (.mv (.t 7)), q 57 (.bin .shr (.t 56) (.c (.int .u64 10))), q 58 (.bin .xor (.t 55) (.t 57)), q 9 (.mv (.t 58))])
 (.dops true (.tk (q 59 (.mv (.t 5))) (.tk (q 60 (.mv (.t 5))) (.tk (q 61 (.bin .sub (.t 60) (.c (i64 16)))) (.tk (q 62 (.aidx 64 1 (.t 4) (.t 61))) (.tk (q 63 (.ld false 1 (.t 62))) (.tk (q 64 (.mv (.t 8))) (.tk (q 65 (.bin .add (.t 63) (.t 64))) (.tk (q 66 (.mv (.t 5))) (.tk (q 67 (.bin .sub (.t 66) (.c (i64 7)))) (.tk (q 68 (.aidx 64 1 (.t 4) (.t 67))) (.tk (q 69 (.ld false 1 (.t 68))) (.tk (q 70 (.bin .add (.t 65) (.t 69))) (.tk (q 71 (.mv (.t 9))) (.tk (q 72 (.bin .add (.t 70) (.t 71))) (.tk (q 73 (.aidx 64 1 (.t 4) (.t 59))) (.lt (⟨none, none, .st 1 (.t 73) (.t 72)⟩) .nil)))))))))))))))))))))))
 (.ops [q 74 (.bin .add (.t 23) (.c (i64 1))), q 23 (.mv (.t 74))])))))))
 (.seq (.dops true (.tk (q 75 (.mv (.t 0))) (.tk (q 76 (.nck (.t 75))) (.tk (q 77 (.aidx 8 1 (.t 76) (.c (i64 0)))) (.tk (q 78 (.ld false 1 (.t 77))) (.tk (q 79 (.mv (.t 0))) (.tk (q 80 (.nck (.t 79))) (.tk (q 81 (.aidx 8 1 (.t 80) (.c (i64 1)))) (.tk (q 82 (.ld false 1 (.t 81))) (.tk (q 83 (.mv (.t 0))) (.tk (q 84 (.nck (.t 83))) (.tk (q 85 (.aidx 8 1 (.t 84) (.c (i64 2)))) (.tk (q 86 (.ld false 1 (.t 85))) (.tk (q 87 (.mv (.t 0))) (.tk (q 88 (.nck (.t 87))) (.tk (q 89 (.aidx 8 1 (.t 88) (.c (i64 3)))) (.tk (q 90 (.ld false 1 (.t 89))) (.tk (q 91 (.mv (.t 0))) (.tk (q 92 (.nck (.t 91))) (.tk (q 93 (.aidx 8 1 (.t 92) (.c (i64 4)))) (.tk (q 94 (.ld false 1 (.t 93))) (.tk (q 95 (.mv (.t 0))) (.tk (q 96 (.nck (.t 95))) (.tk (q 97 (.aidx 8 1 (.t 96) (.c (i64 5)))) (.tk (q 98 (.ld false 1 (.t 97))) (.tk (q 99 (.mv (.t 0))) (.tk (q 100 (.nck (.t 99))) (.tk (q 101 (.aidx 8 1 (.t 100) (.c (i64 6)))) (.tk (q 102 (.ld false 1 (.t 101))) (.tk (q 103 (.mv (.t 0))) (.tk (q 104 (.nck (.t 103))) (.tk (q 105 (.aidx 8 1 (.t 104) (.c (i64 7)))) (.tk (q 106 (.ld false 1 (.t 105))) (.tk (q 10 (.mv (.t 78))) (.tk (q 11 (.mv (.t 82))) (.tk (q 12 (.mv (.t 86))) (.tk (q 13 (.mv (.t 90))) (.tk (q 14 (.mv (.t 94))) (.tk (q 15 (.mv (.t 98))) (.tk (q 16 (.mv (.t 102))) (.tk (q 17 (.mv (.t 106))) .nil)))))))))))))))))))))))))))))))))))))))))
 (.seq (.seq (.ops [q 107 (.mv (.c (i64 0)))])
 (.block 2 (.loop (.seq (.ops [q 108 (.bin .lss (.t 107) (.c (i64 64)))])
 (.seq (.cond (.t 108) .skip (.exit 2))
 (.seq (.block 3 (.seq (.ops [q 109 (.mv (.t 107)), q 18 (.mv (.t 109))])
 (.seq (.dops true (.tk (q 110 (.mv (.t 17))) (.tk (q 111 (.mv (.t 14))) (.tk (q 113 (.mv (.t 14))) (.tk (q 116 (.mv (.t 14))) (.tk (q 120 (.mv (.t 14))) (.tk (q 121 (.mv (.t 15))) (.tk (q 122 (.bin .and (.t 120) (.t 121))) (.tk (q 123 (.mv (.t 14))) (.tk (q 124 (.un .xor (.t 123))) (.tk (q 125 (.mv (.t 16))) (.tk (q 126 (.bin .and (.t 124) (.t 125))) (.tk (q 127 (.bin .xor (.t 122) (.t 126))) (.tk (q 129 (.mv (.t 18))) (.tk (q 130 (.aidx 64 1 (.c (ptr 1 0)) (.t 129))) (.tk (q 131 (.ld false 1 (.t 130))) (.tk (q 133 (.mv (.t 18))) (.tk (q 134 (.aidx 64 1 (.t 4) (.t 133))) (.tk (q 135 (.ld false 1 (.t 134))) (.sq (⟨(some 112), none, .call (.c (.func (.func 226) #[] #[])) [(.t 111), (.c (i64 6))]⟩) (.sq (⟨(some 114), none, .call (.c (.func (.func 226) #[] #[])) [(.t 113), (.c (i64 11))]⟩) (.tk (q 115 (.bin .xor (.t 112) (.t 114))) (.sq (⟨(some 117), none, .call (.c (.func (.func 226) #[] #[])) [(.t 116), (.c (i64 25))]⟩) (.tk (q 118 (.bin .xor (.t 115) (.t 117))) (.tk (q 119 (.bin .add (.t 110) (.t 118))) (.tk (q 128 (.bin .add (.t 119) (.t 127))) (.tk (q 132 (.bin .add (.t 128) (.t 131))) (.tk (q 136 (.bin .add (.t 132) (.t 135))) (.tk (q 19 (.mv (.t 136))) .nil)))))))))))))))))))))))))))))
 (.seq (.ops [q 137 (.mv (.t 10)), ⟨(some 138), none, .call (.c (.func (.func 226) #[] #[])) [(.t 137), (.c (i64 2))]⟩, q 139 (.mv (.t 10)), ⟨(some 140), none, .call (.c (.func (.func 226) #[] #[])) [(.t 139), (.c (i64 13))]⟩, q 141 (.bin .xor (.t 138) (.t 140)), q 142 (.mv (.t 10)), ⟨(some 143), none, .call (.c (.func (.func 226) #[] #[])) [(.t 142), (.c (i64 22))]⟩, q 144 (.bin .xor (.t 141) (.t 143)), q 145 (.mv (.t 10)), q 146 (.mv (.t 11)), q 147 (.bin .and (.t 145) (.t 146)), q 148 (.mv (.t 10)), q 149 (.mv (.t 12)), q 150 (.bin .and (.t 148) (.t 149)), q 151 (.bin .xor (.t 147) (.t 150)), q 152 (.mv (.t 11)), q 153 (.mv (.t 12)), q 154 (.bin .and (.t 152) (.t 153)), q 155 (.bin .xor (.t 151) (.t 154)), q 156 (.bin .add (.t 144) (.t 155)), q 20 (.mv (.t 156))])
 (.ops [q 157 (.mv (.t 19)), q 158 (.mv (.t 20)), q 159 (.bin .add (.t 157) (.t 158)), q 160 (.mv (.t 10)), q 161 (.mv (.t 11)), q 162 (.mv (.t 12)), q 163 (.mv (.t 13)), q 164 (.mv (.t 19)), q 165 (.bin .add (.t 163) (.t 164)), q 166 (.mv (.t 14)), q 167 (.mv (.t 15)), q 168 (.mv (.t 16)), q 10 (.mv (.t 159)), q 11 (.mv (.t 160)), q 12 (.mv (.t 161)), q 13 (.mv (.t 162)), q 14 (.mv (.t 165)), q 15 (.mv (.t 166)), q 16 (.mv (.t 167)), q 17 (.mv (.t 168))])))))
 (.ops [q 169 (.bin .add (.t 107) (.c (i64 1))), q 107 (.mv (.t 169))])))))))
 (.seq (.ops [q 170 (.mv (.t 10)), q 171 (.mv (.t 11)), q 172 (.mv (.t 12)), q 173 (.mv (.t 13)), q 174 (.mv (.t 14)), q 175 (.mv (.t 15)), q 176 (.mv (.t 16)), q 177 (.mv (.t 17)), q 178 (.build [(.int .u32 0), (.int .u32 0), (.int .u32 0), (.int .u32 0), (.int .u32 0), (.int .u32 0), (.int .u32 0), (.int .u32 0)] [(0, 1, (.t 170)), (1, 1, (.t 171)), (2, 1, (.t 172)), (3, 1, (.t 173)), (4, 1, (.t 174)), (5, 1, (.t 175)), (6, 1, (.t 176)), (7, 1, (.t 177))]), q 179 (.mv (.c (i64 0)))])
 (.block 4 (.loop (.seq (.ops [q 180 (.bin .lss (.t 179) (.c (i64 8)))])
 (.seq (.cond (.t 180) .skip (.exit 4))
 (.seq (.block 5 (.seq (.ops [q 181 (.mv (.t 179)), q 182 (.ix false 8 1 (.t 178) (.t 179)), q 21 (.mv (.t 181)), q 22 (.mv (.t 182))])
 (.dops true (.tk (q 183 (.mv (.t 0))) (.tk (q 184 (.mv (.t 21))) (.tk (q 185 (.nck (.t 183))) (.tk (q 186 (.aidx 8 1 (.t 185) (.t 184))) (.tk (q 187 (.ld false 1 (.t 186))) (.tk (q 188 (.mv (.t 22))) (.tk (q 189 (.bin .add (.t 187) (.t 188))) (.tk (q 190 (.nck (.t 183))) (.tk (q 191 (.aidx 8 1 (.t 190) (.t 184))) (.lt (⟨none, none, .st 1 (.t 191) (.t 189)⟩) .nil)))))))))))))
 (.ops [q 192 (.bin .add (.t 179) (.c (i64 1))), q 179 (.mv (.t 192))])))))))))))
theorem w_impl_digestBlock {args : List Value} {h : H} {Q : Value → H → Prop} (hl : args.length ≤ 193) (hk : wpc Tryz.prog b_impl_digestBlock (retw [] Q) (argsFr args) h) : AC Tryz.prog 174 args h Q :=
  AC.of_wpc mixedOrders Tryz.func174 (by kernel_rfl) (by kernel_rfl : prepF Tryz.prog Tryz.f174 = some ⟨193, [], b_impl_digestBlock⟩) hl hk

set_option maxHeartbeats 6400000 in
theorem digestBlock_ac0 {h : H} {bS z : Nat} {s T : S8} {l : List UInt8} (hT : shaBlock s l = T) (tb : Tabs h) (hg : h.get bS = some ⟨wcl s.list, z⟩) (hb : h.base ≤ bS) (hl : l.length = 64) :
    AC Tryz.prog 174 [ptr bS 0, str l] h fun r h' => Keep (fun x => x = bS) h h' ∧ h'.get bS = some ⟨wcl T.list, z⟩ := by
  refine w_impl_digestBlock (by simp) ?_
  unfold b_impl_digestBlock
  simp -implicitDefEqProofs only [go_sem]
  intro b4 hb4 n4
  have z4 : b4 ≠ bS := fun e => by rw [e, hg] at n4; cases n4
  have h0 : [(Value.int .u32 0), (Value.int .u32 0), (.int .u32 0), (.int .u32 0), (.int .u32 0), (.int .u32 0), (.int .u32 0), (.int .u32 0), (.int .u32 0), (.int .u32 0), (.int .u32 0), (.int .u32 0), (.int .u32 0), (.int .u32 0), (.int .u32 0), (.int .u32 0), (.int .u32 0), (.int .u32 0), (.int .u32 0), (.int .u32 0), (.int .u32 0), (.int .u32 0), (.int .u32 0), (.int .u32 0), (.int .u32 0), (.int .u32 0), (.int .u32 0), (.int .u32 0), (.int .u32 0), (.int .u32 0), (.int .u32 0), (.int .u32 0), (.int .u32 0), (.int .u32 0), (.int .u32 0), (.int .u32 0), (.int .u32 0), (.int .u32 0), (.int .u32 0), (.int .u32 0), (.int .u32 0), (.int .u32 0), (.int .u32 0), (.int .u32 0), (.int .u32 0), (.int .u32 0), (.int .u32 0), (.int .u32 0), (.int .u32 0), (.int .u32 0), (.int .u32 0), (.int .u32 0), (.int .u32 0), (.int .u32 0), (.int .u32 0), (.int .u32 0), (.int .u32 0), (.int .u32 0), (.int .u32 0), (.int .u32 0), (.int .u32 0), (.int .u32 0), (.int .u32 0), (.int .u32 0)] = wcl (fill (wAll l 0)) := rfl
  rw [h0]
  simp -implicitDefEqProofs only [go_sem]
  refine loopW_of (fun m f h' => ∃ k, m + k = 64 ∧ h' = h.set b4 ⟨wcl (fill (wAll l k)), 64⟩ ∧ f 0 = ptr bS 0 ∧ f 1 = str l ∧ f 4 = ptr b4 0 ∧ f 23 = i64 k) 64
    ⟨0, by simp, rfl, by simp -implicitDefEqProofs only [go_sem], by simp -implicitDefEqProofs only [go_sem], by simp -implicitDefEqProofs only [go_sem], by simp -implicitDefEqProofs only [go_sem]; rfl⟩ ?_
  rintro m f h' ⟨k, hm, rfl, f0, f1, f4, f23⟩
  have hlw := wAll_len l k
  by_cases hk : k < 64
  · have hf := fill_len (l := wAll l k) (by omega)
    by_cases hk16 : k < 16
    · have hp := fill_put hlw hk (beW l k)
      rw [← wAll_low hk16] at hp
      obtain ⟨x0, e0⟩ : ∃ x, l[4 * k]? = some x := ⟨_, List.getElem?_eq_getElem (by omega)⟩
      obtain ⟨x1, e1⟩ : ∃ x, l[4 * k + 1]? = some x := ⟨_, List.getElem?_eq_getElem (by omega)⟩
      obtain ⟨x2, e2⟩ : ∃ x, l[4 * k + 2]? = some x := ⟨_, List.getElem?_eq_getElem (by omega)⟩
      obtain ⟨x3, e3⟩ : ∃ x, l[4 * k + 3]? = some x := ⟨_, List.getElem?_eq_getElem (by omega)⟩
      have hw : b32 x0 <<< 24 ||| b32 x1 <<< 16 ||| b32 x2 <<< 8 ||| b32 x3 = beW l k := by simp only [beW, List.getD, e0, e1, e2, e3, Option.getD_some]
      have htk : (l.take l.length).drop (4 * k) = l.drop (4 * k) := by rw [List.take_length]
      simp -implicitDefEqProofs only [go_sem, f0, f1, f4, f23, show (k : Int) < 64 by omega, show (k : Int) < 16 by omega, wrap_i64 (show -(9223372036854775808 : Int) ≤ (4 * (k : Int)) by omega) (show (4 * (k : Int)) < 9223372036854775808 by omega), show (0 : Int) ≤ 4 * (k : Int) by omega, show 4 * (k : Int) ≤ (l.length : Int) by omega, show (4 * (k : Int)).toNat = 4 * k by omega, htk]
      refine (bigWord_pc _ (s := l.drop (4 * k)) (a := x0) (b := x1) (c := x2) (d := x3) (by rw [List.getElem?_drop]; exact e0) (by rw [List.getElem?_drop]; exact e1) (by rw [List.getElem?_drop]; exact e2) (by rw [List.getElem?_drop]; exact e3)).use ?_
      rw [hw]
      simp -implicitDefEqProofs only [go_sem, f4, f23, Int.natCast_nonneg, Int.toNat_natCast, show (k : Int) < ((64 : Nat) : Int) by omega, Nat.mul_one, wcl_len, hf, hk, show k + 1 ≤ 64 by omega, hb4, hp, wrap_i64 (show -(9223372036854775808 : Int) ≤ ((k : Int) + 1) by omega) (show ((k : Int) + 1) < 9223372036854775808 by omega)]
      exact ⟨m - 1, by omega, _, Ext.refl _, k + 1, by omega, rfl, f0, f1, rfl⟩
    · have hp := fill_put hlw hk (wNext (wAll l k))
      rw [← wAll_high (by omega)] at hp
      have r15 := fill_get (l := wAll l k) (k := k - 15) (by omega) (by omega)
      have r16 := fill_get (l := wAll l k) (k := k - 16) (by omega) (by omega)
      have r7 := fill_get (l := wAll l k) (k := k - 7) (by omega) (by omega)
      have r2 := fill_get (l := wAll l k) (k := k - 2) (by omega) (by omega)
      have hx : (wAll l k).getD (k - 16) 0 + (rotW ((wAll l k).getD (k - 15) 0) 7 ^^^ rotW ((wAll l k).getD (k - 15) 0) 18 ^^^ (wAll l k).getD (k - 15) 0 >>> 3) + (wAll l k).getD (k - 7) 0 + (rotW ((wAll l k).getD (k - 2) 0) 17 ^^^ rotW ((wAll l k).getD (k - 2) 0) 19 ^^^ (wAll l k).getD (k - 2) 0 >>> 10) = wNext (wAll l k) := by
        simp only [wNext, hlw]
      generalize (wAll l k).getD (k - 16) 0 = y16 at *
      generalize (wAll l k).getD (k - 15) 0 = y15 at *
      generalize (wAll l k).getD (k - 7) 0 = y7 at *
      generalize (wAll l k).getD (k - 2) 0 = y2 at *
      have p1 : IntKind.i64.wrap ((k : Int) - 15) = (k : Int) - 15 := wrap_i64 (show -(9223372036854775808 : Int) ≤ ((k : Int) - 15) by omega) (show ((k : Int) - 15) < 9223372036854775808 by omega)
      have p2 : (0 : Int) ≤ (k : Int) - 15 := by omega
      have p3 : ((k : Int) - 15).toNat = k - 15 := by omega
      have p4 : IntKind.i64.wrap ((k : Int) - 16) = (k : Int) - 16 := wrap_i64 (show -(9223372036854775808 : Int) ≤ ((k : Int) - 16) by omega) (show ((k : Int) - 16) < 9223372036854775808 by omega)
      have p5 : (0 : Int) ≤ (k : Int) - 16 := by omega
      have p6 : ((k : Int) - 16).toNat = k - 16 := by omega
      have p7 : IntKind.i64.wrap ((k : Int) - 7) = (k : Int) - 7 := wrap_i64 (show -(9223372036854775808 : Int) ≤ ((k : Int) - 7) by omega) (show ((k : Int) - 7) < 9223372036854775808 by omega)
      have p8 : (0 : Int) ≤ (k : Int) - 7 := by omega
      have p9 : ((k : Int) - 7).toNat = k - 7 := by omega
      have p10 : IntKind.i64.wrap ((k : Int) - 2) = (k : Int) - 2 := wrap_i64 (show -(9223372036854775808 : Int) ≤ ((k : Int) - 2) by omega) (show ((k : Int) - 2) < 9223372036854775808 by omega)
      have p11 : (0 : Int) ≤ (k : Int) - 2 := by omega
      have p12 : ((k : Int) - 2).toNat = k - 2 := by omega
      skip
      simp -implicitDefEqProofs only [go_sem, show (k : Int) < 64 by omega, show ¬ ((k : Int) < 16) by omega, show (k : Int) - 15 < ((64 : Nat) : Int) by omega, show (k : Int) - 2 < ((64 : Nat) : Int) by omega, show k - 15 + 1 ≤ 64 by omega, show k - 2 + 1 ≤ 64 by omega, f0, f1, f4, f23, p1, p2, p3, p4, p5, p6, p7, p8, p9, p10, p11, p12, wcl_len, hf, Nat.mul_one, r15, r16, r7, r2, xor_w32, shr3_w32, shr10_w32, add_w32]
      refine (turned_pc _ _ (k := 7) (by decide)).use ?_
      simp -implicitDefEqProofs only [go_sem, f0, f1, f4, f23, p1, p2, p3, p4, p5, p6, p7, p8, p9, p10, p11, p12, wcl_len, hf, Nat.mul_one, r15, r16, r7, r2, xor_w32, shr3_w32, shr10_w32, add_w32]
      refine (turned_pc _ _ (k := 18) (by decide)).use ?_
      simp -implicitDefEqProofs only [go_sem, f0, f1, f4, f23, p1, p2, p3, p4, p5, p6, p7, p8, p9, p10, p11, p12, wcl_len, hf, Nat.mul_one, r15, r16, r7, r2, xor_w32, shr3_w32, shr10_w32, add_w32]
      refine (turned_pc _ _ (k := 17) (by decide)).use ?_
      simp -implicitDefEqProofs only [go_sem, f0, f1, f4, f23, p1, p2, p3, p4, p5, p6, p7, p8, p9, p10, p11, p12, wcl_len, hf, Nat.mul_one, r15, r16, r7, r2, xor_w32, shr3_w32, shr10_w32, add_w32]
      refine (turned_pc _ _ (k := 19) (by decide)).use ?_
      simp -implicitDefEqProofs only [go_sem, show (k : Int) - 16 < ((64 : Nat) : Int) by omega, show (k : Int) - 7 < ((64 : Nat) : Int) by omega, show k - 16 + 1 ≤ 64 by omega, show k - 7 + 1 ≤ 64 by omega, hx, hp, hb4, Int.natCast_nonneg, Int.toNat_natCast, show (k : Int) < ((64 : Nat) : Int) by omega, show k + 1 ≤ 64 by omega, wrap_i64 (show -(9223372036854775808 : Int) ≤ ((k : Int) + 1) by omega) (show ((k : Int) + 1) < 9223372036854775808 by omega), f0, f1, f4, f23, p1, p2, p3, p4, p5, p6, p7, p8, p9, p10, p11, p12, wcl_len, hf, Nat.mul_one, r15, r16, r7, r2, xor_w32, shr3_w32, shr10_w32, add_w32]
      exact ⟨m - 1, by omega, _, Ext.refl _, k + 1, by omega, rfl, rfl⟩
  skip
  obtain rfl : k = 64 := by omega
  clear hk hm
  rw [wAll_64] at hlw
  simp only [wAll_64]
  generalize hW0 : w16 l 16 = W0 at *
  have hB : rnds (wGrow (w16 l 16) 48) s 64 = rnds (wGrow W0 48) s 64 := by rw [← hW0]
  generalize wGrow W0 48 = W at *
  generalize hH : h.set b4 ⟨wcl (fill W), 64⟩ = hh at *
  have eH : Ext h hh := by rw [← hH]; exact (Ext.refl _).set n4 _
  have gH : hh.get b4 = some ⟨wcl (fill W), 64⟩ := by rw [← hH]; exact H.set_get_same _ _ _
  have bH : hh.base ≤ b4 := by rw [eH.1]; exact hb4
  have bS' : hh.base ≤ bS := by rw [eH.1]; exact hb
  have gS : hh.get bS = some ⟨wcl s.list, z⟩ := eH.2.g _ _ hg
  have tb' : Tabs hh := tb.ext eH
  have hl8 : s.list.length = 8 := rfl
  have lS : ∀ (i : Nat) (x : BitVec 32), s.list[i]? = some x → ldc hh bS i 1 = some [w32 x] := by
    intro i x hx
    have hi : i < 8 := by rw [← hl8]; exact (List.getElem?_eq_some_iff.1 hx).1
    rw [ldc_get gS, if_pos (by rw [wcl_len, hl8]; omega), wcl_get hx]
  have d0 := lS 0 s.a rfl
  have d1 := lS 1 s.b rfl
  have d2 := lS 2 s.c rfl
  have d3 := lS 3 s.d rfl
  have d4 := lS 4 s.e rfl
  have d5 := lS 5 s.f rfl
  have d6 := lS 6 s.g rfl
  have d7 := lS 7 s.h rfl
  skip
  simp -implicitDefEqProofs only [go_sem, f0, f4, f23, show ¬ (((64 : Nat) : Int) < 64) by omega, Int.reduceToNat, show ((8 : Nat) : Int) = 8 from rfl, Int.reduceLT, Nat.zero_add, d0, d1, d2, d3, d4, d5, d6, d7, wcl_len, Nat.mul_one, xor_w32, shr3_w32, shr10_w32, add_w32]
  refine loopW_of (fun m f h' => ∃ k, m + k = 64 ∧ h' = hh ∧ f 0 = ptr bS 0 ∧ f 4 = ptr b4 0 ∧ f 107 = i64 k ∧ f 10 = w32 (rnds W s k).a ∧ f 11 = w32 (rnds W s k).b ∧ f 12 = w32 (rnds W s k).c ∧ f 13 = w32 (rnds W s k).d ∧ f 14 = w32 (rnds W s k).e ∧ f 15 = w32 (rnds W s k).f ∧ f 16 = w32 (rnds W s k).g ∧ f 17 = w32 (rnds W s k).h) 64
    ⟨0, by simp, rfl, by simp -implicitDefEqProofs only [go_sem, f0, wcl_len, Nat.mul_one, xor_w32, shr3_w32, shr10_w32, add_w32], by simp -implicitDefEqProofs only [go_sem, f4, wcl_len, Nat.mul_one, xor_w32, shr3_w32, shr10_w32, add_w32], by simp -implicitDefEqProofs only [go_sem, wcl_len, Nat.mul_one, xor_w32, shr3_w32, shr10_w32, add_w32]; rfl, by simp -implicitDefEqProofs only [go_sem, wcl_len, Nat.mul_one, xor_w32, shr3_w32, shr10_w32, add_w32]; rfl, by simp -implicitDefEqProofs only [go_sem, wcl_len, Nat.mul_one, xor_w32, shr3_w32, shr10_w32, add_w32]; rfl, by simp -implicitDefEqProofs only [go_sem, wcl_len, Nat.mul_one, xor_w32, shr3_w32, shr10_w32, add_w32]; rfl, by simp -implicitDefEqProofs only [go_sem, wcl_len, Nat.mul_one, xor_w32, shr3_w32, shr10_w32, add_w32]; rfl, by simp -implicitDefEqProofs only [go_sem, wcl_len, Nat.mul_one, xor_w32, shr3_w32, shr10_w32, add_w32]; rfl, by simp -implicitDefEqProofs only [go_sem, wcl_len, Nat.mul_one, xor_w32, shr3_w32, shr10_w32, add_w32]; rfl, by simp -implicitDefEqProofs only [go_sem, wcl_len, Nat.mul_one, xor_w32, shr3_w32, shr10_w32, add_w32]; rfl, by simp -implicitDefEqProofs only [go_sem, wcl_len, Nat.mul_one, xor_w32, shr3_w32, shr10_w32, add_w32]; rfl⟩ ?_
  clear f0 f1 f4 f23 m f
  rintro m f h' ⟨k, hm, rfl, f0, f4, f107, f10, f11, f12, f13, f14, f15, f16, f17⟩
  skip
  by_cases hk : k < 64
  · have dk := tb'.key hk
    have dw := fill_get (l := W) (k := k) (by omega) (by omega)
    have hr : rnds W s (k + 1) = rnd (rnds W s k) (shaKey k) (W.getD k 0) := rfl
    have hf := fill_len (l := W) (by omega)
    generalize rnds W s k = r at *
    generalize W.getD k 0 = wk at *
    generalize shaKey k = kk at *
    have pk : IntKind.i64.wrap ((k : Int) + 1) = (k : Int) + 1 := wrap_i64 (show -(9223372036854775808 : Int) ≤ ((k : Int) + 1) by omega) (show ((k : Int) + 1) < 9223372036854775808 by omega)
    have G2 := fun o n => ldc_get gH o n
    skip
    simp -implicitDefEqProofs only [go_sem, show (k : Int) < 64 by omega, show (k : Int) < (64 : Nat) by omega, show k + 1 ≤ 64 by omega, Nat.mul_one, Int.toNat_natCast, Nat.zero_add, wcl_len, Nat.mul_one, xor_w32, shr3_w32, shr10_w32, add_w32, f0, f4, f107, f10, f11, f12, f13, f14, f15, f16, f17, Int.natCast_nonneg, xor_w32, and_w32, not_w32, add_w32, dk, G2, dw, wcl_len, hf, bH, pk]
    refine (turned_pc _ _ (k := 6) (by decide)).use ?_
    simp -implicitDefEqProofs only [go_sem, wcl_len, Nat.mul_one, xor_w32, shr3_w32, shr10_w32, add_w32, f0, f4, f107, f10, f11, f12, f13, f14, f15, f16, f17, Int.natCast_nonneg, xor_w32, and_w32, not_w32, add_w32, dk, G2, dw, wcl_len, hf, bH, pk]
    refine (turned_pc _ _ (k := 11) (by decide)).use ?_
    simp -implicitDefEqProofs only [go_sem, wcl_len, Nat.mul_one, xor_w32, shr3_w32, shr10_w32, add_w32, f0, f4, f107, f10, f11, f12, f13, f14, f15, f16, f17, Int.natCast_nonneg, xor_w32, and_w32, not_w32, add_w32, dk, G2, dw, wcl_len, hf, bH, pk]
    refine (turned_pc _ _ (k := 25) (by decide)).use ?_
    simp -implicitDefEqProofs only [go_sem, wcl_len, Nat.mul_one, xor_w32, shr3_w32, shr10_w32, add_w32, f0, f4, f107, f10, f11, f12, f13, f14, f15, f16, f17, Int.natCast_nonneg, xor_w32, and_w32, not_w32, add_w32, dk, G2, dw, wcl_len, hf, bH, pk]
    refine (turned_pc _ _ (k := 2) (by decide)).use ?_
    simp -implicitDefEqProofs only [go_sem, wcl_len, Nat.mul_one, xor_w32, shr3_w32, shr10_w32, add_w32, f0, f4, f107, f10, f11, f12, f13, f14, f15, f16, f17, Int.natCast_nonneg, xor_w32, and_w32, not_w32, add_w32, dk, G2, dw, wcl_len, hf, bH, pk]
    refine (turned_pc _ _ (k := 13) (by decide)).use ?_
    simp -implicitDefEqProofs only [go_sem, wcl_len, Nat.mul_one, xor_w32, shr3_w32, shr10_w32, add_w32, f0, f4, f107, f10, f11, f12, f13, f14, f15, f16, f17, Int.natCast_nonneg, xor_w32, and_w32, not_w32, add_w32, dk, G2, dw, wcl_len, hf, bH, pk]
    refine (turned_pc _ _ (k := 22) (by decide)).use ?_
    simp -implicitDefEqProofs only [go_sem, wcl_len, Nat.mul_one, xor_w32, shr3_w32, shr10_w32, add_w32, f0, f4, f107, f10, f11, f12, f13, f14, f15, f16, f17, Int.natCast_nonneg, xor_w32, and_w32, not_w32, add_w32, dk, G2, dw, wcl_len, hf, bH, pk]
    refine ⟨m - 1, by omega, _, Ext.refl _, k + 1, by omega, rfl, rfl, ?_⟩
    rw [hr]
    exact ⟨rfl, rfl, rfl, rfl, rfl, rfl, rfl, rfl⟩
  obtain rfl : k = 64 := by omega
  clear hk hm
  have hsum : (s.plus (rnds W s 64)) = T := by rw [← hT]; unfold shaBlock; rw [hB]
  clear hT hB
  generalize rnds W s 64 = r at *
  skip
  simp -implicitDefEqProofs only [go_sem, show ¬ (((64 : Nat) : Int) < 64) by omega, wcl_len, Nat.mul_one, xor_w32, shr3_w32, shr10_w32, add_w32, f0, f4, f107, f10, f11, f12, f13, f14, f15, f16, f17, Int.natCast_nonneg, xor_w32, and_w32, not_w32, add_w32, wcl_len, bH]
  skip
  have kH : Keep (fun x => x = bS) h h' := ⟨eH.1, fun b ob _ e => eH.2.g b ob e, fun b l e => eH.2.m b l e, fun b e => by
    cases q : h.get b with
    | none => exact absurd q e
    | some ob => rw [eH.2.g b ob q]; exact fun c => by cases c⟩
  refine loopW_of (fun m f h2 => ∃ (k : Nat), m + k = 8 ∧ f 0 = ptr bS 0 ∧ f 178 = .agg #[w32 r.a, w32 r.b, w32 r.c, w32 r.d, w32 r.e, w32 r.f, w32 r.g, w32 r.h] ∧ f 179 = i64 k ∧ Keep (fun x => x = bS) h h2 ∧ h2.get bS = some ⟨wcl ((s.plus r).list.take k ++ s.list.drop k), z⟩) 8
    ⟨0, by simp, by simp -implicitDefEqProofs only [go_sem, f0, wcl_len, Nat.mul_one, xor_w32, shr3_w32, shr10_w32, add_w32, Int.natCast_nonneg, xor_w32, and_w32, not_w32, add_w32, wcl_len, bH], by simp -implicitDefEqProofs only [go_sem, wcl_len, Nat.mul_one, xor_w32, shr3_w32, shr10_w32, add_w32, Int.natCast_nonneg, xor_w32, and_w32, not_w32, add_w32, wcl_len, bH], by simp -implicitDefEqProofs only [go_sem, wcl_len, Nat.mul_one, xor_w32, shr3_w32, shr10_w32, add_w32, Int.natCast_nonneg, xor_w32, and_w32, not_w32, add_w32, wcl_len, bH]; rfl, kH, gS⟩ ?_
  clear f0 f4 f107 f10 f11 f12 f13 f14 f15 f16 f17 m f
  rintro m f h4 ⟨k, hm, f0, f178, f179, k4, g4⟩
  have b4' : h4.base ≤ bS := by rw [k4.1]; exact hb
  by_cases hk : k < 8
  · obtain ⟨x, y, hx, hy, hz, hv⟩ : ∃ x y, s.list[k]? = some x ∧ r.list[k]? = some y ∧ (s.plus r).list[k]? = some (x + y) ∧ [w32 r.a, w32 r.b, w32 r.c, w32 r.d, w32 r.e, w32 r.f, w32 r.g, w32 r.h][k]? = some (w32 y) := by
      match k, hk with
      | 0, _ | 1, _ | 2, _ | 3, _ | 4, _ | 5, _ | 6, _ | 7, _ => exact ⟨_, _, rfl, rfl, rfl, rfl⟩
    have hll : (s.plus r).list.length = s.list.length := (rfl : (s.plus r).list.length = 8).trans (rfl : 8 = s.list.length)
    have hq := upTo_get (a := (s.plus r).list) (b := s.list) hll hx
    have hq2 := upTo_set (a := (s.plus r).list) (b := s.list) hll hz hx
    have hq3 := upTo_len (a := (s.plus r).list) (b := s.list) hll (k := k)
    rw [hl8] at hq3
    generalize ((s.plus r).list.take k ++ s.list.drop k) = L at *
    have hld : ldc h4 bS k 1 = some [w32 x] := by rw [ldc_get g4, if_pos (by rw [wcl_len, hq3]; omega), wcl_get hq]
    have hst : stc h4 bS k [w32 (x + y)] 1 = some (h4.set bS ⟨wcl ((s.plus r).list.take (k + 1) ++ s.list.drop (k + 1)), z⟩) := by
      rw [stc_get g4, if_pos ⟨rfl, by simp only [wcl_len, hq3]; omega, rfl⟩, ← hq2, wcl_put _ _ _ (by rw [hq3]; exact hk)]
    simp -implicitDefEqProofs only [go_sem, f0, f178, f179, Int.natCast_nonneg, Int.toNat_natCast, show (k : Int) < 8 by omega, show (k : Int) < ((8 : Nat) : Int) by omega, Nat.mul_one, Nat.zero_add, hv, hld, add_w32, hst, b4', wrap_i64 (show -(9223372036854775808 : Int) ≤ ((k : Int) + 1) by omega) (show ((k : Int) + 1) < 9223372036854775808 by omega), wcl_len, Nat.mul_one, xor_w32, shr3_w32, shr10_w32, add_w32, Int.natCast_nonneg, xor_w32, and_w32, not_w32, add_w32, wcl_len, bH]
    exact ⟨m - 1, by omega, _, Ext.refl _, k + 1, by omega, rfl, k4.set (.inl rfl) _, H.set_get_same _ _ _⟩
  obtain rfl : k = 8 := by omega
  have e8 : (s.plus r).list.take 8 ++ s.list.drop 8 = T.list := by rw [hsum, List.take_of_length_le (by exact Nat.le_refl 8), List.drop_eq_nil_of_le (by exact Nat.le_refl 8), List.append_nil]
  rw [e8] at g4
  simp -implicitDefEqProofs only [go_sem, f0, f178, f179, show ¬ (((8 : Nat) : Int) < 8) by omega, wcl_len, Nat.mul_one, xor_w32, shr3_w32, shr10_w32, add_w32, Int.natCast_nonneg, xor_w32, and_w32, not_w32, add_w32, wcl_len, bH]
  exact ⟨k4, g4⟩
end Go.Proofs.YthjbhdmjfakfaaaGreatDoor
