/- A helper of this seat's claims (contracts of the functions): what it shows is shown for every input that its statements name, on no other condition. -/
import Derived.Test.YthjbhdmjfakfaaaGreatDoorMCD
import Derived.Test.YthjbhdmjfakfaaaGreatDoorKD
set_option linter.unusedVariables false
set_option linter.unusedSimpArgs false
set_option maxRecDepth 100000
namespace Go.Proofs.YthjbhdmjfakfaaaGreatDoor
open Go.KH

theorem wrap_u64n {n : Nat} (h : n < 18446744073709551616) : IntKind.u64.wrap (n : Int) = (n : Int) := by
 unfold IntKind.wrap
 simp [IntKind.bits, IntKind.signed]
 omega
def b_spec_l02Turn : C := (jo [q 4 (.mv (.c (.int .u32 0)))]
 (jo [jm 5 0, jm 6 1, jb 7 .shr 5 6, jm 8 0, jm 9 1, q 10 (.bin .sub (.c (.int .u64 32)) (.t 9)), jb 11 .shl 8 10, jb 12 .or 7 11, jm 4 12]
 .ret))
theorem w_spec_l02Turn : Wk Tryz.prog 244 13 [.tmp 4] b_spec_l02Turn := Wk.of mixedOrders Tryz.func244 (by kernel_rfl) (by kernel_rfl)

theorem turn_pc (h : H) (x : BitVec 32) {k : Nat} (hk : k ≤ 32) : PC Tryz.prog 244 [w32 x, .int .u64 (k : Int)] h (w32 (rotW x k)) := by
 have e : IntKind.u64.wrap (32 - (k : Int)) = ((32 - k : Nat) : Int) := by
  rw [show (32 - (k : Int)) = ((32 - k : Nat) : Int) by omega]; exact wrap_u64n (by omega)
 refine w_spec_l02Turn (by simp) ?_
 unfold b_spec_l02Turn
 simp -implicitDefEqProofs only [go_sem, e, shr_w32 x .u64 k hk, shl_w32 x .u64 (32 - k) (by omega), or_w32]
 exact rfl
abbrev wsV (l : List (BitVec 32)) : List (List Value) := l.map fun x => [w32 x]
abbrev wsI (l : List (BitVec 32)) : List (List Value) := l.map fun x => [i64 x.toNat]
def b_spec_l02Start : C := (jo [q 0 (.mv (.c nils))]
 (jo [⟨(some 1), none, .bsl 8 [(i64 0), (i64 0), (i64 0), (i64 0), (i64 0), (i64 0), (i64 0), (i64 0)] [(0, 1, (.c (i64 1779033703))), (1, 1, (.c (i64 3144134277))), (2, 1, (.c (i64 1013904242))), (3, 1, (.c (i64 2773480762))), (4, 1, (.c (i64 1359893119))), (5, 1, (.c (i64 2600822924))), (6, 1, (.c (i64 528734635))), (7, 1, (.c (i64 1541459225)))]⟩, jm 0 1]
 .ret))
theorem w_spec_l02Start : Wk Tryz.prog 230 2 [.tmp 0] b_spec_l02Start := Wk.of mixedOrders Tryz.func230 (by kernel_rfl) (by kernel_rfl)

theorem start_ac (h : H) : AC Tryz.prog 230 [] h fun r h' => Own h h' r 1 (wsI shaStart.list) ∧ Ext h h' := by
 refine w_spec_l02Start (by simp) ?_
 unfold b_spec_l02Start
 simp -implicitDefEqProofs only [go_sem]
 intro b hb_b n_b
 simp -implicitDefEqProofs only [go_sem, hb_b]
 exact ⟨.inr ⟨b, 8, 8, rfl, by decide, by assumption, by assumption, H.set_get_same _ _ _, by decide, Wid.map fun _ => rfl⟩, ((Ext.refl _).set' n_b _)⟩
def keysL : List (BitVec 32) := (List.range 64).map shaKey
def b_spec_l02Keys : C := (jo [q 0 (.mv (.c nils))]
 (jo [⟨(some 1), none, .bsl 64 [(.int .u32 0), (.int .u32 0), (.int .u32 0), (.int .u32 0), (.int .u32 0), (.int .u32 0), (.int .u32 0), (.int .u32 0), (.int .u32 0), (.int .u32 0), (.int .u32 0), (.int .u32 0), (.int .u32 0), (.int .u32 0), (.int .u32 0), (.int .u32 0), (.int .u32 0), (.int .u32 0), (.int .u32 0), (.int .u32 0), (.int .u32 0), (.int .u32 0), (.int .u32 0), (.int .u32 0), (.int .u32 0), (.int .u32 0), (.int .u32 0), (.int .u32 0), (.int .u32 0), (.int .u32 0), (.int .u32 0), (.int .u32 0), (.int .u32 0), (.int .u32 0), (.int .u32 0), (.int .u32 0), (.int .u32 0), (.int .u32 0), (.int .u32 0), (.int .u32 0), (.int .u32 0), (.int .u32 0), (.int .u32 0), (.int .u32 0), (.int .u32 0), (.int .u32 0), (.int .u32 0), (.int .u32 0), (.int .u32 0), (.int .u32 0), (.int .u32 0), (.int .u32 0), (.int .u32 0), (.int .u32 0), (.int .u32 0), (.int .u32 0), (.int .u32 0), (.int .u32 0), (.int .u32 0), (.int .u32 0), (.int .u32 0), (.int .u32 0), (.int .u32 0), (.int .u32 0)] [(0, 1, (.c (.int .u32 1116352408))), (1, 1, (.c (.int .u32 1899447441))), (2, 1, (.c (.int .u32 3049323471))), (3, 1, (.c (.int .u32 3921009573))), (4, 1, (.c (.int .u32 961987163))), (5, 1, (.c (.int .u32 1508970993))), (6, 1, (.c (.int .u32 2453635748))), (7, 1, (.c (.int .u32 2870763221))), (8, 1, (.c (.int .u32 3624381080))), (9, 1, (.c (.int .u32 310598401))), (10, 1, (.c (.int .u32 607225278))), (11, 1, (.c (.int .u32 1426881987))), (12, 1, (.c (.int .u32 1925078388))), (13, 1, (.c (.int .u32 2162078206))), (14, 1, (.c (.int .u32 2614888103))), (15, 1, (.c (.int .u32 3248222580))), (16, 1, (.c (.int .u32 3835390401))), (17, 1, (.c (.int .u32 4022224774))), (18, 1, (.c (.int .u32 264347078))), (19, 1, (.c (.int .u32 604807628))), (20, 1, (.c (.int .u32 770255983))), (21, 1, (.c (.int .u32 1249150122))), (22, 1, (.c (.int .u32 1555081692))), (23, 1, (.c (.int .u32 1996064986))), (24, 1, (.c (.int .u32 2554220882))), (25, 1, (.c (.int .u32 2821834349))), (26, 1, (.c (.int .u32 2952996808))), (27, 1, (.c (.int .u32 3210313671))), (28, 1, (.c (.int .u32 3336571891))), (29, 1, (.c (.int .u32 3584528711))), (30, 1, (.c (.int .u32 113926993))), (31, 1, (.c (.int .u32 338241895))), (32, 1, (.c (.int .u32 666307205))), (33, 1, (.c (.int .u32 773529912))), (34, 1, (.c (.int .u32 1294757372))), (35, 1, (.c (.int .u32 1396182291))), (36, 1, (.c (.int .u32 1695183700))), (37, 1, (.c (.int .u32 1986661051))), (38, 1, (.c (.int .u32 2177026350))), (39, 1, (.c (.int .u32 2456956037))), (40, 1, (.c (.int .u32 2730485921))), (41, 1, (.c (.int .u32 2820302411))), (42, 1, (.c (.int .u32 3259730800))), (43, 1, (.c (.int .u32 3345764771))), (44, 1, (.c (.int .u32 3516065817))), (45, 1, (.c (.int .u32 3600352804))), (46, 1, (.c (.int .u32 4094571909))), (47, 1, (.c (.int .u32 275423344))), (48, 1, (.c (.int .u32 430227734))), (49, 1, (.c (.int .u32 506948616))), (50, 1, (.c (.int .u32 659060556))), (51, 1, (.c (.int .u32 883997877))), (52, 1, (.c (.int .u32 958139571))), (53, 1, (.c (.int .u32 1322822218))), (54, 1, (.c (.int .u32 1537002063))), (55, 1, (.c (.int .u32 1747873779))), (56, 1, (.c (.int .u32 1955562222))), (57, 1, (.c (.int .u32 2024104815))), (58, 1, (.c (.int .u32 2227730452))), (59, 1, (.c (.int .u32 2361852424))), (60, 1, (.c (.int .u32 2428436474))), (61, 1, (.c (.int .u32 2756734187))), (62, 1, (.c (.int .u32 3204031479))), (63, 1, (.c (.int .u32 3329325298)))]⟩, jm 0 1]
 .ret))
theorem w_spec_l02Keys : Wk Tryz.prog 245 2 [.tmp 0] b_spec_l02Keys := Wk.of mixedOrders Tryz.func245 (by kernel_rfl) (by kernel_rfl)

theorem keys_ac (h : H) : AC Tryz.prog 245 [] h fun r h' => Own h h' r 1 (wsV keysL) ∧ Ext h h' ∧ ∀ c ob, h.get c = some ob → h'.get c = some ob := by
 refine w_spec_l02Keys (by simp) ?_
 unfold b_spec_l02Keys
 simp -implicitDefEqProofs only [go_sem]
 intro b hb_b n_b
 simp -implicitDefEqProofs only [go_sem, hb_b]
 exact ⟨.inr ⟨b, 64, 64, rfl, by decide, by assumption, by assumption, H.set_get_same _ _ _, by decide, Wid.map fun _ => rfl⟩, ((Ext.refl _).set' n_b _), fun c ob hc => by rw [if_neg (fun e => by subst e; rw [hc] at n_b; cases n_b)]; exact hc⟩
def wcl (l : List (BitVec 32)) : List Value := l.map w32
theorem wcl_len (l : List (BitVec 32)) : (wcl l).length = l.length := by simp [wcl]
theorem wcl_put (l : List (BitVec 32)) (k : Nat) (x : BitVec 32) (hk : k < l.length) : splice (wcl l) k [w32 x] = wcl (l.set k x) := by
 unfold splice wcl
 rw [List.map_set, List.set_eq_take_append_cons_drop, if_pos (by rw [List.length_map]; exact hk)]
 simp
def fill (l : List (BitVec 32)) : List (BitVec 32) := l ++ List.replicate (64 - l.length) 0
theorem fill_len {l : List (BitVec 32)} (h : l.length ≤ 64) : (fill l).length = 64 := by simp [fill]; omega
theorem fill_put {l : List (BitVec 32)} {k : Nat} (e : l.length = k) (h : k < 64) (x : BitVec 32) : splice (wcl (fill l)) k [w32 x] = wcl (fill (l ++ [x])) := by
 rw [wcl_put _ _ _ (by rw [fill_len (by omega)]; omega)]
 congr 1
 unfold fill
 rw [List.set_append_right _ _ (by omega), e, Nat.sub_self, show 64 - k = (64 - (k + 1)) + 1 by omega, List.replicate_succ, List.set_cons_zero]
 simp [e]
theorem fill_get {l : List (BitVec 32)} {k : Nat} (h : k < l.length) (h2 : l.length ≤ 64) : ((wcl (fill l)).drop k).take 1 = [w32 (l.getD k 0)] := by
 have e : k < (wcl (fill l)).length := by rw [wcl_len, fill_len h2]; omega
 rw [List.drop_eq_getElem_cons e]
 simp only [List.take_succ_cons, List.take_zero]
 congr 1
 simp only [wcl, fill, List.getElem_map]
 rw [List.getElem_append_left h]
 simp [List.getD, h]
theorem wcl_get {l : List (BitVec 32)} {k : Nat} {y : BitVec 32} (h : l[k]? = some y) : ((wcl l).drop k).take 1 = [w32 y] := by
 obtain ⟨hk, rfl⟩ := List.getElem?_eq_some_iff.1 h
 rw [List.drop_eq_getElem_cons (by rw [wcl_len]; exact hk)]
 simp [wcl]
theorem w16_len (l : List UInt8) (n : Nat) : (w16 l n).length = n := by simp [w16]
theorem w16_succ (l : List UInt8) (n : Nat) : w16 l (n + 1) = w16 l n ++ [beW l n] := by simp [w16, List.range_succ]
def b_spec_l02Block : C := (jo [q 4 (.mv (.c nils))]
 (jo [⟨(some 25), none, .mks 1 4 [(.int .u32 0)] (.c (i64 64)) (.c (i64 64))⟩, jm 5 25]
 (.seq (jo [q 6 (.mv (.c (i64 0)))]
 (.block 0 (.loop (.seq (jo [jm 26 6, jk 27 .lss 26 16]
 (.cond (.t 27) .skip (.exit 0)))
 (.seq (.block 1 (.dops false (.tk (jm 30 5) (.tk (jm 31 6) (.tk (jm 32 1) (.tk (jm 33 6) (.tk (q 34 (.bin .mul (.c (i64 4)) (.t 33))) (.tk (q 35 (.sidx (.t 32) (.t 34))) (.tk (q 36 (.cv .u32 (.t 35))) (.tk (q 37 (.bin .shl (.t 36) (.c (.int .u64 24)))) (.tk (jm 38 1) (.tk (jm 39 6) (.tk (q 40 (.bin .mul (.c (i64 4)) (.t 39))) (.tk (jk 41 .add 40 1) (.tk (q 42 (.sidx (.t 38) (.t 41))) (.tk (q 43 (.cv .u32 (.t 42))) (.tk (q 44 (.bin .shl (.t 43) (.c (.int .u64 16)))) (.tk (jb 45 .or 37 44) (.tk (jm 46 1) (.tk (jm 47 6) (.tk (q 48 (.bin .mul (.c (i64 4)) (.t 47))) (.tk (jk 49 .add 48 2) (.tk (q 50 (.sidx (.t 46) (.t 49))) (.tk (q 51 (.cv .u32 (.t 50))) (.tk (q 52 (.bin .shl (.t 51) (.c (.int .u64 8)))) (.tk (jb 53 .or 45 52) (.tk (jm 54 1) (.tk (jm 55 6) (.tk (q 56 (.bin .mul (.c (i64 4)) (.t 55))) (.tk (jk 57 .add 56 3) (.tk (q 58 (.sidx (.t 54) (.t 57))) (.tk (q 59 (.cv .u32 (.t 58))) (.tk (jb 60 .or 53 59) (.tk (q 61 (.idx 1 (.t 30) (.t 31))) (.lt (js 1 61 60) .nil)))))))))))))))))))))))))))))))))))
 (.ops [jm 28 6, jk 29 .add 28 1, jm 6 29]))))))
 (.seq (jo [q 7 (.mv (.c (i64 16)))]
 (.block 2 (.loop (.seq (jo [jm 62 7, jk 63 .lss 62 64]
 (.cond (.t 63) .skip (.exit 2)))
 (.seq (.block 3 (jo [jm 66 5, jm 67 7, jk 68 .sub 67 15, q 69 (.idx 1 (.t 66) (.t 68)), jl 70 69, jm 8 70]
 (jo [jm 71 5, jm 72 7, jk 73 .sub 72 2, q 74 (.idx 1 (.t 71) (.t 73)), jl 75 74, jm 9 75]
 (.dops true (.tk (jm 76 5) (.tk (jm 77 7) (.tk (jm 78 5) (.tk (jm 79 7) (.tk (jk 80 .sub 79 16) (.tk (q 81 (.idx 1 (.t 78) (.t 80))) (.tk (jl 82 81) (.tk (jm 83 8) (.tk (jm 85 8) (.tk (jm 88 8) (.tk (q 89 (.bin .shr (.t 88) (.c (.int .u64 3)))) (.tk (jm 92 5) (.tk (jm 93 7) (.tk (jk 94 .sub 93 7) (.tk (q 95 (.idx 1 (.t 92) (.t 94))) (.tk (jl 96 95) (.tk (jm 98 9) (.tk (jm 100 9) (.tk (jm 103 9) (.tk (q 104 (.bin .shr (.t 103) (.c (.int .u64 10)))) (.sq (jc 84 244 [(.t 83), (.c (.int .u64 7))]) (.sq (jc 86 244 [(.t 85), (.c (.int .u64 18))]) (.tk (jb 87 .xor 84 86) (.tk (jb 90 .xor 87 89) (.tk (jb 91 .add 82 90) (.tk (jb 97 .add 91 96) (.sq (jc 99 244 [(.t 98), (.c (.int .u64 17))]) (.sq (jc 101 244 [(.t 100), (.c (.int .u64 19))]) (.tk (jb 102 .xor 99 101) (.tk (jb 105 .xor 102 104) (.tk (jb 106 .add 97 105) (.tk (q 107 (.idx 1 (.t 76) (.t 77))) (.lt (js 1 107 106) .nil)))))))))))))))))))))))))))))))))))))
 (.ops [jm 64 7, jk 65 .add 64 1, jm 7 65]))))))
 (.seq (.dops true (.tk (jm 108 0) (.tk (q 109 (.idx 1 (.t 108) (.c (i64 0)))) (.tk (jl 110 109) (.tk (q 111 (.cv .u32 (.t 110))) (.tk (jm 112 0) (.tk (q 113 (.idx 1 (.t 112) (.c (i64 1)))) (.tk (jl 114 113) (.tk (q 115 (.cv .u32 (.t 114))) (.tk (jm 116 0) (.tk (q 117 (.idx 1 (.t 116) (.c (i64 2)))) (.tk (jl 118 117) (.tk (q 119 (.cv .u32 (.t 118))) (.tk (jm 120 0) (.tk (q 121 (.idx 1 (.t 120) (.c (i64 3)))) (.tk (jl 122 121) (.tk (q 123 (.cv .u32 (.t 122))) (.tk (jm 10 111) (.tk (jm 11 115) (.tk (jm 12 119) (.tk (jm 13 123) .nil)))))))))))))))))))))
 (.seq (.dops true (.tk (jm 124 0) (.tk (q 125 (.idx 1 (.t 124) (.c (i64 4)))) (.tk (jl 126 125) (.tk (q 127 (.cv .u32 (.t 126))) (.tk (jm 128 0) (.tk (q 129 (.idx 1 (.t 128) (.c (i64 5)))) (.tk (jl 130 129) (.tk (q 131 (.cv .u32 (.t 130))) (.tk (jm 132 0) (.tk (q 133 (.idx 1 (.t 132) (.c (i64 6)))) (.tk (jl 134 133) (.tk (q 135 (.cv .u32 (.t 134))) (.tk (jm 136 0) (.tk (q 137 (.idx 1 (.t 136) (.c (i64 7)))) (.tk (jl 138 137) (.tk (q 139 (.cv .u32 (.t 138))) (.tk (jm 14 127) (.tk (jm 15 131) (.tk (jm 16 135) (.tk (jm 17 139) .nil)))))))))))))))))))))
 (jo [jc 140 245 [], jm 18 140]
 (.seq (jo [q 19 (.mv (.c (i64 0)))]
 (.block 4 (.loop (.seq (jo [jm 141 19, jk 142 .lss 141 64]
 (.cond (.t 142) .skip (.exit 4)))
 (.seq (.block 5 (.seq (.dops true (.tk (jm 145 17) (.tk (jm 146 14) (.tk (jm 148 14) (.tk (jm 151 14) (.tk (jm 155 14) (.tk (jm 156 15) (.tk (jb 157 .and 155 156) (.tk (jm 158 14) (.tk (q 159 (.un .xor (.t 158))) (.tk (jm 160 16) (.tk (jb 161 .and 159 160) (.tk (jb 162 .xor 157 161) (.tk (jm 164 18) (.tk (jm 165 19) (.tk (q 166 (.idx 1 (.t 164) (.t 165))) (.tk (jl 167 166) (.tk (jm 169 5) (.tk (jm 170 19) (.tk (q 171 (.idx 1 (.t 169) (.t 170))) (.tk (jl 172 171) (.sq (jc 147 244 [(.t 146), (.c (.int .u64 6))]) (.sq (jc 149 244 [(.t 148), (.c (.int .u64 11))]) (.tk (jb 150 .xor 147 149) (.sq (jc 152 244 [(.t 151), (.c (.int .u64 25))]) (.tk (jb 153 .xor 150 152) (.tk (jb 154 .add 145 153) (.tk (jb 163 .add 154 162) (.tk (jb 168 .add 163 167) (.tk (jb 173 .add 168 172) (.tk (jm 20 173) .nil)))))))))))))))))))))))))))))))
 (jo [jm 174 10, jc 175 244 [(.t 174), (.c (.int .u64 2))], jm 176 10, jc 177 244 [(.t 176), (.c (.int .u64 13))], jb 178 .xor 175 177, jm 179 10, jc 180 244 [(.t 179), (.c (.int .u64 22))], jb 181 .xor 178 180, jm 182 10, jm 183 11, jb 184 .and 182 183, jm 185 10, jm 186 12, jb 187 .and 185 186, jb 188 .xor 184 187, jm 189 11, jm 190 12, jb 191 .and 189 190, jb 192 .xor 188 191, jb 193 .add 181 192, jm 21 193]
 (jo [jm 194 16, jm 17 194]
 (jo [jm 195 15, jm 16 195]
 (jo [jm 196 14, jm 15 196]
 (jo [jm 197 13, jm 198 20, jb 199 .add 197 198, jm 14 199]
 (jo [jm 200 12, jm 13 200]
 (jo [jm 201 11, jm 12 201]
 (jo [jm 202 10, jm 11 202]
 (.ops [jm 203 20, jm 204 21, jb 205 .add 203 204, jm 10 205])))))))))))
 (.ops [jm 143 19, jk 144 .add 143 1, jm 19 144]))))))
 (jo [jm 206 10, jm 207 11, jm 208 12, jm 209 13, jm 210 14, jm 211 15, jm 212 16, jm 213 17, ⟨(some 214), none, .bsl 8 [(.int .u32 0), (.int .u32 0), (.int .u32 0), (.int .u32 0), (.int .u32 0), (.int .u32 0), (.int .u32 0), (.int .u32 0)] [(0, 1, (.t 206)), (1, 1, (.t 207)), (2, 1, (.t 208)), (3, 1, (.t 209)), (4, 1, (.t 210)), (5, 1, (.t 211)), (6, 1, (.t 212)), (7, 1, (.t 213))]⟩, jm 22 214]
 (jo [⟨(some 215), none, .bsl 0 [] []⟩, jm 23 215]
 (.seq (jo [q 24 (.mv (.c (i64 0)))]
 (.block 6 (.loop (.seq (jo [jm 216 24, jk 217 .lss 216 8]
 (.cond (.t 217) .skip (.exit 6)))
 (.seq (.block 7 (.dops true (.tk (jm 220 23) (.tk (jm 221 0) (.tk (jm 222 24) (.tk (q 223 (.idx 1 (.t 221) (.t 222))) (.tk (jl 224 223) (.tk (q 225 (.cv .u32 (.t 224))) (.tk (jm 226 22) (.tk (jm 227 24) (.tk (q 228 (.idx 1 (.t 226) (.t 227))) (.tk (jl 229 228) (.tk (jb 230 .add 225 229) (.tk (q 231 (.cv .i64 (.t 230))) (.sq (⟨(some 232), none, .bsl 1 [(i64 0)] [(0, 1, (.t 231))]⟩) (.lt (⟨(some 233), none, .app 1 8 (.t 220) (.t 232)⟩) (.tk (jm 23 233) .nil)))))))))))))))))
 (.ops [jm 218 24, jk 219 .add 218 1, jm 24 219]))))))
 (jo [jm 234 23, jm 4 234]
 .ret))))))))))))
theorem w_spec_l02Block : Wk Tryz.prog 231 235 [.tmp 4] b_spec_l02Block := Wk.of mixedOrders Tryz.func231 (by kernel_rfl) (by kernel_rfl)

set_option maxHeartbeats 6400000 in
theorem block_ac0 {h : H} {v : Value} {s T : S8} {l : List UInt8} (hT : shaBlock s l = T) (hv : Sl h v 1 (wsI s.list)) (hl : l.length = 64) : AC Tryz.prog 231 [v, str l] h fun r h' => Own h h' r 1 (wsI T.list) ∧ Ext h h' := by
 obtain ⟨a, c, rfl⟩ := hv.shape
 refine w_spec_l02Block (by simp) ?_
 unfold b_spec_l02Block
 simp -implicitDefEqProofs only [go_sem, Int.reduceToNat]
 refine Req.of (by decide) ?_
 simp -implicitDefEqProofs only [go_sem, Int.reduceToNat]
 intro bw hb_bw n_bw
 simp -implicitDefEqProofs only [go_sem, hb_bw]
 have h0 : (List.replicate 64 [Value.int .u32 0]).flatten = wcl (fill (w16 l 0)) := rfl
 rw [h0]
 refine loopW_of (fun m f h' => ∃ k, m + k = 16 ∧ h' = h.set bw ⟨wcl (fill (w16 l k)), 64⟩ ∧ f 0 = .slice a (wsI s.list).length c ∧ f 1 = str l ∧ f 5 = sl bw 0 64 64 ∧ f 6 = i64 k) 16
  ⟨0, by simp, rfl, by simp -implicitDefEqProofs only [go_sem, hb_bw], by simp -implicitDefEqProofs only [go_sem, hb_bw], by simp -implicitDefEqProofs only [go_sem, hb_bw], by simp -implicitDefEqProofs only [go_sem, hb_bw]; rfl⟩ ?_
 rintro m f h' ⟨k, hm, rfl, f0, f1, f5, f6⟩
 skip
 by_cases hk : k < 16
 ·obtain ⟨x0, e0⟩ : ∃ x, l[4 * k]? = some x := ⟨_, List.getElem?_eq_getElem (by omega)⟩
  obtain ⟨x1, e1⟩ : ∃ x, l[4 * k + 1]? = some x := ⟨_, List.getElem?_eq_getElem (by omega)⟩
  obtain ⟨x2, e2⟩ : ∃ x, l[4 * k + 2]? = some x := ⟨_, List.getElem?_eq_getElem (by omega)⟩
  obtain ⟨x3, e3⟩ : ∃ x, l[4 * k + 3]? = some x := ⟨_, List.getElem?_eq_getElem (by omega)⟩
  have hw : b32 x0 <<< 24 ||| b32 x1 <<< 16 ||| b32 x2 <<< 8 ||| b32 x3 = beW l k := by simp only [beW, List.getD, e0, e1, e2, e3, Option.getD_some]
  have hp := fill_put (w16_len l k) (by omega) (beW l k)
  rw [← w16_succ] at hp
  have hf := fill_len (l := w16 l k) (by rw [w16_len]; omega)
  simp -implicitDefEqProofs only [go_sem, show (k : Int) < 16 by omega, wrap_i64 (show -(9223372036854775808 : Int) ≤ (4 * (k : Int)) by omega) (show (4 * (k : Int)) < 9223372036854775808 by omega), wrap_i64 (show -(9223372036854775808 : Int) ≤ (4 * (k : Int) + 1) by omega) (show (4 * (k : Int) + 1) < 9223372036854775808 by omega), wrap_i64 (show -(9223372036854775808 : Int) ≤ (4 * (k : Int) + 2) by omega) (show (4 * (k : Int) + 2) < 9223372036854775808 by omega), wrap_i64 (show -(9223372036854775808 : Int) ≤ (4 * (k : Int) + 3) by omega) (show (4 * (k : Int) + 3) < 9223372036854775808 by omega), show (0 : Int) ≤ 4 * (k : Int) by omega, show (0 : Int) ≤ 4 * (k : Int) + 1 by omega, show (0 : Int) ≤ 4 * (k : Int) + 2 by omega, show (0 : Int) ≤ 4 * (k : Int) + 3 by omega, show (4 * (k : Int)).toNat = 4 * k by omega, show (4 * (k : Int) + 1).toNat = 4 * k + 1 by omega, show (4 * (k : Int) + 2).toNat = 4 * k + 2 by omega, show (4 * (k : Int) + 3).toNat = 4 * k + 3 by omega, e0, e1, e2, e3, wrap_b32, shl24_w32, shl16_w32, shl8_w32, or_w32, hw, hp, wcl_len, hf, Int.ofNat_lt, show k < 64 by omega, show k + 1 ≤ 64 by omega, Nat.mul_one, wrap_i64 (show -(9223372036854775808 : Int) ≤ ((k : Int) + 1) by omega) (show ((k : Int) + 1) < 9223372036854775808 by omega), hb_bw, f0, f1, f5, f6, Int.natCast_nonneg]
  exact ⟨m - 1, by omega, _, Ext.refl _, k + 1, by omega, rfl, rfl⟩
 obtain rfl : k = 16 := by omega
 clear hk hm
 skip
 skip
 simp -implicitDefEqProofs only [go_sem, show ¬ (((16 : Nat) : Int) < 16) by omega, hb_bw, Int.natCast_nonneg, f0, f1, f5, f6]
 have h16 := w16_len l 16
 generalize hW0 : w16 l 16 = W0 at *
 refine loopW_of (fun m f h' => ∃ k, m + k = 48 ∧ h' = h.set bw ⟨wcl (fill (wGrow W0 k)), 64⟩ ∧ f 0 = .slice a (wsI s.list).length c ∧ f 5 = sl bw 0 64 64 ∧ f 7 = i64 ((16 + k : Nat) : Int)) 48
  ⟨0, by simp, rfl, by simp -implicitDefEqProofs only [go_sem, hb_bw, Int.natCast_nonneg, f0, f1, f5, f6], by simp -implicitDefEqProofs only [go_sem, hb_bw, Int.natCast_nonneg, f0, f1, f5, f6], by simp -implicitDefEqProofs only [go_sem, hb_bw, Int.natCast_nonneg, f0, f1, f5, f6]; rfl⟩ ?_
 clear f0 f1 f5 f6 m f
 rintro m f h' ⟨k, hm, rfl, f0, f5, f7⟩
 skip
 skip
 obtain ⟨n, hn⟩ : ∃ n, n = 16 + k := ⟨_, rfl⟩
 rw [← hn] at f7
 have hg : (wGrow W0 k).length = n := by rw [wGrow_length, h16, hn]
 by_cases hk : k < 48
 ·have hf := fill_len (l := wGrow W0 k) (by omega)
  have hp := fill_put hg (by omega) (wNext (wGrow W0 k))
  have r15 := fill_get (l := wGrow W0 k) (k := n - 15) (by omega) (by omega)
  have r16 := fill_get (l := wGrow W0 k) (k := n - 16) (by omega) (by omega)
  have r7 := fill_get (l := wGrow W0 k) (k := n - 7) (by omega) (by omega)
  have r2 := fill_get (l := wGrow W0 k) (k := n - 2) (by omega) (by omega)
  have hx : (wGrow W0 k).getD (n - 16) 0 + (rotW ((wGrow W0 k).getD (n - 15) 0) 7 ^^^ rotW ((wGrow W0 k).getD (n - 15) 0) 18 ^^^ (wGrow W0 k).getD (n - 15) 0 >>> 3) + (wGrow W0 k).getD (n - 7) 0 + (rotW ((wGrow W0 k).getD (n - 2) 0) 17 ^^^ rotW ((wGrow W0 k).getD (n - 2) 0) 19 ^^^ (wGrow W0 k).getD (n - 2) 0 >>> 10) = wNext (wGrow W0 k) := by
   simp only [wNext, hg]
  generalize (wGrow W0 k).getD (n - 16) 0 = y16 at *
  generalize (wGrow W0 k).getD (n - 15) 0 = y15 at *
  generalize (wGrow W0 k).getD (n - 7) 0 = y7 at *
  generalize (wGrow W0 k).getD (n - 2) 0 = y2 at *
  have p1 : IntKind.i64.wrap ((n : Int) - 15) = (n : Int) - 15 := wrap_i64 (show -(9223372036854775808 : Int) ≤ ((n : Int) - 15) by omega) (show ((n : Int) - 15) < 9223372036854775808 by omega)
  have p2 : (0 : Int) ≤ (n : Int) - 15 := by omega
  have p3 : ((n : Int) - 15).toNat = n - 15 := by omega
  have p4 : IntKind.i64.wrap ((n : Int) - 16) = (n : Int) - 16 := wrap_i64 (show -(9223372036854775808 : Int) ≤ ((n : Int) - 16) by omega) (show ((n : Int) - 16) < 9223372036854775808 by omega)
  have p5 : (0 : Int) ≤ (n : Int) - 16 := by omega
  have p6 : ((n : Int) - 16).toNat = n - 16 := by omega
  have p7 : IntKind.i64.wrap ((n : Int) - 7) = (n : Int) - 7 := wrap_i64 (show -(9223372036854775808 : Int) ≤ ((n : Int) - 7) by omega) (show ((n : Int) - 7) < 9223372036854775808 by omega)
  have p8 : (0 : Int) ≤ (n : Int) - 7 := by omega
  have p9 : ((n : Int) - 7).toNat = n - 7 := by omega
  have p10 : IntKind.i64.wrap ((n : Int) - 2) = (n : Int) - 2 := wrap_i64 (show -(9223372036854775808 : Int) ≤ ((n : Int) - 2) by omega) (show ((n : Int) - 2) < 9223372036854775808 by omega)
  have p11 : (0 : Int) ≤ (n : Int) - 2 := by omega
  have p12 : ((n : Int) - 2).toNat = n - 2 := by omega
  have p13 : IntKind.i64.wrap ((n : Int) + 1) = (n : Int) + 1 := wrap_i64 (show -(9223372036854775808 : Int) ≤ ((n : Int) + 1) by omega) (show ((n : Int) + 1) < 9223372036854775808 by omega)
  skip
  simp -implicitDefEqProofs only [go_sem, show (n : Int) < 64 by omega, show (n : Int) - 15 < (64 : Nat) by omega, show (n : Int) - 2 < (64 : Nat) by omega, show (n : Int) - 16 < (64 : Nat) by omega, show (n : Int) - 7 < (64 : Nat) by omega, show n - 15 + 1 ≤ 64 by omega, show n - 2 + 1 ≤ 64 by omega, show n - 16 + 1 ≤ 64 by omega, show n - 7 + 1 ≤ 64 by omega, hb_bw, Int.natCast_nonneg, f0, f5, f0, f5, f7, Int.natCast_nonneg, p1, p2, p3, p4, p5, p6, p7, p8, p9, p10, p11, p12, p13, wcl_len, hf, Nat.mul_one, r15, r16, r7, r2, xor_w32, shr3_w32, shr10_w32, add_w32]
  refine (turn_pc _ _ (k := 7) (by decide)).use ?_
  simp -implicitDefEqProofs only [go_sem, hb_bw, Int.natCast_nonneg, f0, f5, f0, f5, f7, Int.natCast_nonneg, p1, p2, p3, p4, p5, p6, p7, p8, p9, p10, p11, p12, p13, wcl_len, hf, Nat.mul_one, r15, r16, r7, r2, xor_w32, shr3_w32, shr10_w32, add_w32]
  refine (turn_pc _ _ (k := 18) (by decide)).use ?_
  simp -implicitDefEqProofs only [go_sem, hb_bw, Int.natCast_nonneg, f0, f5, f0, f5, f7, Int.natCast_nonneg, p1, p2, p3, p4, p5, p6, p7, p8, p9, p10, p11, p12, p13, wcl_len, hf, Nat.mul_one, r15, r16, r7, r2, xor_w32, shr3_w32, shr10_w32, add_w32]
  refine (turn_pc _ _ (k := 17) (by decide)).use ?_
  simp -implicitDefEqProofs only [go_sem, hb_bw, Int.natCast_nonneg, f0, f5, f0, f5, f7, Int.natCast_nonneg, p1, p2, p3, p4, p5, p6, p7, p8, p9, p10, p11, p12, p13, wcl_len, hf, Nat.mul_one, r15, r16, r7, r2, xor_w32, shr3_w32, shr10_w32, add_w32]
  refine (turn_pc _ _ (k := 19) (by decide)).use ?_
  simp -implicitDefEqProofs only [go_sem, hx, hp, Int.ofNat_lt, show n < 64 by omega, show n + 1 ≤ 64 by omega, hb_bw, Int.natCast_nonneg, f0, f5, f0, f5, f7, Int.natCast_nonneg, p1, p2, p3, p4, p5, p6, p7, p8, p9, p10, p11, p12, p13, wcl_len, hf, Nat.mul_one, r15, r16, r7, r2, xor_w32, shr3_w32, shr10_w32, add_w32]
  exact ⟨m - 1, by omega, _, Ext.refl _, k + 1, by omega, rfl, by rw [hn]; rfl⟩
 obtain rfl : k = 48 := by omega
 obtain rfl : n = 64 := by omega
 clear hk hm hn
 have hB : rnds (wGrow (w16 l 16) 48) s 64 = rnds (wGrow W0 48) s 64 := by rw [← hW0]
 generalize wGrow W0 48 = W at *
 generalize hH : h.set bw ⟨wcl (fill W), 64⟩ = hh at *
 have eH : Ext h hh := by rw [← hH]; exact ((Ext.refl _).set' n_bw _)
 have gH : hh.get bw = some ⟨wcl (fill W), 64⟩ := by rw [← hH]; exact H.set_get_same _ _ _
 have nH : h.get bw = none := n_bw
 have bH : hh.base ≤ bw := by rw [eH.1]; exact hb_bw
 have hv2 := hv.ext eH
 obtain ⟨a', c', b0, o0, e', hc', v2, v3⟩ := hv2
 cases e'
 have d0 : ldc hh b0 (o0) 1 = some [i64 s.a.toNat] := by have := v3 0 [i64 s.a.toNat] rfl; simpa using this
 have d1 : ldc hh b0 (o0 + 1) 1 = some [i64 s.b.toNat] := by have := v3 1 [i64 s.b.toNat] rfl; simpa using this
 have d2 : ldc hh b0 (o0 + 2) 1 = some [i64 s.c.toNat] := by have := v3 2 [i64 s.c.toNat] rfl; simpa using this
 have d3 : ldc hh b0 (o0 + 3) 1 = some [i64 s.d.toNat] := by have := v3 3 [i64 s.d.toNat] rfl; simpa using this
 have d4 : ldc hh b0 (o0 + 4) 1 = some [i64 s.e.toNat] := by have := v3 4 [i64 s.e.toNat] rfl; simpa using this
 have d5 : ldc hh b0 (o0 + 5) 1 = some [i64 s.f.toNat] := by have := v3 5 [i64 s.f.toNat] rfl; simpa using this
 have d6 : ldc hh b0 (o0 + 6) 1 = some [i64 s.g.toNat] := by have := v3 6 [i64 s.g.toNat] rfl; simpa using this
 have d7 : ldc hh b0 (o0 + 7) 1 = some [i64 s.h.toNat] := by have := v3 7 [i64 s.h.toNat] rfl; simpa using this
 have h8 : (wsI s.list).length = 8 := rfl
 rw [h8] at f0 v2
 skip
 simp -implicitDefEqProofs only [go_sem, f0, f5, f7, show ¬ (((64 : Nat) : Int) < 64) by omega, Int.reduceToNat, show ((8 : Nat) : Int) = 8 from rfl, Int.reduceLT, v2, d0, d1, d2, d3, d4, d5, d6, d7, wrap_u32v, hb_bw, Int.natCast_nonneg, Int.natCast_nonneg, wcl_len, Nat.mul_one, xor_w32, shr3_w32, shr10_w32, add_w32]

 refine AC_of (keys_ac _) ?_
 rintro vk h2 - ⟨ok, e2, k1⟩
 have eF := eH.trans e2
 have g2 : h2.get bw = some ⟨wcl (fill W), 64⟩ := k1 bw _ gH
 have b2 : h2.base ≤ bw := by rw [e2.1]; exact bH
 obtain ⟨ak, ck, bk, qk, rfl, hck, k2, k3⟩ := ok.sl
 have hk64 : (wsV keysL).length = 64 := rfl
 rw [hk64] at k2

 simp -implicitDefEqProofs only [go_sem, hk64, hb_bw, Int.natCast_nonneg, Int.natCast_nonneg, wcl_len, Nat.mul_one, xor_w32, shr3_w32, shr10_w32, add_w32]
 refine loopW_of (fun m f h' => ∃ k, m + k = 64 ∧ h' = h2 ∧ f 0 = .slice a 8 c ∧ f 5 = sl bw 0 64 64 ∧ f 18 = .slice ak 64 ck ∧ f 19 = i64 k ∧ f 10 = w32 (rnds W s k).a ∧ f 11 = w32 (rnds W s k).b ∧ f 12 = w32 (rnds W s k).c ∧ f 13 = w32 (rnds W s k).d ∧ f 14 = w32 (rnds W s k).e ∧ f 15 = w32 (rnds W s k).f ∧ f 16 = w32 (rnds W s k).g ∧ f 17 = w32 (rnds W s k).h) 64
  ⟨0, by simp, rfl, by simp -implicitDefEqProofs only [go_sem, f0, hb_bw, Int.natCast_nonneg, Int.natCast_nonneg, wcl_len, Nat.mul_one, xor_w32, shr3_w32, shr10_w32, add_w32], by simp -implicitDefEqProofs only [go_sem, f5, hb_bw, Int.natCast_nonneg, Int.natCast_nonneg, wcl_len, Nat.mul_one, xor_w32, shr3_w32, shr10_w32, add_w32], by simp -implicitDefEqProofs only [go_sem, hb_bw, Int.natCast_nonneg, Int.natCast_nonneg, wcl_len, Nat.mul_one, xor_w32, shr3_w32, shr10_w32, add_w32], by simp -implicitDefEqProofs only [go_sem, hb_bw, Int.natCast_nonneg, Int.natCast_nonneg, wcl_len, Nat.mul_one, xor_w32, shr3_w32, shr10_w32, add_w32]; rfl, by simp -implicitDefEqProofs only [go_sem, hb_bw, Int.natCast_nonneg, Int.natCast_nonneg, wcl_len, Nat.mul_one, xor_w32, shr3_w32, shr10_w32, add_w32]; rfl, by simp -implicitDefEqProofs only [go_sem, hb_bw, Int.natCast_nonneg, Int.natCast_nonneg, wcl_len, Nat.mul_one, xor_w32, shr3_w32, shr10_w32, add_w32]; rfl, by simp -implicitDefEqProofs only [go_sem, hb_bw, Int.natCast_nonneg, Int.natCast_nonneg, wcl_len, Nat.mul_one, xor_w32, shr3_w32, shr10_w32, add_w32]; rfl, by simp -implicitDefEqProofs only [go_sem, hb_bw, Int.natCast_nonneg, Int.natCast_nonneg, wcl_len, Nat.mul_one, xor_w32, shr3_w32, shr10_w32, add_w32]; rfl, by simp -implicitDefEqProofs only [go_sem, hb_bw, Int.natCast_nonneg, Int.natCast_nonneg, wcl_len, Nat.mul_one, xor_w32, shr3_w32, shr10_w32, add_w32]; rfl, by simp -implicitDefEqProofs only [go_sem, hb_bw, Int.natCast_nonneg, Int.natCast_nonneg, wcl_len, Nat.mul_one, xor_w32, shr3_w32, shr10_w32, add_w32]; rfl, by simp -implicitDefEqProofs only [go_sem, hb_bw, Int.natCast_nonneg, Int.natCast_nonneg, wcl_len, Nat.mul_one, xor_w32, shr3_w32, shr10_w32, add_w32]; rfl, by simp -implicitDefEqProofs only [go_sem, hb_bw, Int.natCast_nonneg, Int.natCast_nonneg, wcl_len, Nat.mul_one, xor_w32, shr3_w32, shr10_w32, add_w32]; rfl⟩ ?_
 clear f0 f5 f7 m f
 rintro m f h' ⟨k, hm, rfl, f0, f5, f18, f19, f10, f11, f12, f13, f14, f15, f16, f17⟩
 skip
 by_cases hk : k < 64
 ·have dk := k3 k [w32 (shaKey k)] (by simp [wsV, keysL, hk])
  rw [Nat.mul_one] at dk
  have dw := fill_get (l := W) (k := k) (by omega) (by omega)
  have hr : rnds W s (k + 1) = rnd (rnds W s k) (shaKey k) (W.getD k 0) := rfl
  have hf := fill_len (l := W) (by omega)
  generalize rnds W s k = r at *
  generalize W.getD k 0 = wk at *
  generalize shaKey k = kk at *
  have pk : IntKind.i64.wrap ((k : Int) + 1) = (k : Int) + 1 := wrap_i64 (show -(9223372036854775808 : Int) ≤ ((k : Int) + 1) by omega) (show ((k : Int) + 1) < 9223372036854775808 by omega)
  have G2 := fun o n => ldc_get g2 o n
  skip
  simp -implicitDefEqProofs only [go_sem, show (k : Int) < 64 by omega, show (k : Int) < (64 : Nat) by omega, show k + 1 ≤ 64 by omega, Nat.mul_one, hb_bw, Int.natCast_nonneg, Int.natCast_nonneg, wcl_len, Nat.mul_one, xor_w32, shr3_w32, shr10_w32, add_w32, f0, f5, f18, f19, f10, f11, f12, f13, f14, f15, f16, f17, Int.natCast_nonneg, xor_w32, and_w32, not_w32, add_w32, k2, dk, G2, dw, wcl_len, hf, b2, pk]

  refine (turn_pc _ _ (k := 6) (by decide)).use ?_
  simp -implicitDefEqProofs only [go_sem, hb_bw, Int.natCast_nonneg, Int.natCast_nonneg, wcl_len, Nat.mul_one, xor_w32, shr3_w32, shr10_w32, add_w32, f0, f5, f18, f19, f10, f11, f12, f13, f14, f15, f16, f17, Int.natCast_nonneg, xor_w32, and_w32, not_w32, add_w32, k2, dk, G2, dw, wcl_len, hf, b2, pk]
  refine (turn_pc _ _ (k := 11) (by decide)).use ?_
  simp -implicitDefEqProofs only [go_sem, hb_bw, Int.natCast_nonneg, Int.natCast_nonneg, wcl_len, Nat.mul_one, xor_w32, shr3_w32, shr10_w32, add_w32, f0, f5, f18, f19, f10, f11, f12, f13, f14, f15, f16, f17, Int.natCast_nonneg, xor_w32, and_w32, not_w32, add_w32, k2, dk, G2, dw, wcl_len, hf, b2, pk]
  refine (turn_pc _ _ (k := 25) (by decide)).use ?_
  simp -implicitDefEqProofs only [go_sem, hb_bw, Int.natCast_nonneg, Int.natCast_nonneg, wcl_len, Nat.mul_one, xor_w32, shr3_w32, shr10_w32, add_w32, f0, f5, f18, f19, f10, f11, f12, f13, f14, f15, f16, f17, Int.natCast_nonneg, xor_w32, and_w32, not_w32, add_w32, k2, dk, G2, dw, wcl_len, hf, b2, pk]
  refine (turn_pc _ _ (k := 2) (by decide)).use ?_
  simp -implicitDefEqProofs only [go_sem, hb_bw, Int.natCast_nonneg, Int.natCast_nonneg, wcl_len, Nat.mul_one, xor_w32, shr3_w32, shr10_w32, add_w32, f0, f5, f18, f19, f10, f11, f12, f13, f14, f15, f16, f17, Int.natCast_nonneg, xor_w32, and_w32, not_w32, add_w32, k2, dk, G2, dw, wcl_len, hf, b2, pk]
  refine (turn_pc _ _ (k := 13) (by decide)).use ?_
  simp -implicitDefEqProofs only [go_sem, hb_bw, Int.natCast_nonneg, Int.natCast_nonneg, wcl_len, Nat.mul_one, xor_w32, shr3_w32, shr10_w32, add_w32, f0, f5, f18, f19, f10, f11, f12, f13, f14, f15, f16, f17, Int.natCast_nonneg, xor_w32, and_w32, not_w32, add_w32, k2, dk, G2, dw, wcl_len, hf, b2, pk]
  refine (turn_pc _ _ (k := 22) (by decide)).use ?_
  simp -implicitDefEqProofs only [go_sem, hb_bw, Int.natCast_nonneg, Int.natCast_nonneg, wcl_len, Nat.mul_one, xor_w32, shr3_w32, shr10_w32, add_w32, f0, f5, f18, f19, f10, f11, f12, f13, f14, f15, f16, f17, Int.natCast_nonneg, xor_w32, and_w32, not_w32, add_w32, k2, dk, G2, dw, wcl_len, hf, b2, pk]

  refine ⟨m - 1, by omega, _, Ext.refl _, k + 1, by omega, rfl, rfl, ?_⟩
  rw [hr]
  exact ⟨rfl, rfl, rfl, rfl, rfl, rfl, rfl, rfl⟩
 obtain rfl : k = 64 := by omega
 clear hk hm
 skip
 have hsum : (s.plus (rnds W s 64)) = T := by rw [← hT]; unfold shaBlock; rw [hB]
 clear hT hB
 generalize rnds W s 64 = r at *
 simp -implicitDefEqProofs only [go_sem, f0, f10, f11, f12, f13, f14, f15, f16, f17, f19, show ¬ (((64 : Nat) : Int) < 64) by omega, hb_bw, Int.natCast_nonneg, Int.natCast_nonneg, wcl_len, Nat.mul_one, xor_w32, shr3_w32, shr10_w32, add_w32, Int.natCast_nonneg, xor_w32, and_w32, not_w32, add_w32, k2, wcl_len, b2]
 intro bv hb_bv n_bv
 simp -implicitDefEqProofs only [go_sem, hb_bw, Int.natCast_nonneg, Int.natCast_nonneg, wcl_len, Nat.mul_one, xor_w32, shr3_w32, shr10_w32, add_w32, Int.natCast_nonneg, xor_w32, and_w32, not_w32, add_w32, k2, wcl_len, b2, hb_bv]
 intro bo hb_bo n_bo
 simp -implicitDefEqProofs only [go_sem, hb_bw, Int.natCast_nonneg, Int.natCast_nonneg, wcl_len, Nat.mul_one, xor_w32, shr3_w32, shr10_w32, add_w32, Int.natCast_nonneg, xor_w32, and_w32, not_w32, add_w32, k2, wcl_len, b2, hb_bv, hb_bo]
 have z1 : bo ≠ bv := fun e => by rw [e, H.set_get_same] at n_bo; cases n_bo
 generalize hh3 : h'.set bv ⟨[w32 r.a, w32 r.b, w32 r.c, w32 r.d, w32 r.e, w32 r.f, w32 r.g, w32 r.h], 8⟩ = h3 at *
 have g3 : h3.get bv = some ⟨wcl r.list, 8⟩ := by rw [← hh3]; exact H.set_get_same _ _ _
 have e3 : Ext h h3 := by rw [← hh3]; exact eF.set n_bv _
 have e23 : Ext h' h3 := by rw [← hh3]; exact (Ext.refl _).set n_bv _
 have b3 : h3.base ≤ bv := by rw [← hh3, H.set_base]; exact hb_bv
 refine loopW_of (fun m f h' => ∃ (k : Nat) (u : Value), m + k = 8 ∧ f 0 = .slice a 8 c ∧ f 22 = sl bv 0 8 8 ∧ f 23 = u ∧ f 24 = i64 k ∧ Ext h3 h' ∧ h'.get bv = some ⟨wcl r.list, 8⟩ ∧ Own h3 h' u 1 (wsI ((s.plus r).list.take k))) 8
  ⟨0, sl bo 0 0 0, by simp, by simp -implicitDefEqProofs only [go_sem, f0, hb_bw, Int.natCast_nonneg, Int.natCast_nonneg, wcl_len, Nat.mul_one, xor_w32, shr3_w32, shr10_w32, add_w32, Int.natCast_nonneg, xor_w32, and_w32, not_w32, add_w32, k2, wcl_len, b2, hb_bv, hb_bo], by simp -implicitDefEqProofs only [go_sem, hb_bw, Int.natCast_nonneg, Int.natCast_nonneg, wcl_len, Nat.mul_one, xor_w32, shr3_w32, shr10_w32, add_w32, Int.natCast_nonneg, xor_w32, and_w32, not_w32, add_w32, k2, wcl_len, b2, hb_bv, hb_bo], by simp -implicitDefEqProofs only [go_sem, hb_bw, Int.natCast_nonneg, Int.natCast_nonneg, wcl_len, Nat.mul_one, xor_w32, shr3_w32, shr10_w32, add_w32, Int.natCast_nonneg, xor_w32, and_w32, not_w32, add_w32, k2, wcl_len, b2, hb_bv, hb_bo], by simp -implicitDefEqProofs only [go_sem, hb_bw, Int.natCast_nonneg, Int.natCast_nonneg, wcl_len, Nat.mul_one, xor_w32, shr3_w32, shr10_w32, add_w32, Int.natCast_nonneg, xor_w32, and_w32, not_w32, add_w32, k2, wcl_len, b2, hb_bv, hb_bo]; rfl, (Ext.refl _).set n_bo _, by rw [H.set_get_ne _ _ _ _ z1.symm]; exact g3, .inr ⟨bo, 0, 0, rfl, Nat.le_refl _, by assumption, n_bo, H.set_get_same _ _ _, by simp, Wid.nil 1⟩⟩ ?_
 clear f0 f5 f18 f19 f10 f11 f12 f13 f14 f15 f16 f17 m f
 rintro m f h4 ⟨k, u, hm, f0, f22, rfl, f24, e4, g4, ou⟩
 obtain ⟨au, cu, f23⟩ := ou.shape
 rw [f23] at ou
 have hlt : (wsI ((s.plus r).list.take k)).length = k := by simp [wsI, S8.list]; omega
 rw [hlt] at ou f23
 skip
 skip
 by_cases hk : k < 8
 ·obtain ⟨x, y, hx, hy, hz⟩ : ∃ x y, s.list[k]? = some x ∧ r.list[k]? = some y ∧ (s.plus r).list[k]? = some (x + y) := by
   match k, hk with
   | 0, _ | 1, _ | 2, _ | 3, _ | 4, _ | 5, _ | 6, _ | 7, _ => exact ⟨_, _, rfl, rfl, rfl⟩
  have dk := ldc_sub ((e2.trans e23).trans e4).2 (v3 k [i64 x.toNat] (by simp [wsI, hx]))
  rw [Nat.mul_one] at dk
  have dr := wcl_get hy
  have b4 : h4.base ≤ bv := by rw [e4.1]; exact b3
  have G4 := fun o n => ldc_get g4 o n
  have hl8 : r.list.length = 8 := rfl
  simp -implicitDefEqProofs only [go_sem, v2, dk, dr, G4, b4, wcl_len, hl8, Nat.mul_one, wrap_u32v, add_w32, wrap_i64_32, show (k : Int) < 8 by omega, show (k : Int) < (8 : Nat) by omega, show k + 1 ≤ 8 by omega, Int.natCast_nonneg, Int.natCast_nonneg, wcl_len, Nat.mul_one, xor_w32, shr3_w32, shr10_w32, add_w32, Int.natCast_nonneg, xor_w32, and_w32, not_w32, add_w32, k2, wcl_len, b2, f0, f22, f23, f24, Int.natCast_nonneg]
  intro bn hb_bn n_bn
  simp -implicitDefEqProofs only [go_sem, Int.natCast_nonneg, Int.natCast_nonneg, wcl_len, Nat.mul_one, xor_w32, shr3_w32, shr10_w32, add_w32, Int.natCast_nonneg, xor_w32, and_w32, not_w32, add_w32, k2, wcl_len, b2, f0, f22, f23, f24, Int.natCast_nonneg, hb_bn]
  refine ⟨Sub.set (Sub.refl _) n_bn _, ?_⟩
  refine appW_own (new := [[i64 (x + y).toNat]]) (e4.set n_bn _) (ou.ext ((Ext.refl _).set n_bn _)) rfl (by intro r hr; simp at hr; subst hr; rfl) rfl (by rw [hlt]; simp; omega) ?_
  intro v' h5 e5 o5 kp
  have g5 : h5.get bv = some ⟨wcl r.list, 8⟩ := by
   refine kp bv _ (by rw [H.set_get_ne _ _ _ _ (fun e => by subst e; rw [g4] at n_bn; cases n_bn)]; exact g4) fun b k' m' e => ?_
   rintro rfl
   have := (ou.ob_new (b := bv) (by rw [e]; rfl)).1
   rw [g3] at this; cases this
  simp -implicitDefEqProofs only [go_sem, wrap_i64 (show -(9223372036854775808 : Int) ≤ ((k : Int) + 1) by omega) (show ((k : Int) + 1) < 9223372036854775808 by omega), Int.natCast_nonneg, Int.natCast_nonneg, wcl_len, Nat.mul_one, xor_w32, shr3_w32, shr10_w32, add_w32, Int.natCast_nonneg, xor_w32, and_w32, not_w32, add_w32, k2, wcl_len, b2, f0, f22, f23, f24, Int.natCast_nonneg, hb_bn]
  refine ⟨m - 1, by omega, _, Ext.refl _, k + 1, v', by omega, rfl, rfl, e5, g5, ?_⟩
  rw [List.take_add_one, hz]
  simpa [wsI] using o5
 obtain rfl : k = 8 := by omega
 have e8 : (s.plus r).list.take 8 = (s.plus r).list := rfl
 rw [e8, hsum] at ou
 skip
 simp -implicitDefEqProofs only [go_sem, show ¬ (((8 : Nat) : Int) < 8) by omega, Int.natCast_nonneg, Int.natCast_nonneg, wcl_len, Nat.mul_one, xor_w32, shr3_w32, shr10_w32, add_w32, Int.natCast_nonneg, xor_w32, and_w32, not_w32, add_w32, k2, wcl_len, b2, f0, f22, f23, f24, Int.natCast_nonneg]
 exact ⟨ou.back e3, e3.trans e4⟩
theorem block_ac {h : H} {v : Value} {s : S8} {l : List UInt8} (hv : Sl h v 1 (wsI s.list)) (hl : l.length = 64) : AC Tryz.prog 231 [v, str l] h fun r h' => Own h h' r 1 (wsI (shaBlock s l).list) ∧ Ext h h' := block_ac0 rfl hv hl
end Go.Proofs.YthjbhdmjfakfaaaGreatDoor