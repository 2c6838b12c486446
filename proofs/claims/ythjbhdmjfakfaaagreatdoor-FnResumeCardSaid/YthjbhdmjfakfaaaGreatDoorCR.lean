/- A helper of this seat's claims (contracts of the functions): what it shows is shown for every input that its statements name, on no other condition. -/
import Derived.Test.YthjbhdmjfakfaaaGreatDoorMC12r
import Derived.Test.YthjbhdmjfakfaaaGreatDoorMC04k
import Derived.Test.YthjbhdmjfakfaaaGreatDoorKD
set_option linter.unusedVariables false
set_option linter.unusedSimpArgs false
set_option maxRecDepth 100000
namespace Go.Proofs.YthjbhdmjfakfaaaGreatDoor
open Go.KH

def runI (x n : Nat) : List Int := (List.range n).map fun j : Nat => ((x + j : Nat) : Int)
theorem runI_len (x n : Nat) : (runI x n).length = n := by simp [runI]
theorem runI_succ (x n : Nat) : runI x (n + 1) = runI x n ++ [((x + n : Nat) : Int)] := by unfold runI; rw [List.range_succ, List.map_append]; rfl
theorem runI_get {x n k : Nat} (hk : k < n) : (runI x n)[k]? = some ((x + k : Nat) : Int) := by simp [runI, hk]
theorem runI_zero (x : Nat) : runI x 0 = [] := rfl
theorem runI_ok {x n : Nat} (h : x + n ≤ 24) : listOk (runI x n) := fun i hi => by
 have hi' : i < n := by rwa [runI_len] at hi
 have hg : ∀ j (hj : j < (runI x n).length), (runI x n)[j] = ((x + j : Nat) : Int) := fun j hj => by simp [runI]
 refine ⟨?_, fun h0 => ?_⟩
 ·rw [hg]; omega
 ·rw [hg, hg]; omega
theorem bits_run : ∀ x : Fin 25, bitsN (runI 0 x.val) = 2 ^ x.val - 1 := by decide +kernel
theorem free_run : ∀ x : Fin 25, fromBits (16777216 - 2 ^ x.val) = runI x.val (24 - x.val) := by decide +kernel
theorem not_run : ∀ x : Fin 25, IntKind.i64.wrap (BitVec.ofInt 64 16777215 &&& ~~~(BitVec.ofInt 64 ((2 ^ x.val - 1 : Nat) : Int))).toNat = ((16777216 - 2 ^ x.val : Nat) : Int) := by decide +kernel
def b_impl_freeOf : C := (jo [q 4 (.mv (.c nils))]
 (jo [jm 5 0, jc 6 153 [(.t 5)], jm 7 1, jc 8 153 [(.t 7)], jb 9 .or 6 8, q 10 (.bin .andNot (.c (i64 16777215)) (.t 9)), jc 11 152 [(.t 10)], jm 4 11]
 .ret))
theorem w_impl_freeOf : Wk Tryz.prog 78 12 [.tmp 4] b_impl_freeOf := Wk.of mixedOrders Tryz.func78 (by kernel_rfl) (by kernel_rfl)

theorem freeOf_ac {h : H} {va vb : Value} {x : Nat} (hx : x ≤ 24) (ha : Sl h va 1 (ints (runI 0 x))) (hb : Sl h vb 1 (ints [])) : AC Tryz.prog 78 [va, vb] h fun r h' => Ext h h' ∧ Own h h' r 1 (ints (runI x (24 - x))) := by
 have b1 := bits_run ⟨x, by omega⟩
 have b2 := free_run ⟨x, by omega⟩
 have b3 := not_run ⟨x, by omega⟩
 simp only at b1 b2 b3
 have h2 : 2 ^ x ≤ 16777216 := Nat.pow_le_pow_right (i := x) (j := 24) (by decide) hx
 have h0 : 0 < 2 ^ x := Nat.two_pow_pos x
 have hor : obin .or (i64 ((2 ^ x - 1 : Nat) : Int)) (i64 ((0 : Nat) : Int)) = some (i64 ((2 ^ x - 1 : Nat) : Int)) := by
  rw [or_i64 (by omega) (by omega), Nat.or_zero]
 have hand : obin .andNot (i64 16777215) (i64 ((2 ^ x - 1 : Nat) : Int)) = some (i64 ((16777216 - 2 ^ x : Nat) : Int)) := by
  rw [bi_andNot]
  exact congrArg (fun z => some (i64 z)) b3
 refine w_impl_freeOf (by simp) ?_
 unfold b_impl_freeOf
 simp -implicitDefEqProofs only [go_sem]
 refine (bitsOf_pc ha (runI_ok (by omega))).use ?_
 rw [b1]
 simp -implicitDefEqProofs only [go_sem]
 refine (bitsOf_pc hb (by intro i hi; simp at hi)).use ?_
 rw [show bitsN [] = 0 from rfl]
 simp -implicitDefEqProofs only [go_sem, hor, hand]
 refine AC_of (fromBits_ac (x := 16777216 - 2 ^ x) (by omega)) ?_
 rintro r h1 - ⟨e1, o1⟩
 rw [b2] at o1
 simp -implicitDefEqProofs only [go_sem, o1.sl.vcl]
 exact ⟨e1, o1⟩
theorem own_one {h0 h : H} {v : Value} {w : Nat} {r : List Value} (o : Own h0 h v w [r]) : ∃ b c z, v = sl b 0 1 c ∧ 1 ≤ c ∧ h.base ≤ b ∧ h0.get b = none ∧ h.get b = some ⟨r, z⟩ := by
 rcases o with ⟨_, q⟩ | ⟨b, c, z, hv, hc, hb, hn, hg, _, _⟩
 ·cases q
 ·exact ⟨b, c, z, hv, hc, hb, hn, by simpa using hg⟩
def b_impl_extentsOf : C := (jo [q 2 (.mv (.c nils))]
 (jo [q 3 (.mv (.c nils))]
 (.seq (jo [jm 7 0, q 8 (.len (.t 7)), q 9 (.mv (.c (i64 0)))]
 (.block 0 (.loop (jo [jb 10 .lss 9 8]
 (.seq (.cond (.t 10) .skip (.exit 0))
 (.seq (.block 1 (jo [q 11 (.idx 1 (.t 7) (.t 9)), jl 12 11, jm 5 12]
 (jo [jm 13 3, q 14 (.len (.t 13)), jk 15 .sub 14 1, jm 6 15]
 (.seq (.dops true (.tk (jm 16 6) (.tk (jk 17 .geq 16 0) (.tk (jm 18 17) (.tk (qg 19 18 true (.mv (.t 3))) (.tk (qg 20 18 true (.mv (.t 6))) (.tk (qg 21 18 true (.idx 2 (.t 19) (.t 20))) (.tk (qg 22 18 true (.fld 0 (.t 21))) (.tk (qg 23 18 true (.ld false 1 (.t 22))) (.tk (qg 24 18 true (.mv (.t 3))) (.tk (qg 25 18 true (.mv (.t 6))) (.tk (qg 26 18 true (.idx 2 (.t 24) (.t 25))) (.tk (qg 27 18 true (.fld 1 (.t 26))) (.tk (qg 28 18 true (.ld false 1 (.t 27))) (.tk (qg 29 18 true (.bin .add (.t 23) (.t 28))) (.tk (qg 30 18 true (.mv (.t 5))) (.tk (qg 31 18 true (.bin .eql (.t 29) (.t 30))) (.tk (q 32 (.pick (.t 18) (.t 31) (.c (.bool false)))) .nil))))))))))))))))))
 (.cond (.t 32) (.ops [jm 33 3, jm 34 6, q 35 (.idx 2 (.t 33) (.t 34)), jf 36 1 35, jl 37 36, jk 38 .add 37 1, q 39 (.idx 2 (.t 33) (.t 34)), jf 40 1 39, js 1 40 38]) (.ops [jm 41 3, jm 42 5, q 43 (.build [(i64 0), (i64 0)] [(0, 1, (.t 42)), (1, 1, (.c (i64 1)))]), ⟨(some 44), none, .bsl 1 [(i64 0), (i64 0)] [(0, 2, (.t 43))]⟩, ⟨(some 45), none, .app 2 16 (.t 41) (.t 44)⟩, jm 3 45]))))))
 (.ops [jk 46 .add 9 1, jm 9 46])))))))
 (jo [jm 47 3, jm 2 47]
 .ret))))
theorem w_impl_extentsOf : Wk Tryz.prog 213 48 [.tmp 2] b_impl_extentsOf := Wk.of mixedOrders Tryz.func213 (by kernel_rfl) (by kernel_rfl)

theorem extentsOf_ac {h : H} {v : Value} {x n : Nat} (hv : Sl h v 1 (ints (runI x n))) (hn : x + n ≤ 24) (h0 : 0 < n) : AC Tryz.prog 213 [v] h fun r h' => Ext h h' ∧ ∃ b c z, r = sl b 0 1 c ∧ 1 ≤ c ∧ h.base ≤ b ∧ h.get b = none ∧ h'.get b = some ⟨[i64 x, i64 n], z⟩ := by
 obtain ⟨a, c, b, o, rfl, hcap, h2, h3⟩ := hv
 have ll : (ints (runI x n)).length = n := by rw [List.length_map, runI_len]
 rw [ll] at h2
 skip
 refine w_impl_extentsOf (by simp) ?_
 unfold b_impl_extentsOf
 simp -implicitDefEqProofs only [go_sem, ll]
 refine loopW_of (fun m f h' => ∃ (k : Nat), m + k = n ∧ f 7 = .slice a n c ∧ f 8 = i64 n ∧ f 9 = i64 k ∧ Ext h h' ∧ (k = 0 → f 3 = nils ∧ h' = h) ∧ (0 < k → ∃ b c z, f 3 = sl b 0 1 c ∧ 1 ≤ c ∧ h.base ≤ b ∧ h.get b = none ∧ h'.get b = some ⟨[i64 x, i64 k], z⟩)) n
  ⟨0, by simp, by simp -implicitDefEqProofs only [go_sem, ll], by simp -implicitDefEqProofs only [go_sem, ll], by simp -implicitDefEqProofs only [go_sem, ll]; rfl, Ext.refl _, fun _ => ⟨by simp -implicitDefEqProofs only [go_sem, ll], rfl⟩, fun q => absurd q (Nat.lt_irrefl _)⟩ ?_
 rintro m f h' ⟨k, hm, f7, f8, f9, he, hz, hp⟩
 skip
 by_cases hk : k < n
 ·have e1 := ldc_sub he.2 (h3 k [i64 ((x + k : Nat) : Int)] (by rw [List.getElem?_map, runI_get hk]; rfl))
  rcases Nat.eq_zero_or_pos k with h0 | h0
  ·obtain ⟨f3, rfl⟩ := hz h0
   subst h0
   have f9' : f 9 = i64 0 := f9
   have e2 : ldc h' b o 1 = some [i64 (x : Int)] := by simpa using e1
   simp -implicitDefEqProofs only [go_sem, hk, e2, f3, show ¬ ((0 : Int) ≤ -1) by omega, show IntKind.i64.wrap (((0 : Nat) : Int) - 1) = -1 from rfl, show IntKind.i64.wrap ((0 : Int) - 1) = -1 from rfl, ll, f7, f8, f9, h2, Int.ofNat_lt, Int.natCast_nonneg]
   intro b7 hb7 n7
   simp -implicitDefEqProofs only [go_sem, ll, f7, f8, f9, h2, Int.ofNat_lt, Int.natCast_nonneg]
   refine appW_own (new := [[i64 (x : Int), i64 1]]) ((Ext.refl h').set n7 _) (Own.nil _ _ _) (by simp -implicitDefEqProofs only [go_sem, ll, f7, f8, f9, h2, Int.ofNat_lt, Int.natCast_nonneg]; rfl) (by intro r hr; simp at hr; subst hr; rfl) rfl (by simp) ?_
   intro v' h'' he2 ho2 _
   obtain ⟨b9, c9, z9, rfl, p1, p2, p3, p4⟩ := own_one ho2
   simp -implicitDefEqProofs only [go_sem, wrap_i64 (show -(9223372036854775808 : Int) ≤ ((0 : Int) + 1) by omega) (show ((0 : Int) + 1) < 9223372036854775808 by omega), ll, f7, f8, f9, h2, Int.ofNat_lt, Int.natCast_nonneg]
   exact ⟨m - 1, by omega, h'', Ext.refl _, 1, by omega, rfl, he2, (fun q => by cases q), fun _ => ⟨b9, c9, z9, rfl, p1, by rw [← he2.1]; exact p2, p3, p4⟩⟩
  ·obtain ⟨b', c', z, f3, q1, q2, q3, q4⟩ := hp h0
   have hb' : h'.base ≤ b' := by rw [he.1]; exact q2
   have w1 : IntKind.i64.wrap ((x : Int) + (k : Int)) = ((x + k : Nat) : Int) := by rw [wrap_i64 (by omega) (by omega)]; omega
   simp -implicitDefEqProofs only [go_sem, hk, e1, f3, ldc_get q4, show IntKind.i64.wrap (((1 : Nat) : Int) - 1) = 0 from rfl, show (0 : Int) ≤ 0 by omega, show (0 : Int) < ((1 : Nat) : Int) by omega, Int.reduceToNat, w1, hb', stc_get q4, wrap_i64 (show -(9223372036854775808 : Int) ≤ ((k : Int) + 1) by omega) (show ((k : Int) + 1) < 9223372036854775808 by omega), ll, f7, f8, f9, h2, Int.ofNat_lt, Int.natCast_nonneg]
   exact ⟨m - 1, by omega, _, Ext.refl _, k + 1, by omega, rfl, he.set' q3 _, (fun q => by cases q), fun _ => ⟨b', c', z, rfl, q1, q2, q3, H.set_get_same _ _ _⟩⟩
 ·have e : k = n := by omega
  subst e
  obtain ⟨b', c', z, f3, q⟩ := hp h0
  simp -implicitDefEqProofs only [go_sem, f3, Nat.lt_irrefl, ll, f7, f8, f9, h2, Int.ofNat_lt, Int.natCast_nonneg]
  exact ⟨he, b', c', z, rfl, q⟩
def b_impl_reserve : C := (jo [q 6 (.mv (.c nils)), q 7 (.mv (.c (.bool false)))]
 (jo [jm 13 0, jm 14 1, jc 15 78 [(.t 13), (.t 14)], jm 8 15]
 (.seq (jo [jm 16 2, jm 17 8, jc 18 150 [(.t 17)], jb 19 .gtr 16 18]
 (.cond (.t 19) (jo [q 6 (.mv (.c nils)), q 7 (.mv (.c (.bool false)))]
 .ret) .skip))
 (.seq (jo [jm 20 8, jc 21 213 [(.t 20)], q 22 (.len (.t 21)), q 23 (.mv (.c (i64 0)))]
 (.block 0 (.loop (jo [jb 24 .lss 23 22]
 (.seq (.cond (.t 24) .skip (.exit 0))
 (.seq (.block 1 (jo [q 25 (.idx 2 (.t 21) (.t 23)), jd 26 2 25, ⟨(some 10), none, .alloc [(i64 0), (i64 0)]⟩, js 2 10 26]
 (jo [jf 27 1 10, jl 28 27, jm 29 2, jb 30 .geq 28 29]
 (.cond (.t 30) (jo [q 11 (.mv (.c nils))]
 (.seq (jo [jm 31 2, q 32 (.mv (.c (i64 0)))]
 (.block 2 (.loop (jo [jb 33 .lss 32 31]
 (.seq (.cond (.t 33) .skip (.exit 2))
 (.seq (.block 3 (jo [jm 34 32, jm 12 34]
 (.ops [jm 35 11, jf 36 0 10, jl 37 36, jm 38 12, jb 39 .add 37 38, ⟨(some 40), none, .bsl 1 [(i64 0)] [(0, 1, (.t 39))]⟩, ⟨(some 41), none, .app 1 8 (.t 35) (.t 40)⟩, jm 11 41])))
 (.ops [jk 42 .add 32 1, jm 32 42])))))))
 (jo [jm 43 11, jm 6 43, q 7 (.mv (.c (.bool true)))]
 .ret))) .skip))))
 (.ops [jk 44 .add 23 1, jm 23 44])))))))
 (jo [jm 45 8, jm 46 2, q 47 (.lsl 1 (.t 45) none (some (.t 46))), jm 6 47, q 7 (.mv (.c (.bool true)))]
 .ret)))))
theorem w_impl_reserve : Wk Tryz.prog 151 48 [.tmp 6, .tmp 7] b_impl_reserve := Wk.of mixedOrders Tryz.func151 (by kernel_rfl) (by kernel_rfl)

theorem reserve_ac {h : H} {va vb : Value} {x n : Nat} (hx : x ≤ 24) (hn : 1 ≤ n ∧ n ≤ 1000) (ha : Sl h va 1 (ints (runI 0 x))) (hb : Sl h vb 1 (ints [])) : AC Tryz.prog 151 [va, vb, i64 n] h fun r h' => Ext h h' ∧ ∃ w, r = .tuple #[w, .bool (decide (x + n ≤ 24))] ∧ (x + n ≤ 24 → Own h h' w 1 (ints (runI x n))) := by
 refine w_impl_reserve (by simp) ?_
 unfold b_impl_reserve
 simp -implicitDefEqProofs only [go_sem]
 refine AC_of (freeOf_ac hx ha hb) ?_
 rintro r1 h1 - ⟨e1, o1⟩
 simp -implicitDefEqProofs only [go_sem, o1.sl.vcl]
 refine (sizeInts_pc o1.sl).use ?_
 rw [runI_len]
 by_cases hf : x + n ≤ 24
 rotate_left
 ·simp -implicitDefEqProofs only [go_sem, show ((24 - x : Nat) : Int) < (n : Int) by omega]
  exact ⟨e1, nils, by rw [decide_eq_false hf], fun q => absurd q hf⟩
 simp -implicitDefEqProofs only [go_sem, show ¬ ((24 - x : Nat) : Int) < (n : Int) by omega]
 refine AC_of (extentsOf_ac o1.sl (by omega) (by omega)) ?_
 rintro _ h2 - ⟨e2, b2, c2, z2, rfl, p1, p2, p3, p4⟩
 simp -implicitDefEqProofs only [go_sem]
 refine loopW_of (fun m f h' => h' = h2 ∧ f 2 = i64 n ∧ f 21 = sl b2 0 1 c2 ∧ f 22 = i64 1 ∧ f 23 = i64 0) 1 ⟨rfl, by simp -implicitDefEqProofs only [go_sem], by simp -implicitDefEqProofs only [go_sem], by simp -implicitDefEqProofs only [go_sem]; rfl, by simp -implicitDefEqProofs only [go_sem]⟩ ?_
 rintro m f h' ⟨rfl, f2, f21, f22, f23⟩
 simp -implicitDefEqProofs only [go_sem, f2, f21, f22, f23, show (0 : Int) < 1 by omega, Int.reduceToNat, ldc_get p4, show (0 : Int) < ((1 : Nat) : Int) by omega]
 intro b10 hb10 n10
 simp -implicitDefEqProofs only [go_sem, hb10, show ((24 - x : Nat) : Int) ≥ (n : Int) by omega, show (n : Int) ≤ ((24 - x : Nat) : Int) by omega, f2]
 have e10 := (Ext.refl h').set n10 ⟨[i64 (x : Int), i64 ((24 - x : Nat) : Int)], 2⟩
 have g10 : (h'.set b10 ⟨[i64 (x : Int), i64 ((24 - x : Nat) : Int)], 2⟩).get b10 = some ⟨[i64 (x : Int), i64 ((24 - x : Nat) : Int)], 2⟩ := H.set_get_same _ _ _
 generalize hH : h'.set b10 ⟨[i64 (x : Int), i64 ((24 - x : Nat) : Int)], 2⟩ = hS at e10 g10 ⊢
 refine loopW_of (fun m f h2 => ∃ (k : Nat) (w : Value), m + k = n ∧ f 10 = ptr b10 0 ∧ f 31 = i64 n ∧ f 32 = i64 k ∧ f 11 = w ∧ Ext hS h2 ∧ Own hS h2 w 1 (ints (runI x k))) n
  ⟨0, nils, by omega, by simp -implicitDefEqProofs only [go_sem], by simp -implicitDefEqProofs only [go_sem], by simp -implicitDefEqProofs only [go_sem]; rfl, by simp -implicitDefEqProofs only [go_sem], Ext.refl _, Own.nil _ _ _⟩ ?_
 rintro m f h3 ⟨k, w, hm, f10, f31, f32, f11, he, ho⟩
 obtain ⟨aw, cw, rfl⟩ := ho.shape
 have ll : (ints (runI x k)).length = k := by rw [List.length_map, runI_len]
 rw [ll] at ho f11
 have g3 := he.2.g b10 _ g10
 by_cases hk : k < n
 ·have w1 : IntKind.i64.wrap ((x : Int) + (k : Int)) = ((x + k : Nat) : Int) := by rw [wrap_i64 (by omega) (by omega)]; omega
  simp -implicitDefEqProofs only [go_sem, f10, f31, f32, f11, show (k : Int) < (n : Int) by omega, ldc_get g3, w1]
  intro b7 hb7 n7
  simp -implicitDefEqProofs only [go_sem]
  refine appW_own (new := [[i64 ((x + k : Nat) : Int)]]) (he.set n7 _) (ho.ext ((Ext.refl _).set n7 _)) (by simp -implicitDefEqProofs only [go_sem]; rfl) (by intro r hr; simp at hr; subst hr; rfl) rfl (by rw [ll]; simp; omega) ?_
  intro v' h'' he2 ho2 _
  simp -implicitDefEqProofs only [go_sem, f10, f31, f32, wrap_i64 (show -(9223372036854775808 : Int) ≤ ((k : Int) + 1) by omega) (show ((k : Int) + 1) < 9223372036854775808 by omega)]
  exact ⟨m - 1, by omega, h'', Ext.refl _, k + 1, v', by omega, rfl, rfl, he2, by rw [runI_succ]; simpa using ho2⟩
 ·have e : k = n := by omega
  subst e
  simp -implicitDefEqProofs only [go_sem, f10, f31, f32, f11, Int.lt_irrefl]
  refine ⟨((e1.trans e2).trans e10).trans he, _, by rw [decide_eq_true hf], fun _ => ho.back ((e1.trans e2).trans e10)⟩
end Go.Proofs.YthjbhdmjfakfaaaGreatDoor