/- A helper of this seat's claims (contracts of the functions): what it shows is shown for every input that its statements name, on no other condition. -/
import Derived.Test.YthjbhdmjfakfaaaGreatDoorMC14y
import Derived.Test.YthjbhdmjfakfaaaGreatDoorMCXa
import Derived.Test.YthjbhdmjfakfaaaGreatDoorMCZc
set_option linter.unusedVariables false
set_option linter.unusedSimpArgs false
set_option maxRecDepth 100000
namespace Go.Proofs.YthjbhdmjfakfaaaGreatDoor
open Go.KH

def nearP (y : List UInt8) : List UInt8 → Bool := fun x => decide (6 ≤ (xorB x y).count 0)
def isP (y : List UInt8) : List UInt8 → Bool := fun x => decide (y = x)
def stepFor (old : List (List UInt8)) (d : Nat) (b : List UInt8) : UStep :=
 if b = zero8 then ⟨1, d, 0, []⟩
 else if 0 ≤ firstAt (isP b) old then ⟨3, d, firstAt (isP b) old, []⟩
 else if 0 ≤ firstAt (nearP b) old then ⟨4, d, firstAt (nearP b) old, xorB (at8 old (firstAt (nearP b) old)) b⟩
 else ⟨2, d, 0, b⟩
def stepsTo (old fresh : List (List UInt8)) (k : Nat) : List UStep := (List.range k).filterMap fun i => if old[i]? = fresh[i]? then none else some (stepFor old i (fresh.getD i []))
theorem stepsTo_same {old fresh : List (List UInt8)} {k : Nat} (h : old[k]? = fresh[k]?) : stepsTo old fresh (k + 1) = stepsTo old fresh k := by
 simp [stepsTo, List.range_succ, h]
theorem stepsTo_new {old fresh : List (List UInt8)} {k : Nat} (h : ¬ old[k]? = fresh[k]?) : stepsTo old fresh (k + 1) = stepsTo old fresh k ++ [stepFor old k (fresh.getD k [])] := by
 simp [stepsTo, List.range_succ, h]
theorem stepsTo_len (old fresh : List (List UInt8)) (k : Nat) : (stepsTo old fresh k).length ≤ k := by
 unfold stepsTo
 exact Nat.le_trans (List.length_filterMap_le ..) (by simp)
def diffTo (a b : List UInt8) (k : Nat) : Nat := ((List.range k).filter fun i => !decide (a[i]? = b[i]?)).length
theorem diffTo_succ (a b : List UInt8) (k : Nat) : diffTo a b (k + 1) = diffTo a b k + if a[k]? = b[k]? then 0 else 1 := by
 unfold diffTo
 rw [List.range_succ, List.filter_append, List.length_append]
 congr 1
 by_cases h : a[k]? = b[k]? <;> simp [h]
theorem diffTo_le (a b : List UInt8) (k : Nat) : diffTo a b k ≤ k := by
 unfold diffTo
 exact Nat.le_trans (List.length_filter_le ..) (by simp)
theorem diff_xor : ∀ {a b : List UInt8} {n : Nat}, a.length = n → b.length = n → diffTo a b n + (xorB a b).count 0 = n
 | [], [], 0, _, _ => rfl
 | x :: a, y :: b, n + 1, ha, hb => by
  have ih := diff_xor (a := a) (b := b) (n := n) (by simpa using ha) (by simpa using hb)
  have e : diffTo (x :: a) (y :: b) (n + 1) = (if x = y then 0 else 1) + diffTo a b n := by
   unfold diffTo
   rw [List.range_succ_eq_map, List.filter_cons, List.filter_map, ]
   by_cases h : x = y
   ·simp [h, Function.comp_def]
   ·simp [h, Function.comp_def]; omega
  have hx : (x ^^^ y = 0) ↔ x = y := by
   constructor
   ·intro h
    have : x.toBitVec ^^^ y.toBitVec = 0 := by
     have := congrArg UInt8.toBitVec h
     simpa using this
    exact UInt8.toBitVec_inj.1 (by simpa [BitVec.xor_eq_zero_iff] using this)
   ·rintro rfl; simp
  have e2 : (xorB (x :: a) (y :: b)).count 0 = (if x = y then 1 else 0) + (xorB a b).count 0 := by
   show ((x ^^^ y) :: xorB a b).count 0 = _
   rw [List.count_cons]
   by_cases h : x = y
   ·simp [h]; omega
   ·have : ¬ (x ^^^ y = 0) := fun q => h (hx.1 q)
    simp [h, this]
  rw [e, e2]
  split <;> omega
def b_spec_l07Other : C := (jo [q 4 (.mv (.c (i64 0)))]
 (jo [q 5 (.mv (.c (i64 0)))]
 (.seq (jo [q 6 (.mv (.c (i64 0)))]
 (.block 0 (.loop (.seq (jo [jm 7 6, jk 8 .lss 7 8]
 (.cond (.t 8) .skip (.exit 0)))
 (.seq (.block 1 (.seq (.dops false (.tk (jm 11 0) (.tk (jm 12 6) (.tk (q 13 (.sidx (.t 11) (.t 12))) (.tk (jm 14 1) (.tk (jm 15 6) (.tk (q 16 (.sidx (.t 14) (.t 15))) (.tk (jb 17 .neq 13 16) .nil))))))))
 (.cond (.t 17) (.ops [jm 18 5, jk 19 .add 18 1, jm 5 19]) .skip)))
 (.ops [jm 9 6, jk 10 .add 9 1, jm 6 10]))))))
 (jo [jm 20 5, jm 4 20]
 .ret))))
theorem w_spec_l07Other : Wk Tryz.prog 189 21 [.tmp 4] b_spec_l07Other := Wk.of mixedOrders Tryz.func189 (by kernel_rfl) (by kernel_rfl)

theorem other_pc {h : H} {x y : List UInt8} (hx : x.length = 8) (hy : y.length = 8) : PC Tryz.prog 189 [str x, str y] h (i64 ((8 - (xorB x y).count 0 : Nat))) := by
 have hd := diff_xor hx hy
 refine PC_of ?_
 refine w_spec_l07Other (by simp) ?_
 unfold b_spec_l07Other
 simp -implicitDefEqProofs only [go_sem]
 refine loopW_of (fun m f h' => ∃ k, m + k = 8 ∧ h' = h ∧ f 0 = str x ∧ f 1 = str y ∧ f 5 = i64 (diffTo x y k) ∧ f 6 = i64 k) 8
  ⟨0, by simp, rfl, by simp -implicitDefEqProofs only [go_sem], by simp -implicitDefEqProofs only [go_sem], by simp -implicitDefEqProofs only [go_sem]; rfl, by simp -implicitDefEqProofs only [go_sem]; rfl⟩ ?_
 rintro m f h' ⟨k, hm, rfl, f0, f1, f5, f6⟩
 skip
 by_cases hk : k < 8
 ·have e1 : x[k]? = some (x[k]'(by omega)) := List.getElem?_eq_getElem _
  have e2 : y[k]? = some (y[k]'(by omega)) := List.getElem?_eq_getElem _
  have hs := diffTo_succ x y k
  have hle := diffTo_le x y k
  rw [e1, e2] at hs
  generalize x[k]'(by omega) = p at *
  generalize y[k]'(by omega) = q at *
  by_cases h4 : p = q
  ·subst h4
   simp -implicitDefEqProofs only [go_sem, show (k : Int) < 8 by omega, Int.toNat_natCast, e1, e2, wrap_i64 (show -(9223372036854775808 : Int) ≤ ((k : Int) + 1) by omega) (show ((k : Int) + 1) < 9223372036854775808 by omega), f0, f1, f5, f6, Int.natCast_nonneg]
   exact ⟨m - 1, by omega, _, Ext.refl _, k + 1, by omega, rfl, by rw [hs, if_pos rfl, Nat.add_zero], rfl⟩
  ·have h5 : ¬ ((p.toNat : Int) = q.toNat) := fun e => h4 (UInt8.toNat_inj.1 (by omega))
   simp -implicitDefEqProofs only [go_sem, show (k : Int) < 8 by omega, Int.toNat_natCast, e1, e2, h5, wrap_i64 (show -(9223372036854775808 : Int) ≤ ((k : Int) + 1) by omega) (show ((k : Int) + 1) < 9223372036854775808 by omega), wrap_i64 (show -(9223372036854775808 : Int) ≤ ((diffTo x y k : Int) + 1) by omega) (show ((diffTo x y k : Int) + 1) < 9223372036854775808 by omega), f0, f1, f5, f6, Int.natCast_nonneg]
   exact ⟨m - 1, by omega, _, Ext.refl _, k + 1, by omega, rfl, by rw [hs, if_neg (fun e => h4 (Option.some.inj e))]; rfl, rfl⟩
 ·obtain rfl : k = 8 := by omega
  simp -implicitDefEqProofs only [go_sem, show ¬ (((8 : Nat) : Int) < 8) by omega, f0, f1, f5, f6, Int.natCast_nonneg]
  exact ⟨Ext.refl _, by rw [show diffTo x y 8 = 8 - (xorB x y).count 0 by omega]⟩
end Go.Proofs.YthjbhdmjfakfaaaGreatDoor
namespace Go.Proofs.YthjbhdmjfakfaaaGreatDoor
open Go.KH

theorem near_get {old : List (List UInt8)} (ho : imageOk old) {b : List UInt8} (h : 0 ≤ firstAt (nearP b) old) : ∃ k, ∃ hk : k < old.length, firstAt (nearP b) old = k ∧ at8 old k = old[k] := by
 obtain ⟨k, hk, e, _⟩ := firstAt_get h
 exact ⟨k, hk, e, by simp [at8, hk]⟩
def b_spec_l07For : C := (jo [⟨(some 6), none, .alloc [(i64 0), (i64 0), (i64 0), (str [])]⟩]
 (.seq (jo [jm 9 2, jc 10 188 [], jb 11 .eql 9 10]
 (.cond (.t 11) (jo [jm 12 1, q 13 (.build [(i64 0), (i64 0), (i64 0), (str [])] [(0, 1, (.c (i64 1))), (1, 1, (.t 12))]), js 4 6 13]
 .ret) .skip))
 (.seq (jo [q 7 (.mv (.c (i64 0)))]
 (.block 0 (.loop (.seq (jo [jm 14 7, jm 15 0, q 16 (.len (.t 15)), jb 17 .lss 14 16]
 (.cond (.t 17) .skip (.exit 0)))
 (.seq (.block 1 (jo [jm 20 0, jm 21 7, q 22 (.idx 1 (.t 20) (.t 21)), jl 23 22, jm 24 2, jb 25 .eql 23 24]
 (.cond (.t 25) (jo [jm 26 1, jm 27 7, q 28 (.build [(i64 0), (i64 0), (i64 0), (str [])] [(0, 1, (.c (i64 3))), (1, 1, (.t 26)), (2, 1, (.t 27))]), js 4 6 28]
 .ret) .skip)))
 (.ops [jm 18 7, jk 19 .add 18 1, jm 7 19]))))))
 (.seq (jo [q 8 (.mv (.c (i64 0)))]
 (.block 2 (.loop (.seq (jo [jm 29 8, jm 30 0, q 31 (.len (.t 30)), jb 32 .lss 29 31]
 (.cond (.t 32) .skip (.exit 2)))
 (.seq (.block 3 (jo [jm 35 0, jm 36 8, q 37 (.idx 1 (.t 35) (.t 36)), jl 38 37, jm 39 2, jc 40 189 [(.t 38), (.t 39)], jk 41 .leq 40 2]
 (.cond (.t 41) (jo [jm 42 1, jm 43 8, jm 44 0, jm 45 8, q 46 (.idx 1 (.t 44) (.t 45)), jl 47 46, jm 48 2, jc 49 190 [(.t 47), (.t 48)], q 50 (.build [(i64 0), (i64 0), (i64 0), (str [])] [(0, 1, (.c (i64 4))), (1, 1, (.t 42)), (2, 1, (.t 43)), (3, 1, (.t 49))]), js 4 6 50]
 .ret) .skip)))
 (.ops [jm 33 8, jk 34 .add 33 1, jm 8 34]))))))
 (jo [jm 51 1, jm 52 2, q 53 (.build [(i64 0), (i64 0), (i64 0), (str [])] [(0, 1, (.c (i64 2))), (1, 1, (.t 51)), (3, 1, (.t 52))]), js 4 6 53]
 .ret)))))
theorem w_spec_l07For : Wk Tryz.prog 111 54 [.cell 6 true 4] b_spec_l07For := Wk.of mixedOrders Tryz.func111 (by kernel_rfl) (by kernel_rfl)

set_option maxHeartbeats 1600000 in
theorem l07For_pc {h : H} {v : Value} {old : List (List UInt8)} {y : List UInt8} {d : Nat} (hv : Sl h v 1 (strs old)) (ho : imageOk old) (hy : y.length = 8) : PC Tryz.prog 111 [v, i64 d, str y] h (.agg (stepFor old d y).cells.toArray) := by
 have hb := ho.1
 obtain ⟨a, c, bo, o, rfl, hcap, h2, h3⟩ := hv
 simp only [List.length_map] at h2
 refine PC_of ?_
 unfold stepFor
 refine w_spec_l07For (by simp) ?_
 unfold b_spec_l07For
 simp -implicitDefEqProofs only [go_sem, List.length_map]
 intro b6 hb_b6 n_b6
 simp -implicitDefEqProofs only [go_sem, hb_b6]
 refine (l07Zero_pc _).use ?_
 simp -implicitDefEqProofs only [go_sem, hb_b6]
 refine Br.of (fun h1 => ?_) (fun h1 => ?_)
 ·simp -implicitDefEqProofs only [go_sem, h1, hb_b6]
  exact ((Ext.refl _).set' n_b6 _)
 rw [if_neg h1]
 simp -implicitDefEqProofs only [go_sem, hb_b6]
 generalize hH : h.set b6 ⟨[i64 0, i64 0, i64 0, str []], 4⟩ = hh at *
 have eH : Ext h hh := by rw [← hH]; exact ((Ext.refl _).set' n_b6 _)
 have gH : hh.get b6 = some ⟨[i64 0, i64 0, i64 0, str []], 4⟩ := by rw [← hH]; exact H.set_get_same _ _ _
 have bH : hh.base ≤ b6 := by rw [eH.1]; exact hb_b6
 refine loopW_of (fun m f h' => ∃ k, m + k = old.length ∧ h' = hh ∧ f 0 = .slice a old.length c ∧ f 1 = i64 d ∧ f 2 = str y ∧ f 6 = ptr b6 0 ∧ f 7 = i64 k ∧ ∀ i, (hi : i < old.length) → i < k → isP y old[i] = false) old.length
  ⟨0, by simp, rfl, by simp -implicitDefEqProofs only [go_sem, List.length_map, hb_b6], by simp -implicitDefEqProofs only [go_sem, hb_b6], by simp -implicitDefEqProofs only [go_sem, hb_b6], by simp -implicitDefEqProofs only [go_sem, hb_b6], by simp -implicitDefEqProofs only [go_sem, hb_b6]; rfl, by omega⟩ ?_
 rintro m f h' ⟨k, hm, rfl, f0, f1, f2, f6, f7, hno⟩
 skip
 by_cases hk : k < old.length
 ·have e1 := ldc_sub eH.2 (h3 k [str old[k]] (by simp [hk]))
  simp -implicitDefEqProofs only [go_sem, hk, e1, hb_b6, f0, f1, f2, f6, f7, h2, Int.ofNat_lt, Int.natCast_nonneg, gH, ldc_get gH, stc_get gH, bH]
  refine Br.of (fun h4 => ?_) (fun h4 => ?_)
  ·have hq := firstAt_some (p := isP y) hk (by simp [isP, h4]) (fun i hi => hno i (by omega) hi)
   rw [if_pos (by rw [hq]; omega), hq]
   simp -implicitDefEqProofs only [go_sem, h4, hb_b6, f0, f1, f2, f6, f7, h2, Int.ofNat_lt, Int.natCast_nonneg, gH, ldc_get gH, stc_get gH, bH]
   exact eH.set' n_b6 _
  ·simp -implicitDefEqProofs only [go_sem, wrap_i64 (show -(9223372036854775808 : Int) ≤ ((k : Int) + 1) by omega) (show ((k : Int) + 1) < 9223372036854775808 by omega), hb_b6, f0, f1, f2, f6, f7, h2, Int.ofNat_lt, Int.natCast_nonneg, gH, ldc_get gH, stc_get gH, bH]
   refine ⟨m - 1, by omega, _, Ext.refl _, k + 1, by omega, rfl, rfl, fun i hi1 hi2 => ?_⟩
   by_cases e : i = k
   ·subst e; exact decide_eq_false (fun e => h4 e.symm)
   ·exact hno i hi1 (by omega)
 have e : k = old.length := by omega
 subst e
 have hq := firstAt_none (fun i hi => hno i hi hi)
 rw [if_neg (by rw [hq]; omega)]
 clear hno hq hk
 simp -implicitDefEqProofs only [go_sem, Nat.lt_irrefl, hb_b6, f0, f1, f2, f6, f7, h2, Int.ofNat_lt, Int.natCast_nonneg, gH, ldc_get gH, stc_get gH, bH]
 refine loopW_of (fun m f h2 => ∃ k, m + k = old.length ∧ h2 = h' ∧ f 0 = .slice a old.length c ∧ f 1 = i64 d ∧ f 2 = str y ∧ f 6 = ptr b6 0 ∧ f 8 = i64 k ∧ ∀ i, (hi : i < old.length) → i < k → nearP y old[i] = false) old.length
  ⟨0, by simp, rfl, by simp -implicitDefEqProofs only [go_sem, f0, hb_b6, f0, f1, f2, f6, f7, h2, Int.ofNat_lt, Int.natCast_nonneg, gH, ldc_get gH, stc_get gH, bH], by simp -implicitDefEqProofs only [go_sem, f1, hb_b6, f0, f1, f2, f6, f7, h2, Int.ofNat_lt, Int.natCast_nonneg, gH, ldc_get gH, stc_get gH, bH], by simp -implicitDefEqProofs only [go_sem, f2, hb_b6, f0, f1, f2, f6, f7, h2, Int.ofNat_lt, Int.natCast_nonneg, gH, ldc_get gH, stc_get gH, bH], by simp -implicitDefEqProofs only [go_sem, f6, hb_b6, f0, f1, f2, f6, f7, h2, Int.ofNat_lt, Int.natCast_nonneg, gH, ldc_get gH, stc_get gH, bH], by simp -implicitDefEqProofs only [go_sem, hb_b6, f0, f1, f2, f6, f7, h2, Int.ofNat_lt, Int.natCast_nonneg, gH, ldc_get gH, stc_get gH, bH]; rfl, by omega⟩ ?_
 clear f0 f1 f2 f6 f7 hm m f
 rintro m f h' ⟨k, hm, rfl, f0, f1, f2, f6, f8, hno⟩
 skip
 skip
 by_cases hk : k < old.length
 ·have e1 := ldc_sub eH.2 (h3 k [str old[k]] (by simp [hk]))
  have h8 := ho.2 _ (List.getElem_mem hk)
  have hcl : (xorB old[k] y).count 0 ≤ 8 := by
   have := diff_xor h8 hy; omega
  simp -implicitDefEqProofs only [go_sem, hk, e1, hb_b6, f0, f1, f2, f6, h2, Int.ofNat_lt, Int.natCast_nonneg, gH, ldc_get gH, stc_get gH, bH, f0, f1, f2, f6, f8]
  refine (other_pc h8 hy).use ?_
  simp -implicitDefEqProofs only [go_sem, hb_b6, f0, f1, f2, f6, h2, Int.ofNat_lt, Int.natCast_nonneg, gH, ldc_get gH, stc_get gH, bH, f0, f1, f2, f6, f8]
  have ha : at8 old k = old[k] := by simp [at8, hk]
  refine Br.of (fun h4 => ?_) (fun h4 => ?_)
  ·have hq := firstAt_some (p := nearP y) hk (decide_eq_true (by omega)) (fun i hi => hno i (by omega) hi)
   rw [if_pos (by rw [hq]; omega), hq, ha]
   simp -implicitDefEqProofs only [go_sem, hk, e1, hb_b6, f0, f1, f2, f6, h2, Int.ofNat_lt, Int.natCast_nonneg, gH, ldc_get gH, stc_get gH, bH, f0, f1, f2, f6, f8]
   refine (specXored_pc _ h8 hy).use ?_
   simp -implicitDefEqProofs only [go_sem, hb_b6, f0, f1, f2, f6, h2, Int.ofNat_lt, Int.natCast_nonneg, gH, ldc_get gH, stc_get gH, bH, f0, f1, f2, f6, f8]
   exact eH.set' n_b6 _
  ·simp -implicitDefEqProofs only [go_sem, wrap_i64 (show -(9223372036854775808 : Int) ≤ ((k : Int) + 1) by omega) (show ((k : Int) + 1) < 9223372036854775808 by omega), hb_b6, f0, f1, f2, f6, h2, Int.ofNat_lt, Int.natCast_nonneg, gH, ldc_get gH, stc_get gH, bH, f0, f1, f2, f6, f8]
   refine ⟨m - 1, by omega, _, Ext.refl _, k + 1, by omega, rfl, rfl, fun i hi1 hi2 => ?_⟩
   by_cases e : i = k
   ·subst e; exact decide_eq_false (by omega)
   ·exact hno i hi1 (by omega)
 have e : k = old.length := by omega
 subst e
 have hq := firstAt_none (fun i hi => hno i hi hi)
 rw [if_neg (by rw [hq]; omega)]
 simp -implicitDefEqProofs only [go_sem, Nat.lt_irrefl, hb_b6, f0, f1, f2, f6, h2, Int.ofNat_lt, Int.natCast_nonneg, gH, ldc_get gH, stc_get gH, bH, f0, f1, f2, f6, f8]
 exact eH.set' n_b6 _
def b_spec_StepsFor : C := (jo [q 4 (.mv (.c nils))]
 (jo [⟨(some 7), none, .bsl 0 [] []⟩, jm 5 7]
 (.seq (jo [jm 8 0, jc 9 52 [(.t 8)], q 10 (.un .not (.t 9)), jm 11 10, qg 12 11 false (.mv (.t 1)), jcg 13 11 false 52 [(.t 12)], qg 14 11 false (.un .not (.t 13)), q 15 (.pick (.t 11) (.c (.bool true)) (.t 14)), jm 16 15, qg 17 16 false (.mv (.t 0)), qg 18 16 false (.len (.t 17)), qg 19 16 false (.mv (.t 1)), qg 20 16 false (.len (.t 19)), qg 21 16 false (.bin .neq (.t 18) (.t 20)), q 22 (.pick (.t 16) (.c (.bool true)) (.t 21))]
 (.cond (.t 22) (jo [jm 23 5, jm 4 23]
 .ret) .skip))
 (.seq (jo [q 6 (.mv (.c (i64 0)))]
 (.block 0 (.loop (.seq (jo [jm 24 6, jm 25 0, q 26 (.len (.t 25)), jb 27 .lss 24 26]
 (.cond (.t 27) .skip (.exit 0)))
 (.seq (.block 1 (.seq (.dops true (.tk (jm 30 0) (.tk (jm 31 6) (.tk (q 32 (.idx 1 (.t 30) (.t 31))) (.tk (jl 33 32) (.tk (jm 34 1) (.tk (jm 35 6) (.tk (q 36 (.idx 1 (.t 34) (.t 35))) (.tk (jl 37 36) (.tk (jb 38 .neq 33 37) .nil))))))))))
 (.cond (.t 38) (.ops [jm 39 5, jm 40 0, jm 41 6, jm 42 1, jm 43 6, q 44 (.idx 1 (.t 42) (.t 43)), jl 45 44, jc 46 111 [(.t 40), (.t 41), (.t 45)], ⟨(some 47), none, .bsl 1 [(i64 0), (i64 0), (i64 0), (str [])] [(0, 4, (.t 46))]⟩, ⟨(some 48), none, .app 4 40 (.t 39) (.t 47)⟩, jm 5 48]) .skip)))
 (.ops [jm 28 6, jk 29 .add 28 1, jm 6 29]))))))
 (jo [jm 49 5, jm 4 49]
 .ret)))))
theorem w_spec_StepsFor : Wk Tryz.prog 53 50 [.tmp 4] b_spec_StepsFor := Wk.of mixedOrders Tryz.func53 (by kernel_rfl) (by kernel_rfl)

theorem specStepsFor_ac {h : H} {v u : Value} {old fresh : List (List UInt8)} (hv : Sl h v 1 (strs old)) (hu : Sl h u 1 (strs fresh)) (ho : imageOk old) (hf : imageOk fresh) (hl : old.length = fresh.length) : AC Tryz.prog 53 [v, u] h fun r h' => Own h h' r 4 ((stepsTo old fresh old.length).map UStep.cells) ∧ Ext h h' := by
 have hb := ho.1
 have hvv := hv
 have hl1 : (strs old).length = old.length := by simp
 have hl2 : (strs fresh).length = old.length := by simp [hl]
 obtain ⟨a, c, bo, o, rfl, hcap, h2, h3⟩ := hv
 obtain ⟨a2, c2, bo2, o2, rfl, hcap2, h22, h32⟩ := hu
 rw [hl1] at h2 hvv
 rw [hl2] at h22
 have huu : Sl h (.slice a2 old.length c2) 1 (strs fresh) := ⟨a2, c2, bo2, o2, by rw [hl2], hcap2, by rw [hl2]; exact h22, h32⟩
 skip
 refine w_spec_StepsFor (by simp) ?_
 unfold b_spec_StepsFor
 simp -implicitDefEqProofs only [go_sem, hl1, hl2]
 intro b7 hb7 n7
 have e7 := (Ext.refl h).set n7 ⟨[], 0⟩
 simp -implicitDefEqProofs only [go_sem, hl1, hl2]
 refine (specImageRight_pc (hvv.ext e7) (by omega)).use ?_
 simp -implicitDefEqProofs only [go_sem, decide_eq_true ho, hl1, hl2]
 refine (specImageRight_pc (huu.ext e7) (by omega)).use ?_
 simp -implicitDefEqProofs only [go_sem, decide_eq_true hf, hl1, hl2]
 refine loopW_of (fun m f h' => ∃ k w, m + k = old.length ∧ Ext h h' ∧ f 0 = .slice a old.length c ∧ f 1 = .slice a2 old.length c2 ∧ f 5 = w ∧ f 6 = i64 k ∧ Own h h' w 4 ((stepsTo old fresh k).map UStep.cells)) old.length
  ⟨0, sl b7 0 0 0, by simp, e7, by simp -implicitDefEqProofs only [go_sem, hl1, hl1, hl2], by simp -implicitDefEqProofs only [go_sem, hl2, hl1, hl2], by simp -implicitDefEqProofs only [go_sem, hl1, hl2], by simp -implicitDefEqProofs only [go_sem, hl1, hl2]; rfl, .inr ⟨b7, 0, 0, rfl, Nat.le_refl _, by assumption, n7, H.set_get_same _ _ _, by simp, Wid.nil 4⟩⟩ ?_
 rintro m f h' ⟨k, w, hm, ea, f0, f1, rfl, f6, ow⟩
 obtain ⟨aw, cw, f5⟩ := ow.shape
 have hsl := stepsTo_len old fresh k
 have hsw : ((stepsTo old fresh k).map UStep.cells).length = (stepsTo old fresh k).length := by simp
 rw [f5] at ow
 rw [hsw] at f5 ow
 skip
 by_cases hk : k < old.length
 ·have hk2 : k < fresh.length := by omega
  have e1 := ldc_sub ea.2 (h3 k [str old[k]] (by simp [hk]))
  have e2 := ldc_sub ea.2 (h32 k [str fresh[k]] (by simp [hk2]))
  have g1 : old[k]? = some old[k] := List.getElem?_eq_getElem hk
  have g2 : fresh[k]? = some fresh[k] := List.getElem?_eq_getElem hk2
  have g3 : fresh.getD k [] = fresh[k] := by simp [List.getD, g2]
  simp -implicitDefEqProofs only [go_sem, hk, e1, e2, hl1, hl2, f0, f1, f5, f6, h2, h22, Int.ofNat_lt, Int.natCast_nonneg]
  refine Br.of (fun h4 => ?_) (fun h4 => ?_)
  ·simp -implicitDefEqProofs only [go_sem, wrap_i64 (show -(9223372036854775808 : Int) ≤ ((k : Int) + 1) by omega) (show ((k : Int) + 1) < 9223372036854775808 by omega), hl1, hl2, f0, f1, f5, f6, h2, h22, Int.ofNat_lt, Int.natCast_nonneg]
   exact ⟨m - 1, by omega, _, Ext.refl _, k + 1, _, by omega, ea, rfl, rfl, by rw [stepsTo_same (by rw [g1, g2, h4])]; exact ow⟩
  ·simp -implicitDefEqProofs only [go_sem, hk, e2, hl1, hl2, f0, f1, f5, f6, h2, h22, Int.ofNat_lt, Int.natCast_nonneg]
   refine (l07For_pc (hvv.ext ea) ho (hf.2 _ (List.getElem_mem hk2))).use ?_
   have hnew := stepsTo_new (old := old) (fresh := fresh) (k := k) (by rw [g1, g2]; exact fun e => h4 (Option.some.inj e))
   rw [g3] at hnew
   simp -implicitDefEqProofs only [go_sem, hl1, hl2, f0, f1, f5, f6, h2, h22, Int.ofNat_lt, Int.natCast_nonneg]
   intro bx hbx nx
   simp -implicitDefEqProofs only [go_sem, hl1, hl2, f0, f1, f5, f6, h2, h22, Int.ofNat_lt, Int.natCast_nonneg]
   refine appW_own (new := [(stepFor old k fresh[k]).cells]) (ea.set nx _) (ow.ext ((Ext.refl _).set nx _)) rfl (by intro r hr; simp at hr; subst hr; rfl) rfl (by rw [hsw]; simp; omega) ?_
   intro v' h5 e5 o5 _
   simp -implicitDefEqProofs only [go_sem, wrap_i64 (show -(9223372036854775808 : Int) ≤ ((k : Int) + 1) by omega) (show ((k : Int) + 1) < 9223372036854775808 by omega), hl1, hl2, f0, f1, f5, f6, h2, h22, Int.ofNat_lt, Int.natCast_nonneg]
   refine ⟨m - 1, by omega, _, Ext.refl _, k + 1, v', by omega, e5, rfl, rfl, ?_⟩
   rw [hnew, List.map_append]
   exact o5
 obtain rfl : k = old.length := by omega
 simp -implicitDefEqProofs only [go_sem, Nat.lt_irrefl, hl1, hl2, f0, f1, f5, f6, h2, h22, Int.ofNat_lt, Int.natCast_nonneg]
 exact ⟨ow, ea⟩
end Go.Proofs.YthjbhdmjfakfaaaGreatDoor