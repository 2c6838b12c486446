/- A helper of this seat's claims (contracts of the functions): what it shows is shown for every input that its statements name, on no other condition. -/
import Derived.Test.YthjbhdmjfakfaaaGreatDoorMC09r
import Derived.Test.YthjbhdmjfakfaaaGreatDoorMC13b
import Derived.Test.YthjbhdmjfakfaaaGreatDoorKD
set_option linter.unusedVariables false
set_option linter.unusedSimpArgs false
set_option maxRecDepth 100000
namespace Go.Proofs.YthjbhdmjfakfaaaGreatDoor
open Go.KH

def stepsOk (l : List UStep) (blocks : Int) : Prop := l.length ≤ 20 ∧ (1 ≤ blocks ∧ blocks ≤ 8) ∧ ∀ s ∈ l, stepOk s blocks
open Classical in
noncomputable def codeOf (l : List UStep) (blocks : Int) : Int := if stepsOk l blocks then (if twice l then 12 else if risingFrom (-1) l = true then 0 else 8) else 1
theorem code_form {l : List UStep} {b : Int} (h : ¬ stepsOk l b) : codeOf l b = 1 := by unfold codeOf; rw [if_neg h]
theorem code_twice {l : List UStep} {b : Int} (h : stepsOk l b) (h2 : twice l) : codeOf l b = 12 := by unfold codeOf; rw [if_pos h, if_pos h2]
theorem code_range {l : List UStep} {b : Int} (h : stepsOk l b) (h2 : ¬ twice l) (h3 : risingFrom (-1) l = false) : codeOf l b = 8 := by unfold codeOf; rw [if_pos h, if_neg h2, if_neg (by rw [h3]; simp)]
theorem code_ok {l : List UStep} {b : Int} (h : stepsOk l b) (h2 : ¬ twice l) (h3 : risingFrom (-1) l = true) : codeOf l b = 0 := by unfold codeOf; rw [if_pos h, if_neg h2, if_pos h3]
theorem touch_lt {l : List UStep} {k : Nat} (hk : k < l.length) (h5 : ¬ l[k].kind = 5) : (0 ≤ touch l l[k].dst ∧ touch l l[k].dst ≤ k) ∧ (touch l l[k].dst < k ↔ ∃ j, twiceAt l k j) := by
 have hp : isTouch l[k].dst l[k] = true := by simp [isTouch, h5]
 have hge : 0 ≤ touch l l[k].dst := by
  have := firstAt_any (isTouch l[k].dst) l
  rw [List.any_eq_true.2 ⟨l[k], List.getElem_mem hk, hp⟩] at this
  exact of_decide_eq_true this
 obtain ⟨j, hj, e, hpj, hno⟩ := firstAt_get hge
 have hjk : j ≤ k := by
  rcases Nat.lt_or_ge k j with h | h
  ·have := hno k h; rw [hp] at this; cases this
  ·exact h
 unfold touch at hge ⊢
 rw [e]
 refine ⟨⟨by omega, by omega⟩, ?_⟩
 constructor
 ·intro hlt
  have hlt : j < k := by omega
  refine ⟨j, hk, hlt, h5, ?_, ?_⟩
  ·simp [isTouch] at hpj; exact hpj.1
  ·simp [isTouch] at hpj; exact hpj.2.symm
 ·rintro ⟨i, _, hi, _, hi5, hd⟩
  rcases Nat.lt_or_ge j k with h | h
  ·omega
  ·exfalso
   have : j = k := by omega
   subst this
   have := hno i hi
   simp [isTouch, hi5, hd] at this
def b_impl_stepsCode_1 : C := (jo [⟨(some 2), none, .box (.t 0)⟩, q 3 (.mv (.c (.bool false)))]
 (jo [jd 4 4 2, jl 5 1, jc 6 122 [(.t 4), (.t 5)], q 7 (.un .not (.t 6)), jm 3 7]
 .ret))
theorem w_impl_stepsCode_1 : Wk Tryz.prog 121 8 [.tmp 3] b_impl_stepsCode_1 := Wk.of mixedOrders Tryz.func121 (by kernel_rfl) (by kernel_rfl)

theorem stepsCode1_pc {h : H} {s : UStep} {b : Nat} {blocks : Int} (hb : ldc h b 0 1 = some [i64 blocks]) (h1 : 1 ≤ blocks ∧ blocks ≤ 8) : PC Tryz.prog 121 [.agg s.cells.toArray, ptr b 0] h (.bool (decide (¬ stepOk s blocks))) := by
 refine PC_of ?_
 refine w_impl_stepsCode_1 (by simp) ?_
 unfold b_impl_stepsCode_1
 simp -implicitDefEqProofs only [go_sem]
 intro b1 hb_b1 n_b1
 have e1 : ldc (h.set b1 ⟨s.cells, 4⟩) b 0 1 = some [i64 blocks] := ldc_sub (Sub.set (Sub.refl h) n_b1 _) hb
 simp -implicitDefEqProofs only [go_sem, e1, hb_b1]
 refine (isStep_pc _ s (by unfold in64; omega) (by omega)).use ?_
 simp -implicitDefEqProofs only [go_sem, hb_b1]
 first | with_reducible exact ((Ext.refl _).set' n_b1 _) | ((with_reducible refine ⟨((Ext.refl _).set' n_b1 _), ?_⟩); first | rfl | (trivial))
def b_slices_ContainsFunc_impl_Step_impl_Step : C := (jo [q 4 (.mv (.c (.bool false)))]
 (jo [jm 5 0, jm 6 1, jc 7 191 [(.t 5), (.t 6)], jk 8 .geq 7 0, jm 4 8]
 .ret))
theorem w_slices_ContainsFunc_impl_Step_impl_Step : Wk Tryz.prog 120 9 [.tmp 4] b_slices_ContainsFunc_impl_Step_impl_Step := Wk.of mixedOrders Tryz.func120 (by kernel_rfl) (by kernel_rfl)

theorem containsStep_pc {h : H} {v : Value} {l : List UStep} {p : UStep → Bool} {n : Nat} {caps : List Value} (hv : Sl h v 4 (l.map UStep.cells)) (hn : l.length ≤ 1048576) (hc : ∀ x, x ∈ l → PC Tryz.prog n (.agg x.cells.toArray :: caps) h (.bool (p x))) :
  PC Tryz.prog 120 [v, .func (.func n) #[] caps.toArray] h (.bool (l.any p)) := by
 rw [← firstAt_any]
 refine w_slices_ContainsFunc_impl_Step_impl_Step (by simp) ?_
 unfold b_slices_ContainsFunc_impl_Step_impl_Step
 simp -implicitDefEqProofs only [go_sem]
 have this := (w_slices_IndexFunc_impl_Step_impl_Step (by simp) (if_wpc (p := p) (n := n) (caps := caps) hv hn hc ⟨rfl, rfl⟩) : PC Tryz.prog 191 [v, .func (.func n) #[] caps.toArray] h (i64 (firstAt p l)))
 refine PC.use this ?_
 simp -implicitDefEqProofs only [go_sem]
def b_impl_stepsCode : C := (jo [⟨(some 3), none, .box (.t 1)⟩, q 4 (.mv (.c (i64 0)))]
 (.seq (jo [jl 9 3, jc 10 84 [(.t 9)], q 11 (.un .not (.t 10)), jm 12 11, qg 13 12 false (.mv (.t 0)), qg 14 12 false (.len (.t 13)), qg 15 12 false (.bin .gtr (.t 14) (.c (i64 20))), q 16 (.pick (.t 12) (.c (.bool true)) (.t 15)), jm 17 16, qg 18 17 false (.mv (.t 0)), qg 19 17 false (.mkf 121 [(.t 3)]), jcg 20 17 false 120 [(.t 18), (.t 19)], q 21 (.pick (.t 17) (.c (.bool true)) (.t 20))]
 (.cond (.t 21) (jo [q 4 (.mv (.c (i64 1)))]
 .ret) .skip))
 (jo [q 5 (.mv (.c (i64 (-1))))]
 (jo [q 6 (.mv (.c (.bool true)))]
 (.seq (jo [jm 22 0, q 23 (.len (.t 22)), q 24 (.mv (.c (i64 0)))]
 (.block 0 (.loop (jo [jb 25 .lss 24 23]
 (.seq (.cond (.t 25) .skip (.exit 0))
 (.seq (.block 1 (jo [jm 26 24, q 27 (.idx 4 (.t 22) (.t 24)), jd 28 4 27, ⟨(some 8), none, .alloc [(i64 0), (i64 0), (i64 0), (str [])]⟩, jm 7 26, js 4 8 28]
 (.seq (jo [jf 29 0 8, jl 30 29, jk 31 .neq 30 5]
 (.cond (.t 31) (.seq (jo [jm 32 0, jf 33 1 8, jl 34 33, jc 35 123 [(.t 32), (.t 34)], jm 36 7, jb 37 .lss 35 36]
 (.cond (.t 37) (jo [q 4 (.mv (.c (i64 12)))]
 .ret) .skip))
 (.exit 1)) .skip))
 (jo [jm 38 6, jm 39 38, qg 40 39 true (.fld 2 (.t 8)), qg 41 39 true (.ld false 1 (.t 40)), qg 42 39 true (.mv (.t 5)), qg 43 39 true (.bin .gtr (.t 41) (.t 42)), q 44 (.pick (.t 39) (.t 43) (.c (.bool false))), jm 6 44]
 (.ops [jf 45 2 8, jl 46 45, jm 5 46])))))
 (.ops [jk 47 .add 24 1, jm 24 47])))))))
 (.seq (jo [jm 48 6, q 49 (.un .not (.t 48))]
 (.cond (.t 49) (jo [q 4 (.mv (.c (i64 8)))]
 .ret) .skip))
 (jo [q 4 (.mv (.c (i64 0)))]
 .ret)))))))
theorem w_impl_stepsCode : Wk Tryz.prog 64 50 [.tmp 4] b_impl_stepsCode := Wk.of mixedOrders Tryz.func64 (by kernel_rfl) (by kernel_rfl)

theorem stepsCode_pc {h : H} {v : Value} {l : List UStep} {blocks : Int} (hv : Sl h v 4 (l.map UStep.cells)) (hn : l.length ≤ 1048576) : PC Tryz.prog 64 [v, i64 blocks] h (i64 (codeOf l blocks)) := by
 have hv' := hv
 obtain ⟨a, c, b, o, rfl, hcap, h2, h3⟩ := hv
 simp only [List.length_map] at h2 hv'
 refine PC_of ?_
 skip
 refine w_impl_stepsCode (by simp) ?_
 unfold b_impl_stepsCode
 simp -implicitDefEqProofs only [go_sem, List.length_map]
 intro b3 hb_b3 n_b3
 simp -implicitDefEqProofs only [go_sem, List.length_map, hb_b3]
 refine (isBlocks_pc _ _).use ?_
 simp -implicitDefEqProofs only [go_sem, List.length_map, hb_b3]
 refine Br.of (fun h1 => ?_) (fun h1 => ?_)
 rotate_left
 ·rw [code_form (fun h => h1 h.2.1)]
  simp -implicitDefEqProofs only [go_sem, h1, List.length_map, hb_b3]
  first | with_reducible exact ((Ext.refl _).set' n_b3 _) | ((with_reducible refine ⟨((Ext.refl _).set' n_b3 _), ?_⟩); first | rfl | (trivial))
 simp -implicitDefEqProofs only [go_sem, h1, List.length_map, hb_b3]
 by_cases h20 : 20 < l.length
 ·rw [code_form (fun h => by have := h.1; omega)]
  simp -implicitDefEqProofs only [go_sem, show (20 : Int) < (l.length : Int) by omega, List.length_map, hb_b3]
  first | with_reducible exact ((Ext.refl _).set' n_b3 _) | ((with_reducible refine ⟨((Ext.refl _).set' n_b3 _), ?_⟩); first | rfl | (trivial))
 have c20 : ¬ ((20 : Int) < (l.length : Int)) := by omega
 skip
 simp -implicitDefEqProofs only [go_sem, List.length_map, hb_b3, c20, h1]
 have hcon := containsStep_pc (caps := [ptr b3 0]) (hv'.ext ((Ext.refl _).set' n_b3 _)) hn (fun x _ => stepsCode1_pc (h := h.set b3 ⟨[i64 blocks], 1⟩) (b := b3) (by simp -implicitDefEqProofs only [go_sem, List.length_map, hb_b3, c20, h1]) h1)
 refine hcon.use ?_
 simp -implicitDefEqProofs only [go_sem, List.length_map, hb_b3, c20, h1]
 by_cases hall : ∀ s ∈ l, stepOk s blocks
 rotate_left
 ·have : l.any (fun s => decide (¬ stepOk s blocks)) = true := by
   rw [List.any_eq_true]
   obtain ⟨x, hx⟩ := Classical.not_forall.1 hall
   obtain ⟨hx, hy⟩ := Classical.not_imp.1 hx
   exact ⟨x, hx, by simp [hy]⟩
  rw [code_form (fun h => hall h.2.2), this]
  simp -implicitDefEqProofs only [go_sem, List.length_map, hb_b3, c20, h1]
  first | with_reducible exact ((Ext.refl _).set' n_b3 _) | ((with_reducible refine ⟨((Ext.refl _).set' n_b3 _), ?_⟩); first | rfl | (trivial))
 have hok : stepsOk l blocks := ⟨by omega, h1, hall⟩
 have : l.any (fun s => decide (¬ stepOk s blocks)) = false := by rw [List.any_eq_false]; intro x hx; simp [hall x hx]
 rw [this]
 simp -implicitDefEqProofs only [go_sem, List.length_map, List.length_map, hb_b3, c20, h1]
 refine loopW_of (fun m f h' => ∃ k, m + k = l.length ∧ h' = h.set b3 ⟨[i64 blocks], 1⟩ ∧ f 0 = .slice a l.length c ∧ f 22 = .slice a l.length c ∧ f 23 = i64 l.length ∧ f 24 = i64 k ∧ f 6 = .bool ((l.take k).foldl labStep (true, -1)).1 ∧ f 5 = i64 ((l.take k).foldl labStep (true, -1)).2 ∧ ∀ i j, i < k → ¬ twiceAt l i j) l.length
  ⟨0, by simp, rfl, by simp -implicitDefEqProofs only [go_sem, List.length_map, List.length_map, hb_b3, c20, h1], by simp -implicitDefEqProofs only [go_sem, List.length_map, List.length_map, hb_b3, c20, h1], by simp -implicitDefEqProofs only [go_sem, List.length_map, List.length_map, hb_b3, c20, h1], by simp -implicitDefEqProofs only [go_sem, List.length_map, hb_b3, c20, h1]; rfl, by simp -implicitDefEqProofs only [go_sem, List.length_map, hb_b3, c20, h1]; rfl, by simp -implicitDefEqProofs only [go_sem, List.length_map, hb_b3, c20, h1]; rfl, by omega⟩ ?_
 rintro m f h' ⟨k, hm, rfl, f0, f22, f23, f24, f6, f5, hno⟩
 skip
 by_cases hk : k < l.length
 ·have e1 := ldc_sub (Sub.set (Sub.refl h) n_b3 ⟨[i64 blocks], 1⟩) (h3 k (l[k]).cells (by simp [hk]))
  simp -implicitDefEqProofs only [go_sem, hk, e1, List.length_map, hb_b3, c20, h1, f0, f22, f23, f24, f6, f5, h2, Int.ofNat_lt, Int.natCast_nonneg]
  intro b8 hb_b8 m0_b8
  obtain ⟨z_b8_b3, y_b8_b3, n_b8⟩ := fne m0_b8
  simp only [H.set_base] at hb_b8
  simp -implicitDefEqProofs only [go_sem, List.length_map, hb_b3, c20, h1, f0, f22, f23, f24, f6, f5, h2, Int.ofNat_lt, Int.natCast_nonneg, hb_b8, z_b8_b3, y_b8_b3]
  have ext8 : ∀ x, Ext (h.set b3 ⟨[i64 blocks], 1⟩) ((h.set b3 ⟨[i64 blocks], 1⟩).set b8 x) := fun x => (Ext.refl _).set m0_b8 _
  have hfold := foldl_take labStep (true, -1) l k hk
  by_cases h5 : l[k].kind = 5
  ·simp -implicitDefEqProofs only [go_sem, h5, List.length_map, hb_b3, c20, h1, f0, f22, f23, f24, f6, f5, h2, Int.ofNat_lt, Int.natCast_nonneg, hb_b8, z_b8_b3, y_b8_b3]
   have hl5 : labStep ((l.take k).foldl labStep (true, -1)) l[k] = (((l.take k).foldl labStep (true, -1)).1 && decide (((l.take k).foldl labStep (true, -1)).2 < l[k].src), l[k].src) := by unfold labStep; rw [if_pos h5]
   have nt : ∀ i j, i < k + 1 → ¬ twiceAt l i j := fun i j hi => by
    by_cases e : i = k
    ·subst e; rintro ⟨_, _, h6, _⟩; exact h6 h5
    ·exact hno i j (by omega)
   cases hr : ((l.take k).foldl labStep (true, -1)).1 with
   | true =>
    rw [hr] at hl5
    simp -implicitDefEqProofs only [go_sem, hr, wrap_i64 (show -(9223372036854775808 : Int) ≤ ((k : Int) + 1) by omega) (show ((k : Int) + 1) < 9223372036854775808 by omega), List.length_map, hb_b3, c20, h1, f0, f22, f23, f24, f6, f5, h2, Int.ofNat_lt, Int.natCast_nonneg, hb_b8, z_b8_b3, y_b8_b3]
    exact ⟨m - 1, by omega, _, ext8 _, k + 1, by omega, rfl, rfl, by rw [hfold, hl5]; simp, by rw [hfold, hl5], nt⟩
   | false =>
    rw [hr] at hl5
    simp -implicitDefEqProofs only [go_sem, hr, wrap_i64 (show -(9223372036854775808 : Int) ≤ ((k : Int) + 1) by omega) (show ((k : Int) + 1) < 9223372036854775808 by omega), List.length_map, hb_b3, c20, h1, f0, f22, f23, f24, f6, f5, h2, Int.ofNat_lt, Int.natCast_nonneg, hb_b8, z_b8_b3, y_b8_b3]
    exact ⟨m - 1, by omega, _, ext8 _, k + 1, by omega, rfl, rfl, by rw [hfold, hl5]; simp, by rw [hfold, hl5], nt⟩
  ·obtain ⟨t1, t2⟩ := touch_lt hk h5
   simp -implicitDefEqProofs only [go_sem, h5, List.length_map, hb_b3, c20, h1, f0, f22, f23, f24, f6, f5, h2, Int.ofNat_lt, Int.natCast_nonneg, hb_b8, z_b8_b3, y_b8_b3]
   refine (touches_pc ((hv'.ext ((Ext.refl _).set n_b3 _)).ext (ext8 _)) hn).use ?_
   simp -implicitDefEqProofs only [go_sem, List.length_map, hb_b3, c20, h1, f0, f22, f23, f24, f6, f5, h2, Int.ofNat_lt, Int.natCast_nonneg, hb_b8, z_b8_b3, y_b8_b3]
   by_cases h6 : touch l l[k].dst < (k : Int)
   ·obtain ⟨j, hj⟩ := t2.1 h6
    rw [code_twice hok ⟨k, j, hj⟩]
    simp -implicitDefEqProofs only [go_sem, h6, List.length_map, hb_b3, c20, h1, f0, f22, f23, f24, f6, f5, h2, Int.ofNat_lt, Int.natCast_nonneg, hb_b8, z_b8_b3, y_b8_b3]
    first | with_reducible exact (((Ext.refl _).set' n_b3 _).set' n_b8 _) | ((with_reducible refine ⟨(((Ext.refl _).set' n_b3 _).set' n_b8 _), ?_⟩); first | rfl | (trivial))
   ·have nt : ∀ i j, i < k + 1 → ¬ twiceAt l i j := fun i j hi => by
     by_cases e : i = k
     ·subst e; exact fun hj => h6 (t2.2 ⟨j, hj⟩)
     ·exact hno i j (by omega)
    have hl5 : labStep ((l.take k).foldl labStep (true, -1)) l[k] = (l.take k).foldl labStep (true, -1) := by unfold labStep; rw [if_neg h5]
    simp -implicitDefEqProofs only [go_sem, h6, wrap_i64 (show -(9223372036854775808 : Int) ≤ ((k : Int) + 1) by omega) (show ((k : Int) + 1) < 9223372036854775808 by omega), List.length_map, hb_b3, c20, h1, f0, f22, f23, f24, f6, f5, h2, Int.ofNat_lt, Int.natCast_nonneg, hb_b8, z_b8_b3, y_b8_b3]
    exact ⟨m - 1, by omega, _, ext8 _, k + 1, by omega, rfl, rfl, by rw [hfold, hl5], by rw [hfold, hl5], nt⟩
 ·skip
  have e : k = l.length := by omega
  subst e
  have hnt : ¬ twice l := fun ⟨i, j, hj⟩ => hno i j (by obtain ⟨hi, _⟩ := hj; exact hi) hj
  rw [List.take_length] at f6 f5
  have hlf := lab_fold l true (-1)
  rw [Bool.true_and] at hlf
  cases hr : risingFrom (-1) l with
  | true =>
   rw [hr] at hlf
   rw [code_ok hok hnt hr]
   simp -implicitDefEqProofs only [go_sem, Nat.lt_irrefl, hlf, List.length_map, hb_b3, c20, h1, f0, f22, f23, f24, f6, f5, h2, Int.ofNat_lt, Int.natCast_nonneg]
   first | with_reducible exact ((Ext.refl _).set' n_b3 _) | ((with_reducible refine ⟨((Ext.refl _).set' n_b3 _), ?_⟩); first | rfl | (trivial))
  | false =>
   rw [hr] at hlf
   rw [code_range hok hnt hr]
   simp -implicitDefEqProofs only [go_sem, Nat.lt_irrefl, hlf, List.length_map, hb_b3, c20, h1, f0, f22, f23, f24, f6, f5, h2, Int.ofNat_lt, Int.natCast_nonneg]
   first | with_reducible exact ((Ext.refl _).set' n_b3 _) | ((with_reducible refine ⟨((Ext.refl _).set' n_b3 _), ?_⟩); first | rfl | (trivial))
end Go.Proofs.YthjbhdmjfakfaaaGreatDoor