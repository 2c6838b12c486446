/- A helper of this seat's claims (contracts of the functions): what it shows is shown for every input that its statements name, on no other condition. -/
import Derived.Test.YthjbhdmjfakfaaaGreatDoorC10
import Derived.Test.YthjbhdmjfakfaaaGreatDoorC07
import Derived.Test.YthjbhdmjfakfaaaGreatDoorKD
set_option linter.unusedVariables false
set_option linter.unusedSimpArgs false
set_option maxRecDepth 100000
namespace Go.Proofs.YthjbhdmjfakfaaaGreatDoor
open Go.KH

/-! ## The code of a list of steps -/
def stepsOk (l : List UStep) (blocks : Int) : Prop := l.length ≤ 20 ∧ (1 ≤ blocks ∧ blocks ≤ 8) ∧ ∀ s ∈ l, stepOk s blocks
open Classical in
noncomputable def codeOf (l : List UStep) (blocks : Int) : Int := if stepsOk l blocks then (if twice l then 12 else if risingFrom (-1) l = true then 0 else 8) else 1
theorem code_form {l : List UStep} {b : Int} (h : ¬ stepsOk l b) : codeOf l b = 1 := by unfold codeOf; rw [if_neg h]
theorem code_twice {l : List UStep} {b : Int} (h : stepsOk l b) (h2 : twice l) : codeOf l b = 12 := by unfold codeOf; rw [if_pos h, if_pos h2]
theorem code_range {l : List UStep} {b : Int} (h : stepsOk l b) (h2 : ¬ twice l) (h3 : risingFrom (-1) l = false) : codeOf l b = 8 := by unfold codeOf; rw [if_pos h, if_neg h2, if_neg (by rw [h3]; simp)]
theorem code_ok {l : List UStep} {b : Int} (h : stepsOk l b) (h2 : ¬ twice l) (h3 : risingFrom (-1) l = true) : codeOf l b = 0 := by unfold codeOf; rw [if_pos h, if_neg h2, if_pos h3]
theorem lab5 {p : Bool × Int} {s : UStep} (h : s.kind = 5) : labStep p s = (p.1 && decide (p.2 < s.src), s.src) := by unfold labStep; rw [if_pos h]
theorem touch_lt {l : List UStep} {k : Nat} (hk : k < l.length) (h5 : ¬ l[k].kind = 5) : (0 ≤ touch l l[k].dst ∧ touch l l[k].dst ≤ k) ∧ (touch l l[k].dst < k ↔ ∃ j, twiceAt l k j) := by
  have hp : isTouch l[k].dst l[k] = true := by simp [isTouch, h5]
  have hge : 0 ≤ touch l l[k].dst := by
    have := firstAt_any (isTouch l[k].dst) l
    rw [List.any_eq_true.2 ⟨l[k], List.getElem_mem hk, hp⟩] at this
    exact of_decide_eq_true this
  obtain ⟨j, hj, e, hpj, hno⟩ := firstAt_get hge
  have hjk : j ≤ k := by
    rcases Nat.lt_or_ge k j with h | h
    · have := hno k h; rw [hp] at this; cases this
    · exact h
  unfold touch at hge ⊢
  rw [e]
  refine ⟨⟨by omega, by omega⟩, ?_⟩
  constructor
  · intro hlt
    have hlt : j < k := by omega
    refine ⟨j, hk, hlt, h5, ?_, ?_⟩
    · simp [isTouch] at hpj; exact hpj.1
    · simp [isTouch] at hpj; exact hpj.2.symm
  · rintro ⟨i, _, hi, _, hi5, hd⟩
    rcases Nat.lt_or_ge j k with h | h
    · omega
    · exfalso
      have : j = k := by omega
      subst this
      have := hno i hi
      simp [isTouch, hi5, hd] at this
/-- impl.stepsCode$1 -/
def b_impl_stepsCode_1 : C := (.seq (.ops [⟨(some 2), none, .box (.t 0)⟩, q 3 (.mv (.c (.bool false)))])
 (.seq (.ops [q 4 (.ld true 4 (.t 2)), q 5 (.ld false 1 (.t 1)), ⟨(some 6), none, .call (.c (.func (.func 122) #[] #[])) [(.t 4), (.t 5)]⟩, q 7 (.un .not (.t 6)), q 3 (.mv (.t 7))])
 .ret))
theorem w_impl_stepsCode_1 {args : List Value} {h : H} {Q : Value → H → Prop} (hl : args.length ≤ 8) (hk : wpc Tryz.prog b_impl_stepsCode_1 (retw [.tmp 3] Q) (argsFr args) h) : AC Tryz.prog 121 args h Q :=
  AC.of_wpc mixedOrders Tryz.func121 (by kernel_rfl) (by kernel_rfl : prepF Tryz.prog Tryz.f121 = some ⟨8, [.tmp 3], b_impl_stepsCode_1⟩) hl hk

theorem stepsCode1_pc {h : H} {s : UStep} {b : Nat} {blocks : Int} (hb : ldc h b 0 1 = some [i64 blocks]) (h1 : 1 ≤ blocks ∧ blocks ≤ 8) : PC Tryz.prog 121 [.agg s.cells.toArray, ptr b 0] h (.bool (decide (¬ stepOk s blocks))) := by
  refine PC_of ?_
  refine w_impl_stepsCode_1 (by simp) ?_
  unfold b_impl_stepsCode_1
  simp -implicitDefEqProofs only [go_sem]
  intro b1 hb_b1 n_b1
  have e1 : ldc (h.set b1 ⟨s.cells, 4⟩) b 0 1 = some [i64 blocks] := ldc_sub (Sub.set (Sub.refl h) n_b1 _) hb
  simp -implicitDefEqProofs only [go_sem, e1, hb_b1]
  refine (isStep_pc _ s (by unfold in64; omega) (by omega)).use ?_
  simp -implicitDefEqProofs only [go_sem, hb_b1]
  first | with_reducible exact ((Ext.refl _).set' n_b1 _) | ((with_reducible refine ⟨((Ext.refl _).set' n_b1 _), ?_⟩); first | rfl | (trivial))
/-- slices.ContainsFunc[[]impl.Step,impl.Step] -/
def b_slices_ContainsFunc_impl_Step_impl_Step : C := (.seq (.ops [q 4 (.mv (.c (.bool false)))])
 (.seq (.ops [q 5 (.mv (.t 0)), q 6 (.mv (.t 1)), ⟨(some 7), none, .call (.c (.func (.func 191) #[] #[])) [(.t 5), (.t 6)]⟩, q 8 (.bin .geq (.t 7) (.c (i64 0))), q 4 (.mv (.t 8))])
 .ret))
theorem w_slices_ContainsFunc_impl_Step_impl_Step {args : List Value} {h : H} {Q : Value → H → Prop} (hl : args.length ≤ 9) (hk : wpc Tryz.prog b_slices_ContainsFunc_impl_Step_impl_Step (retw [.tmp 4] Q) (argsFr args) h) : AC Tryz.prog 120 args h Q :=
  AC.of_wpc mixedOrders Tryz.func120 (by kernel_rfl) (by kernel_rfl : prepF Tryz.prog Tryz.f120 = some ⟨9, [.tmp 4], b_slices_ContainsFunc_impl_Step_impl_Step⟩) hl hk

theorem containsStep_pc {h : H} {v : Value} {l : List UStep} {p : UStep → Bool} {n : Nat} {caps : List Value} (hv : Sl h v 4 (l.map UStep.cells)) (hn : l.length ≤ 1048576) (hc : ∀ x, x ∈ l → PC Tryz.prog n (.agg x.cells.toArray :: caps) h (.bool (p x))) :
    PC Tryz.prog 120 [v, .func (.func n) #[] caps.toArray] h (.bool (l.any p)) := by
  rw [← firstAt_any]
  refine w_slices_ContainsFunc_impl_Step_impl_Step (by simp) ?_
  unfold b_slices_ContainsFunc_impl_Step_impl_Step
  simp -implicitDefEqProofs only [go_sem]
  have this := (w_slices_IndexFunc_impl_Step_impl_Step (by simp) (if_wpc (p := p) (n := n) (caps := caps) hv hn hc ⟨rfl, rfl⟩) : PC Tryz.prog 191 [v, .func (.func n) #[] caps.toArray] h (i64 (firstAt p l)))
  refine PC.use this ?_
  simp -implicitDefEqProofs only [go_sem]
/-- impl.stepsCode -/
def b_impl_stepsCode : C := (.seq (.ops [⟨(some 3), none, .box (.t 1)⟩, q 4 (.mv (.c (i64 0)))])
 (.seq (.seq (.ops [q 9 (.ld false 1 (.t 3)), ⟨(some 10), none, .call (.c (.func (.func 84) #[] #[])) [(.t 9)]⟩, q 11 (.un .not (.t 10)), q 12 (.mv (.t 11)), qg 13 12 false (.mv (.t 0)), qg 14 12 false (.len (.t 13)), qg 15 12 false (.bin .gtr (.t 14) (.c (i64 20))), q 16 (.pick (.t 12) (.c (.bool true)) (.t 15)), q 17 (.mv (.t 16)), qg 18 17 false (.mv (.t 0)), qg 19 17 false (.mkf 121 [(.t 3)]), ⟨(some 20), (some (17, false)), .call (.c (.func (.func 120) #[] #[])) [(.t 18), (.t 19)]⟩, q 21 (.pick (.t 17) (.c (.bool true)) (.t 20))])
 (.cond (.t 21) (.seq (.ops [q 4 (.mv (.c (i64 1)))])
 .ret) .skip))
 (.seq (.ops [q 5 (.mv (.c (i64 (-1))))])
 (.seq (.ops [q 6 (.mv (.c (.bool true)))])
 (.seq (.seq (.ops [q 22 (.mv (.t 0)), q 23 (.len (.t 22)), q 24 (.mv (.c (i64 0)))])
 (.block 0 (.loop (.seq (.ops [q 25 (.bin .lss (.t 24) (.t 23))])
 (.seq (.cond (.t 25) .skip (.exit 0))
 (.seq (.block 1 (.seq (.ops [q 26 (.mv (.t 24)), q 27 (.idx 4 (.t 22) (.t 24)), q 28 (.ld true 4 (.t 27)), ⟨(some 8), none, .alloc [(i64 0), (i64 0), (i64 0), (str [])]⟩, q 7 (.mv (.t 26)), ⟨none, none, .st 4 (.t 8) (.t 28)⟩])
 (.seq (.seq (.ops [q 29 (.fld 0 (.t 8)), q 30 (.ld false 1 (.t 29)), q 31 (.bin .neq (.t 30) (.c (i64 5)))])
 (.cond (.t 31) (.seq (.seq (.ops [q 32 (.mv (.t 0)), q 33 (.fld 1 (.t 8)), q 34 (.ld false 1 (.t 33)), ⟨(some 35), none, .call (.c (.func (.func 123) #[] #[])) [(.t 32), (.t 34)]⟩, q 36 (.mv (.t 7)), q 37 (.bin .lss (.t 35) (.t 36))])
 (.cond (.t 37) (.seq (.ops [q 4 (.mv (.c (i64 12)))])
 .ret) .skip))
 (.exit 1)) .skip))
 (.seq (.ops [q 38 (.mv (.t 6)), q 39 (.mv (.t 38)), qg 40 39 true (.fld 2 (.t 8)), qg 41 39 true (.ld false 1 (.t 40)), qg 42 39 true (.mv (.t 5)), qg 43 39 true (.bin .gtr (.t 41) (.t 42)), q 44 (.pick (.t 39) (.t 43) (.c (.bool false))), q 6 (.mv (.t 44))])
 (.ops [q 45 (.fld 2 (.t 8)), q 46 (.ld false 1 (.t 45)), q 5 (.mv (.t 46))])))))
 (.ops [q 47 (.bin .add (.t 24) (.c (i64 1))), q 24 (.mv (.t 47))])))))))
 (.seq (.seq (.ops [q 48 (.mv (.t 6)), q 49 (.un .not (.t 48))])
 (.cond (.t 49) (.seq (.ops [q 4 (.mv (.c (i64 8)))])
 .ret) .skip))
 (.seq (.ops [q 4 (.mv (.c (i64 0)))])
 .ret)))))))
theorem w_impl_stepsCode {args : List Value} {h : H} {Q : Value → H → Prop} (hl : args.length ≤ 50) (hk : wpc Tryz.prog b_impl_stepsCode (retw [.tmp 4] Q) (argsFr args) h) : AC Tryz.prog 64 args h Q :=
  AC.of_wpc mixedOrders Tryz.func64 (by kernel_rfl) (by kernel_rfl : prepF Tryz.prog Tryz.f64 = some ⟨50, [.tmp 4], b_impl_stepsCode⟩) hl hk

theorem stepsCode_pc {h : H} {v : Value} {l : List UStep} {blocks : Int} (hv : Sl h v 4 (l.map UStep.cells)) (hn : l.length ≤ 1048576) : PC Tryz.prog 64 [v, i64 blocks] h (i64 (codeOf l blocks)) := by
  have hv' := hv
  obtain ⟨a, c, b, o, rfl, hcap, h2, h3⟩ := hv
  simp only [List.length_map] at h2 hv'
  refine PC_of ?_
  skip
  refine w_impl_stepsCode (by simp) ?_
  unfold b_impl_stepsCode
  simp -implicitDefEqProofs only [go_sem, List.length_map]
  intro b3 hb_b3 n_b3
  simp -implicitDefEqProofs only [go_sem, List.length_map, hb_b3]
  refine (isBlocks_pc _ _).use ?_
  simp -implicitDefEqProofs only [go_sem, List.length_map, hb_b3]
  refine Br.of (fun h1 => ?_) (fun h1 => ?_)
  rotate_left
  · rw [code_form (fun h => h1 h.2.1)]
    simp -implicitDefEqProofs only [go_sem, h1, List.length_map, hb_b3]
    first | with_reducible exact ((Ext.refl _).set' n_b3 _) | ((with_reducible refine ⟨((Ext.refl _).set' n_b3 _), ?_⟩); first | rfl | (trivial))
  simp -implicitDefEqProofs only [go_sem, h1, List.length_map, hb_b3]
  by_cases h20 : 20 < l.length
  · rw [code_form (fun h => by have := h.1; omega)]
    simp -implicitDefEqProofs only [go_sem, show (20 : Int) < (l.length : Int) by omega, List.length_map, hb_b3]
    first | with_reducible exact ((Ext.refl _).set' n_b3 _) | ((with_reducible refine ⟨((Ext.refl _).set' n_b3 _), ?_⟩); first | rfl | (trivial))
  have c20 : ¬ ((20 : Int) < (l.length : Int)) := by omega
  skip
  simp -implicitDefEqProofs only [go_sem, List.length_map, hb_b3, c20, h1]
  have hcon := containsStep_pc (caps := [ptr b3 0]) (hv'.ext ((Ext.refl _).set' n_b3 _)) hn (fun x _ => stepsCode1_pc (h := h.set b3 ⟨[i64 blocks], 1⟩) (b := b3) (by simp -implicitDefEqProofs only [go_sem, List.length_map, hb_b3, c20, h1]) h1)
  refine hcon.use ?_
  simp -implicitDefEqProofs only [go_sem, List.length_map, hb_b3, c20, h1]
  by_cases hall : ∀ s ∈ l, stepOk s blocks
  rotate_left
  · have : l.any (fun s => decide (¬ stepOk s blocks)) = true := by
      rw [List.any_eq_true]
      obtain ⟨x, hx⟩ := Classical.not_forall.1 hall
      obtain ⟨hx, hy⟩ := Classical.not_imp.1 hx
      exact ⟨x, hx, by simp [hy]⟩
    rw [code_form (fun h => hall h.2.2), this]
    simp -implicitDefEqProofs only [go_sem, List.length_map, hb_b3, c20, h1]
    first | with_reducible exact ((Ext.refl _).set' n_b3 _) | ((with_reducible refine ⟨((Ext.refl _).set' n_b3 _), ?_⟩); first | rfl | (trivial))
  have hok : stepsOk l blocks := ⟨by omega, h1, hall⟩
  have : l.any (fun s => decide (¬ stepOk s blocks)) = false := by rw [List.any_eq_false]; intro x hx; simp [hall x hx]
  rw [this]
  simp -implicitDefEqProofs only [go_sem, List.length_map, List.length_map, hb_b3, c20, h1]
  refine loopW_of (fun m f h' => ∃ k, m + k = l.length ∧ h' = h.set b3 ⟨[i64 blocks], 1⟩ ∧ f 0 = .slice a l.length c ∧ f 22 = .slice a l.length c ∧ f 23 = i64 l.length ∧ f 24 = i64 k ∧ f 6 = .bool ((l.take k).foldl labStep (true, -1)).1 ∧ f 5 = i64 ((l.take k).foldl labStep (true, -1)).2 ∧ ∀ i j, i < k → ¬ twiceAt l i j) l.length
    ⟨0, by simp, rfl, by simp -implicitDefEqProofs only [go_sem, List.length_map, List.length_map, hb_b3, c20, h1], by simp -implicitDefEqProofs only [go_sem, List.length_map, List.length_map, hb_b3, c20, h1], by simp -implicitDefEqProofs only [go_sem, List.length_map, List.length_map, hb_b3, c20, h1], by simp -implicitDefEqProofs only [go_sem, List.length_map, hb_b3, c20, h1]; rfl, by simp -implicitDefEqProofs only [go_sem, List.length_map, hb_b3, c20, h1]; rfl, by simp -implicitDefEqProofs only [go_sem, List.length_map, hb_b3, c20, h1]; rfl, by omega⟩ ?_
  rintro m f h' ⟨k, hm, rfl, f0, f22, f23, f24, f6, f5, hno⟩
  skip
  by_cases hk : k < l.length
  · have e1 := ldc_sub (Sub.set (Sub.refl h) n_b3 ⟨[i64 blocks], 1⟩) (h3 k (l[k]).cells (by simp [hk]))
    simp -implicitDefEqProofs only [go_sem, hk, e1, List.length_map, hb_b3, c20, h1, f0, f22, f23, f24, f6, f5, h2, Int.ofNat_lt, Int.natCast_nonneg]
    intro b8 hb_b8 m0_b8
    obtain ⟨z_b8_b3, y_b8_b3, n_b8⟩ := fne m0_b8
    simp only [H.set_base] at hb_b8
    simp -implicitDefEqProofs only [go_sem, List.length_map, hb_b3, c20, h1, f0, f22, f23, f24, f6, f5, h2, Int.ofNat_lt, Int.natCast_nonneg, hb_b8, z_b8_b3, y_b8_b3]
    have ext8 : ∀ x, Ext (h.set b3 ⟨[i64 blocks], 1⟩) ((h.set b3 ⟨[i64 blocks], 1⟩).set b8 x) := fun x => (Ext.refl _).set m0_b8 _
    have hfold := foldl_take labStep (true, -1) l k hk
    by_cases h5 : l[k].kind = 5
    · simp -implicitDefEqProofs only [go_sem, h5, List.length_map, hb_b3, c20, h1, f0, f22, f23, f24, f6, f5, h2, Int.ofNat_lt, Int.natCast_nonneg, hb_b8, z_b8_b3, y_b8_b3]
      have hl5 : labStep ((l.take k).foldl labStep (true, -1)) l[k] = (((l.take k).foldl labStep (true, -1)).1 && decide (((l.take k).foldl labStep (true, -1)).2 < l[k].src), l[k].src) := by unfold labStep; rw [if_pos h5]
      have nt : ∀ i j, i < k + 1 → ¬ twiceAt l i j := fun i j hi => by
        by_cases e : i = k
        · subst e; rintro ⟨_, _, h6, _⟩; exact h6 h5
        · exact hno i j (by omega)
      cases hr : ((l.take k).foldl labStep (true, -1)).1 with
      | true =>
        rw [hr] at hl5
        simp -implicitDefEqProofs only [go_sem, hr, wrap_i64 (show -(9223372036854775808 : Int) ≤ ((k : Int) + 1) by omega) (show ((k : Int) + 1) < 9223372036854775808 by omega), List.length_map, hb_b3, c20, h1, f0, f22, f23, f24, f6, f5, h2, Int.ofNat_lt, Int.natCast_nonneg, hb_b8, z_b8_b3, y_b8_b3]
        exact ⟨m - 1, by omega, _, ext8 _, k + 1, by omega, rfl, rfl, by rw [hfold, hl5]; simp, by rw [hfold, hl5], nt⟩
      | false =>
        rw [hr] at hl5
        simp -implicitDefEqProofs only [go_sem, hr, wrap_i64 (show -(9223372036854775808 : Int) ≤ ((k : Int) + 1) by omega) (show ((k : Int) + 1) < 9223372036854775808 by omega), List.length_map, hb_b3, c20, h1, f0, f22, f23, f24, f6, f5, h2, Int.ofNat_lt, Int.natCast_nonneg, hb_b8, z_b8_b3, y_b8_b3]
        exact ⟨m - 1, by omega, _, ext8 _, k + 1, by omega, rfl, rfl, by rw [hfold, hl5]; simp, by rw [hfold, hl5], nt⟩
    · obtain ⟨t1, t2⟩ := touch_lt hk h5
      simp -implicitDefEqProofs only [go_sem, h5, List.length_map, hb_b3, c20, h1, f0, f22, f23, f24, f6, f5, h2, Int.ofNat_lt, Int.natCast_nonneg, hb_b8, z_b8_b3, y_b8_b3]
      refine (touches_pc ((hv'.ext ((Ext.refl _).set n_b3 _)).ext (ext8 _)) hn).use ?_
      simp -implicitDefEqProofs only [go_sem, List.length_map, hb_b3, c20, h1, f0, f22, f23, f24, f6, f5, h2, Int.ofNat_lt, Int.natCast_nonneg, hb_b8, z_b8_b3, y_b8_b3]
      by_cases h6 : touch l l[k].dst < (k : Int)
      · obtain ⟨j, hj⟩ := t2.1 h6
        rw [code_twice hok ⟨k, j, hj⟩]
        simp -implicitDefEqProofs only [go_sem, h6, List.length_map, hb_b3, c20, h1, f0, f22, f23, f24, f6, f5, h2, Int.ofNat_lt, Int.natCast_nonneg, hb_b8, z_b8_b3, y_b8_b3]
        first | with_reducible exact (((Ext.refl _).set' n_b3 _).set' n_b8 _) | ((with_reducible refine ⟨(((Ext.refl _).set' n_b3 _).set' n_b8 _), ?_⟩); first | rfl | (trivial))
      · have nt : ∀ i j, i < k + 1 → ¬ twiceAt l i j := fun i j hi => by
          by_cases e : i = k
          · subst e; exact fun hj => h6 (t2.2 ⟨j, hj⟩)
          · exact hno i j (by omega)
        have hl5 : labStep ((l.take k).foldl labStep (true, -1)) l[k] = (l.take k).foldl labStep (true, -1) := by unfold labStep; rw [if_neg h5]
        simp -implicitDefEqProofs only [go_sem, h6, wrap_i64 (show -(9223372036854775808 : Int) ≤ ((k : Int) + 1) by omega) (show ((k : Int) + 1) < 9223372036854775808 by omega), List.length_map, hb_b3, c20, h1, f0, f22, f23, f24, f6, f5, h2, Int.ofNat_lt, Int.natCast_nonneg, hb_b8, z_b8_b3, y_b8_b3]
        exact ⟨m - 1, by omega, _, ext8 _, k + 1, by omega, rfl, rfl, by rw [hfold, hl5], by rw [hfold, hl5], nt⟩
  · skip
    have e : k = l.length := by omega
    subst e
    have hnt : ¬ twice l := fun ⟨i, j, hj⟩ => hno i j (by obtain ⟨hi, _⟩ := hj; exact hi) hj
    rw [List.take_length] at f6 f5
    have hlf := lab_fold l true (-1)
    rw [Bool.true_and] at hlf
    cases hr : risingFrom (-1) l with
    | true =>
      rw [hr] at hlf
      rw [code_ok hok hnt hr]
      simp -implicitDefEqProofs only [go_sem, Nat.lt_irrefl, hlf, List.length_map, hb_b3, c20, h1, f0, f22, f23, f24, f6, f5, h2, Int.ofNat_lt, Int.natCast_nonneg]
      first | with_reducible exact ((Ext.refl _).set' n_b3 _) | ((with_reducible refine ⟨((Ext.refl _).set' n_b3 _), ?_⟩); first | rfl | (trivial))
    | false =>
      rw [hr] at hlf
      rw [code_range hok hnt hr]
      simp -implicitDefEqProofs only [go_sem, Nat.lt_irrefl, hlf, List.length_map, hb_b3, c20, h1, f0, f22, f23, f24, f6, f5, h2, Int.ofNat_lt, Int.natCast_nonneg]
      first | with_reducible exact ((Ext.refl _).set' n_b3 _) | ((with_reducible refine ⟨((Ext.refl _).set' n_b3 _), ?_⟩); first | rfl | (trivial))
/-- spec.StepsCode -/
def b_spec_StepsCode : C := (.seq (.ops [q 4 (.mv (.c (i64 0)))])
 (.seq (.seq (.ops [q 10 (.mv (.t 0)), q 11 (.len (.t 10)), q 12 (.bin .gtr (.t 11) (.c (i64 20))), q 13 (.mv (.t 12)), qg 14 13 false (.mv (.t 1)), ⟨(some 15), (some (13, false)), .call (.c (.func (.func 118) #[] #[])) [(.t 14), (.c (i64 1)), (.c (i64 8))]⟩, qg 16 13 false (.un .not (.t 15)), q 17 (.pick (.t 13) (.c (.bool true)) (.t 16))])
 (.cond (.t 17) (.seq (.ops [q 4 (.mv (.c (i64 1)))])
 .ret) .skip))
 (.seq (.seq (.ops [q 5 (.mv (.c (i64 0)))])
 (.block 0 (.loop (.seq (.seq (.ops [q 18 (.mv (.t 5)), q 19 (.mv (.t 0)), q 20 (.len (.t 19)), q 21 (.bin .lss (.t 18) (.t 20))])
 (.cond (.t 21) .skip (.exit 0)))
 (.seq (.block 1 (.seq (.ops [q 24 (.mv (.t 0)), q 25 (.mv (.t 5)), q 26 (.idx 4 (.t 24) (.t 25)), q 27 (.ld true 4 (.t 26)), q 28 (.mv (.t 1)), ⟨(some 29), none, .call (.c (.func (.func 119) #[] #[])) [(.t 27), (.t 28)]⟩, q 30 (.un .not (.t 29))])
 (.cond (.t 30) (.seq (.ops [q 4 (.mv (.c (i64 1)))])
 .ret) .skip)))
 (.ops [q 22 (.mv (.t 5)), q 23 (.bin .add (.t 22) (.c (i64 1))), q 5 (.mv (.t 23))]))))))
 (.seq (.seq (.ops [q 6 (.mv (.c (i64 0)))])
 (.block 2 (.loop (.seq (.seq (.ops [q 31 (.mv (.t 6)), q 32 (.mv (.t 0)), q 33 (.len (.t 32)), q 34 (.bin .lss (.t 31) (.t 33))])
 (.cond (.t 34) .skip (.exit 2)))
 (.seq (.block 3 (.seq (.ops [q 7 (.mv (.c (i64 0)))])
 (.block 4 (.loop (.seq (.seq (.ops [q 37 (.mv (.t 7)), q 38 (.mv (.t 6)), q 39 (.bin .lss (.t 37) (.t 38))])
 (.cond (.t 39) .skip (.exit 4)))
 (.seq (.block 5 (.seq (.dops true (.tk (q 42 (.mv (.t 0))) (.tk (q 43 (.mv (.t 6))) (.tk (q 44 (.idx 4 (.t 42) (.t 43))) (.tk (q 45 (.fld 0 (.t 44))) (.tk (q 46 (.ld false 1 (.t 45))) (.tk (q 47 (.bin .neq (.t 46) (.c (i64 5)))) (.tk (q 48 (.mv (.t 47))) (.tk (qg 49 48 true (.mv (.t 0))) (.tk (qg 50 48 true (.mv (.t 7))) (.tk (qg 51 48 true (.idx 4 (.t 49) (.t 50))) (.tk (qg 52 48 true (.fld 0 (.t 51))) (.tk (qg 53 48 true (.ld false 1 (.t 52))) (.tk (qg 54 48 true (.bin .neq (.t 53) (.c (i64 5)))) (.tk (q 55 (.pick (.t 48) (.t 54) (.c (.bool false)))) (.tk (q 56 (.mv (.t 55))) (.tk (qg 57 56 true (.mv (.t 0))) (.tk (qg 58 56 true (.mv (.t 6))) (.tk (qg 59 56 true (.idx 4 (.t 57) (.t 58))) (.tk (qg 60 56 true (.fld 1 (.t 59))) (.tk (qg 61 56 true (.ld false 1 (.t 60))) (.tk (qg 62 56 true (.mv (.t 0))) (.tk (qg 63 56 true (.mv (.t 7))) (.tk (qg 64 56 true (.idx 4 (.t 62) (.t 63))) (.tk (qg 65 56 true (.fld 1 (.t 64))) (.tk (qg 66 56 true (.ld false 1 (.t 65))) (.tk (qg 67 56 true (.bin .eql (.t 61) (.t 66))) (.tk (q 68 (.pick (.t 56) (.t 67) (.c (.bool false)))) .nil))))))))))))))))))))))))))))
 (.cond (.t 68) (.seq (.ops [q 4 (.mv (.c (i64 12)))])
 .ret) .skip)))
 (.ops [q 40 (.mv (.t 7)), q 41 (.bin .add (.t 40) (.c (i64 1))), q 7 (.mv (.t 41))])))))))
 (.ops [q 35 (.mv (.t 6)), q 36 (.bin .add (.t 35) (.c (i64 1))), q 6 (.mv (.t 36))]))))))
 (.seq (.ops [q 8 (.mv (.c (i64 (-1))))])
 (.seq (.seq (.ops [q 9 (.mv (.c (i64 0)))])
 (.block 6 (.loop (.seq (.seq (.ops [q 69 (.mv (.t 9)), q 70 (.mv (.t 0)), q 71 (.len (.t 70)), q 72 (.bin .lss (.t 69) (.t 71))])
 (.cond (.t 72) .skip (.exit 6)))
 (.seq (.block 7 (.seq (.seq (.ops [q 75 (.mv (.t 0)), q 76 (.mv (.t 9)), q 77 (.idx 4 (.t 75) (.t 76)), q 78 (.fld 0 (.t 77)), q 79 (.ld false 1 (.t 78)), q 80 (.bin .neq (.t 79) (.c (i64 5)))])
 (.cond (.t 80) (.exit 7) .skip))
 (.seq (.seq (.ops [q 81 (.mv (.t 0)), q 82 (.mv (.t 9)), q 83 (.idx 4 (.t 81) (.t 82)), q 84 (.fld 2 (.t 83)), q 85 (.ld false 1 (.t 84)), q 86 (.mv (.t 8)), q 87 (.bin .leq (.t 85) (.t 86))])
 (.cond (.t 87) (.seq (.ops [q 4 (.mv (.c (i64 8)))])
 .ret) .skip))
 (.ops [q 88 (.mv (.t 0)), q 89 (.mv (.t 9)), q 90 (.idx 4 (.t 88) (.t 89)), q 91 (.fld 2 (.t 90)), q 92 (.ld false 1 (.t 91)), q 8 (.mv (.t 92))]))))
 (.ops [q 73 (.mv (.t 9)), q 74 (.bin .add (.t 73) (.c (i64 1))), q 9 (.mv (.t 74))]))))))
 (.seq (.ops [q 4 (.mv (.c (i64 0)))])
 .ret)))))))
theorem w_spec_StepsCode {args : List Value} {h : H} {Q : Value → H → Prop} (hl : args.length ≤ 93) (hk : wpc Tryz.prog b_spec_StepsCode (retw [.tmp 4] Q) (argsFr args) h) : AC Tryz.prog 63 args h Q :=
  AC.of_wpc mixedOrders Tryz.func63 (by kernel_rfl) (by kernel_rfl : prepF Tryz.prog Tryz.f63 = some ⟨93, [.tmp 4], b_spec_StepsCode⟩) hl hk

set_option maxHeartbeats 800000 in
theorem specStepsCode_pc {h : H} {v : Value} {l : List UStep} {blocks : Int} (hv : Sl h v 4 (l.map UStep.cells)) (hn : l.length ≤ 1048576) : PC Tryz.prog 63 [v, i64 blocks] h (i64 (codeOf l blocks)) := by
  obtain ⟨a, c, b, o, rfl, hcap, h2, h3⟩ := hv
  simp only [List.length_map] at h2
  skip
  refine w_spec_StepsCode (by simp) ?_
  unfold b_spec_StepsCode
  simp -implicitDefEqProofs only [go_sem, List.length_map]
  by_cases h20 : 20 < l.length
  · rw [code_form (fun h => by have := h.1; omega)]
    simp -implicitDefEqProofs only [go_sem, show (20 : Int) < (l.length : Int) by omega, List.length_map]
  have c20 : ¬ ((20 : Int) < (l.length : Int)) := by omega
  skip
  simp -implicitDefEqProofs only [go_sem, List.length_map, c20]
  refine (l03Is_pc _ _ _ _).use ?_
  simp -implicitDefEqProofs only [go_sem, List.length_map, c20]
  refine Br.of (fun h1 => ?_) (fun h1 => ?_)
  rotate_left
  · rw [code_form (fun h => h1 h.2.1)]
    simp -implicitDefEqProofs only [go_sem, h1, List.length_map, c20]
  simp -implicitDefEqProofs only [go_sem, h1, List.length_map, c20]
  refine loopW_of (fun m f h' => ∃ k, m + k = l.length ∧ h' = h ∧ f 0 = .slice a l.length c ∧ f 1 = i64 blocks ∧ f 5 = i64 k ∧ ∀ i, (hi : i < l.length) → i < k → stepOk l[i] blocks) l.length
    ⟨0, by simp, rfl, by simp -implicitDefEqProofs only [go_sem, List.length_map, c20], by simp -implicitDefEqProofs only [go_sem, List.length_map, c20], by simp -implicitDefEqProofs only [go_sem, List.length_map, c20]; rfl, by omega⟩ ?_
  rintro m f h' ⟨k, hm, rfl, f0, f1, f5, hok⟩
  skip
  by_cases hk : k < l.length
  · have e1 := h3 k (l[k]).cells (by simp [hk])
    simp -implicitDefEqProofs only [go_sem, hk, e1, List.length_map, c20, f0, f1, f5, h2, Int.ofNat_lt, Int.natCast_nonneg]
    refine (specStepRight_pc _ l[k]).use ?_
    simp -implicitDefEqProofs only [go_sem, List.length_map, c20, f0, f1, f5, h2, Int.ofNat_lt, Int.natCast_nonneg]
    by_cases h4 : stepOk l[k] blocks
    · simp -implicitDefEqProofs only [go_sem, h1, h4, wrap_i64 (show -(9223372036854775808 : Int) ≤ ((k : Int) + 1) by omega) (show ((k : Int) + 1) < 9223372036854775808 by omega), List.length_map, c20, f0, f1, f5, h2, Int.ofNat_lt, Int.natCast_nonneg]
      refine ⟨m - 1, by omega, _, Ext.refl _, k + 1, by omega, rfl, rfl, fun i hi1 hi2 => ?_⟩
      by_cases e : i = k
      · subst e; exact h4
      · exact hok i hi1 (by omega)
    · rw [code_form (fun h => h4 (h.2.2 _ (List.getElem_mem hk)))]
      simp -implicitDefEqProofs only [go_sem, h1, h4, List.length_map, c20, f0, f1, f5, h2, Int.ofNat_lt, Int.natCast_nonneg]
  have e : k = l.length := by omega
  subst e
  have hall : stepsOk l blocks := ⟨by omega, h1, fun s hs => by obtain ⟨i, hi, rfl⟩ := List.getElem_of_mem hs; exact hok i hi hi⟩
  simp -implicitDefEqProofs only [go_sem, Nat.lt_irrefl, List.length_map, c20, f0, f1, f5, h2, Int.ofNat_lt, Int.natCast_nonneg]
  clear hok hm
  refine loopW_of (fun m f h'' => ∃ k, m + k = l.length ∧ h'' = h' ∧ f 0 = .slice a l.length c ∧ f 1 = i64 blocks ∧ f 6 = i64 k ∧ ∀ i j, i < k → ¬ twiceAt l i j) l.length
    ⟨0, by simp, rfl, by simp -implicitDefEqProofs only [go_sem, List.length_map, c20, f0, f1, f5, h2, Int.ofNat_lt, Int.natCast_nonneg], by simp -implicitDefEqProofs only [go_sem, List.length_map, c20, f0, f1, f5, h2, Int.ofNat_lt, Int.natCast_nonneg], by simp -implicitDefEqProofs only [go_sem, List.length_map, c20, f0, f1, f5, h2, Int.ofNat_lt, Int.natCast_nonneg]; rfl, by omega⟩ ?_
  skip
  clear f0 f1 f5
  rintro m f h'' ⟨k, hm, rfl, f0, f1, f6, hno⟩
  skip
  by_cases hk : k < l.length
  · have e1 := h3 k (l[k]).cells (by simp [hk])
    have p0 := ldc_part e1 0 1 (by omega)
    have p1 := ldc_part e1 1 1 (by omega)
    simp only [Nat.add_zero, List.drop_zero, List.drop_succ_cons, List.take_succ_cons, List.take_zero] at p0 p1
    simp -implicitDefEqProofs only [go_sem, hk, List.length_map, c20, h2, Int.ofNat_lt, Int.natCast_nonneg, f0, f1, f6]
    refine loopW_of (fun m f h''' => ∃ j, m + j = k ∧ h''' = h'' ∧ f 0 = .slice a l.length c ∧ f 1 = i64 blocks ∧ f 6 = i64 k ∧ f 7 = i64 j ∧ ∀ j', j' < j → ¬ twiceAt l k j') k
      ⟨0, by simp, rfl, by simp -implicitDefEqProofs only [go_sem, List.length_map, c20, h2, Int.ofNat_lt, Int.natCast_nonneg, f0, f1, f6], by simp -implicitDefEqProofs only [go_sem, List.length_map, c20, h2, Int.ofNat_lt, Int.natCast_nonneg, f0, f1, f6], by simp -implicitDefEqProofs only [go_sem, List.length_map, c20, h2, Int.ofNat_lt, Int.natCast_nonneg, f0, f1, f6], by simp -implicitDefEqProofs only [go_sem, List.length_map, c20, h2, Int.ofNat_lt, Int.natCast_nonneg, f0, f1, f6]; rfl, by omega⟩ ?_
    skip
    rintro m2 g h''' ⟨j, hm2, rfl, g0, g1, g6, g7, hno2⟩
    skip
    by_cases hj : j < k
    · have hjl : j < l.length := by omega
      have e2 := h3 j (l[j]).cells (by simp [hjl])
      have r0 := ldc_part e2 0 1 (by omega)
      have r1 := ldc_part e2 1 1 (by omega)
      simp only [Nat.add_zero, List.drop_zero, List.drop_succ_cons, List.take_succ_cons, List.take_zero] at r0 r1
      have nxt : ¬ twiceAt l k j → ∃ m', m' < m2 ∧ ∃ h4, Ext h4 h''' ∧ ∃ j_1, m' + j_1 = k ∧ h4 = h''' ∧ i64 ((j : Int) + 1) = i64 j_1 ∧ ∀ j', j' < j_1 → ¬ twiceAt l k j' := fun hn2 =>
        ⟨m2 - 1, by omega, _, Ext.refl _, j + 1, by omega, rfl, rfl, fun j' hj' => by
          by_cases e : j' = j
          · subst e; exact hn2
          · exact hno2 j' (by omega)⟩
      by_cases q1 : l[k].kind = 5
      · simp -implicitDefEqProofs only [go_sem, hj, hk, hjl, p0, p1, r0, r1, q1, wrap_i64 (show -(9223372036854775808 : Int) ≤ ((j : Int) + 1) by omega) (show ((j : Int) + 1) < 9223372036854775808 by omega), List.length_map, c20, h2, Int.ofNat_lt, Int.natCast_nonneg, g0, g1, g6, g7]
        exact nxt fun ⟨_, _, h6, _⟩ => h6 q1
      by_cases q2 : l[j].kind = 5
      · simp -implicitDefEqProofs only [go_sem, hj, hk, hjl, p0, p1, r0, r1, q1, q2, wrap_i64 (show -(9223372036854775808 : Int) ≤ ((j : Int) + 1) by omega) (show ((j : Int) + 1) < 9223372036854775808 by omega), List.length_map, c20, h2, Int.ofNat_lt, Int.natCast_nonneg, g0, g1, g6, g7]
        exact nxt fun ⟨_, _, _, h6, _⟩ => h6 q2
      by_cases q3 : l[k].dst = l[j].dst
      · rw [code_twice hall ⟨k, j, hk, hj, q1, q2, q3⟩]
        simp -implicitDefEqProofs only [go_sem, hj, hk, hjl, p0, p1, r0, r1, q1, q2, q3, List.length_map, c20, h2, Int.ofNat_lt, Int.natCast_nonneg, g0, g1, g6, g7]
      · simp -implicitDefEqProofs only [go_sem, hj, hk, hjl, p0, p1, r0, r1, q1, q2, q3, wrap_i64 (show -(9223372036854775808 : Int) ≤ ((j : Int) + 1) by omega) (show ((j : Int) + 1) < 9223372036854775808 by omega), List.length_map, c20, h2, Int.ofNat_lt, Int.natCast_nonneg, g0, g1, g6, g7]
        exact nxt fun ⟨_, _, _, _, h6⟩ => q3 h6
    · have e : j = k := by omega
      subst e
      simp -implicitDefEqProofs only [go_sem, Nat.lt_irrefl, wrap_i64 (show -(9223372036854775808 : Int) ≤ ((j : Int) + 1) by omega) (show ((j : Int) + 1) < 9223372036854775808 by omega), List.length_map, c20, h2, Int.ofNat_lt, Int.natCast_nonneg, g0, g1, g6, g7]
      refine ⟨m - 1, by omega, _, Ext.refl _, j + 1, by omega, rfl, rfl, fun i j' hi => ?_⟩
      by_cases e : i = j
      · subst e
        by_cases hj' : j' < i
        · exact hno2 j' hj'
        · exact fun ⟨_, h6, _⟩ => hj' h6
      · exact hno i j' (by omega)
  have e : k = l.length := by omega
  subst e
  have hnt : ¬ twice l := fun ⟨i, j, hj⟩ => hno i j (by obtain ⟨hi, _⟩ := hj; exact hi) hj
  skip
  simp -implicitDefEqProofs only [go_sem, f0, f1, f6, Nat.lt_irrefl, List.length_map, c20, h2, Int.ofNat_lt, Int.natCast_nonneg]
  clear hno hm
  refine loopW_of (fun m f h''' => ∃ k, m + k = l.length ∧ h''' = h'' ∧ f 0 = .slice a l.length c ∧ f 9 = i64 k ∧ ((l.take k).foldl labStep (true, -1)).1 = true ∧ f 8 = i64 ((l.take k).foldl labStep (true, -1)).2) l.length
    ⟨0, by simp, rfl, by simp -implicitDefEqProofs only [go_sem, f0, List.length_map, c20, h2, Int.ofNat_lt, Int.natCast_nonneg], by simp -implicitDefEqProofs only [go_sem, List.length_map, c20, h2, Int.ofNat_lt, Int.natCast_nonneg]; rfl, rfl, by simp -implicitDefEqProofs only [go_sem, List.length_map, c20, h2, Int.ofNat_lt, Int.natCast_nonneg]; rfl⟩ ?_
  clear f0 f1 f6
  rintro m f h''' ⟨k, hm, rfl, f0, f9, hr, f8⟩
  skip
  by_cases hk : k < l.length
  · have e1 := h3 k (l[k]).cells (by simp [hk])
    have p0 := ldc_part e1 0 1 (by omega)
    have p2 := ldc_part e1 2 1 (by omega)
    simp only [Nat.add_zero, List.drop_zero, List.drop_succ_cons, List.take_succ_cons, List.take_zero] at p0 p2
    have hfold := foldl_take labStep (true, -1) l k hk
    by_cases h5 : l[k].kind = 5
    · by_cases h6 : l[k].src ≤ ((l.take k).foldl labStep (true, -1)).2
      · rw [code_range hall hnt (rising_last hk h5 hr (by omega))]
        simp -implicitDefEqProofs only [go_sem, hk, p0, p2, h5, h6, List.length_map, c20, h2, Int.ofNat_lt, Int.natCast_nonneg, f0, f9, f8]
      · have hl5 : labStep ((l.take k).foldl labStep (true, -1)) l[k] = (true, l[k].src) := by rw [lab5 h5, hr, decide_eq_true (by omega)]; rfl
        simp -implicitDefEqProofs only [go_sem, hk, p0, p2, h5, h6, wrap_i64 (show -(9223372036854775808 : Int) ≤ ((k : Int) + 1) by omega) (show ((k : Int) + 1) < 9223372036854775808 by omega), List.length_map, c20, h2, Int.ofNat_lt, Int.natCast_nonneg, f0, f9, f8]
        exact ⟨m - 1, by omega, _, Ext.refl _, k + 1, by omega, rfl, rfl, by rw [hfold, hl5], by rw [hfold, hl5]⟩
    · have hl5 : labStep ((l.take k).foldl labStep (true, -1)) l[k] = (l.take k).foldl labStep (true, -1) := by unfold labStep; rw [if_neg h5]
      simp -implicitDefEqProofs only [go_sem, hk, p0, p2, h5, wrap_i64 (show -(9223372036854775808 : Int) ≤ ((k : Int) + 1) by omega) (show ((k : Int) + 1) < 9223372036854775808 by omega), List.length_map, c20, h2, Int.ofNat_lt, Int.natCast_nonneg, f0, f9, f8]
      exact ⟨m - 1, by omega, _, Ext.refl _, k + 1, by omega, rfl, rfl, by rw [hfold, hl5]; exact hr, by rw [hfold, hl5]⟩
  · have e : k = l.length := by omega
    subst e
    rw [List.take_length] at hr
    have hlf := lab_fold l true (-1)
    rw [Bool.true_and, hr] at hlf
    rw [code_ok hall hnt hlf.symm]
    simp -implicitDefEqProofs only [go_sem, Nat.lt_irrefl, List.length_map, c20, h2, Int.ofNat_lt, Int.natCast_nonneg, f0, f9, f8]
end Go.Proofs.YthjbhdmjfakfaaaGreatDoor
