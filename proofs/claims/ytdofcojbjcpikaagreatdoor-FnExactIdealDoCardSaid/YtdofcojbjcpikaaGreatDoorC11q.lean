/- A helper of this seat's claims (contracts of the functions): what it shows is shown for every input that its statements name, on no other condition. -/
import Derived.Test.YtdofcojbjcpikaaGreatDoorC10s
import Derived.Test.YtdofcojbjcpikaaGreatDoorC05
import Derived.Test.YtdofcojbjcpikaaGreatDoorKD
import Derived.Test.YtdofcojbjcpikaaGreatDoorMC10t
set_option linter.unusedVariables false
set_option linter.unusedSimpArgs false
set_option maxRecDepth 100000
namespace Go.Proofs.YtdofcojbjcpikaaGreatDoor
open Go.KH

/-! ## The reference's plan -/
def bools (n : Nat) (L : List Nat) : List (List Value) := (List.range n).map fun i => [.bool (decide (i ∈ L))]
def stB (st : List Int) : List (List Value) := (List.range 8).map fun i : Nat => [.bool (decide ((i : Int) ∈ st))]
theorem bools_len (n : Nat) (L : List Nat) : (bools n L).length = n := by simp [bools]
theorem bools_get {n i : Nat} (L : List Nat) (h : i < n) : (bools n L)[i]? = some [.bool (decide (i ∈ L))] := by simp [bools, h]
theorem stB_get {d : Int} (st : List Int) (h : 0 ≤ d ∧ d ≤ 7) : (stB st)[d.toNat]? = some [.bool (decide (d ∈ st))] := by
  have h1 : d.toNat < 8 := by omega
  have h2 : ((d.toNat : Nat) : Int) = d := by omega
  simp [stB, h1, h2]
theorem fstI_ge (p : Nat → Bool) (k : Nat) : -1 ≤ fstI p k := by
  unfold fstI
  split <;> omega
theorem fstI_no {p : Nat → Bool} {k : Nat} (h : p k = false) : fstI p (k + 1) = fstI p k := by
  have := fstI_ge p k
  rw [fstI_succ, h]
  simp only [Bool.false_eq_true, if_false]
  split <;> omega
theorem fstI_if {p : Nat → Bool} {k : Nat} (h : p k = true) : fstI p (k + 1) = if fstI p k < 0 then (k : Int) else fstI p k := by
  rw [fstI_succ, h]; simp
def bcl (n : Nat) (p : Nat → Bool) : List Value := (List.range n).map fun i => .bool (p i)
theorem bcl_len (n : Nat) (p : Nat → Bool) : (bcl n p).length = n := by simp [bcl]
theorem bcl_one (n : Nat) (p : Nat → Bool) : (bcl n p).all Value.oneCell' = true := by simp [bcl, Value.oneCell']
theorem bcl_congr {n : Nat} {p q : Nat → Bool} (h : ∀ i, i < n → p i = q i) : bcl n p = bcl n q := by
  unfold bcl
  exact List.map_congr_left fun i hi => by rw [h i (List.mem_range.1 hi)]
theorem bcl_put {n k : Nat} (p : Nat → Bool) (x : Bool) (hk : k < n) : splice (bcl n p) k [.bool x] = bcl n fun i => if i = k then x else p i := by
  have e : bcl n p = ((List.range n).map p).map Value.bool := by simp [bcl]
  rw [e, splice_set Value.bool ((List.range n).map p) k x (by simpa using hk)]
  apply List.ext_getElem
  · simp [bcl]
  · intro i h1 h2
    simp only [bcl, List.getElem_map, List.getElem_set, List.getElem_range]
    by_cases e : k = i
    · subst e; simp
    · rw [if_neg e, if_neg (Ne.symm e)]
theorem bools_flat (n : Nat) (L : List Nat) : (bools n L).flatten = bcl n fun i => decide (i ∈ L) := by
  unfold bools bcl
  induction List.range n with
  | nil => rfl
  | cons a l ih => simp [ih]
theorem stB_flat (st : List Int) : (stB st).flatten = bcl 8 fun i => decide ((i : Int) ∈ st) := by
  unfold stB bcl
  induction List.range 8 with
  | nil => rfl
  | cons a l ih => simp [ih]
theorem bools_wid (n : Nat) (L : List Nat) : Wid 1 (bools n L) := Wid.map fun _ => rfl
theorem stB_wid (st : List Int) : Wid 1 (stB st) := Wid.map fun _ => rfl
/-- spec.Writes -/
def b_spec_Writes : C := (.seq (.ops [q 2 (.mv (.c nils))])
 (.seq (.ops [⟨(some 5), none, .bsl 0 [] []⟩, q 3 (.mv (.t 5))])
 (.seq (.seq (.ops [q 4 (.mv (.c (i64 0)))])
 (.block 0 (.loop (.seq (.seq (.ops [q 6 (.mv (.t 4)), q 7 (.mv (.t 0)), q 8 (.len (.t 7)), q 9 (.bin .lss (.t 6) (.t 8)), q 10 (.mv (.t 9)), qg 11 10 true (.mv (.t 0)), qg 12 10 true (.len (.t 11)), qg 13 10 true (.bin .leq (.t 12) (.c (i64 20))), q 14 (.pick (.t 10) (.t 13) (.c (.bool false)))])
 (.cond (.t 14) .skip (.exit 0)))
 (.seq (.block 1 (.seq (.ops [q 17 (.mv (.t 0)), q 18 (.mv (.t 4)), q 19 (.idx 4 (.t 17) (.t 18)), q 20 (.fld 0 (.t 19)), q 21 (.ld false 1 (.t 20)), q 22 (.bin .neq (.t 21) (.c (i64 5)))])
 (.cond (.t 22) (.ops [q 23 (.mv (.t 3)), q 24 (.mv (.t 0)), q 25 (.mv (.t 4)), q 26 (.idx 4 (.t 24) (.t 25)), q 27 (.ld true 4 (.t 26)), ⟨(some 28), none, .bsl 1 [(i64 0), (i64 0), (i64 0), (str [])] [(0, 4, (.t 27))]⟩, ⟨(some 29), none, .app 4 40 (.t 23) (.t 28)⟩, q 3 (.mv (.t 29))]) .skip)))
 (.ops [q 15 (.mv (.t 4)), q 16 (.bin .add (.t 15) (.c (i64 1))), q 4 (.mv (.t 16))]))))))
 (.seq (.ops [q 30 (.mv (.t 3)), q 2 (.mv (.t 30))])
 .ret))))
theorem w_spec_Writes {args : List Value} {h : H} {Q : Value → H → Prop} (hl : args.length ≤ 31) (hk : wpc Tryz.prog b_spec_Writes (retw [.tmp 2] Q) (argsFr args) h) : AC Tryz.prog 289 args h Q :=
  AC.of_wpc mixedOrders Tryz.func289 (by kernel_rfl) (by kernel_rfl : prepF Tryz.prog Tryz.f289 = some ⟨31, [.tmp 2], b_spec_Writes⟩) hl hk

theorem specWrites_ac {h : H} {v : Value} {l : List UStep} (hv : Sl h v 4 (l.map UStep.cells)) (hn : l.length ≤ 20) : AC Tryz.prog 289 [v] h fun r h' => Ext h h' ∧ Fre h h' r 4 ((l.filter isW).map UStep.cells) := by
  obtain ⟨a, c, b, o, rfl, hcap, h2, h3⟩ := hv
  simp only [List.length_map] at h2
  skip
  refine w_spec_Writes (by simp) ?_
  unfold b_spec_Writes
  simp -implicitDefEqProofs only [go_sem, List.length_map]
  intro b0 hb0 n0
  simp -implicitDefEqProofs only [go_sem, List.length_map]
  refine loopW_of (fun m f h' => ∃ (k : Nat) (u : Value), m + k = l.length ∧ f 0 = .slice a l.length c ∧ f 4 = i64 k ∧ f 3 = u ∧ Ext h h' ∧ Own h h' u 4 (((l.take k).filter isW).map UStep.cells)) l.length
    ⟨0, sl b0 0 0 0, by simp, by simp -implicitDefEqProofs only [go_sem, List.length_map], by simp -implicitDefEqProofs only [go_sem, List.length_map]; rfl, by simp -implicitDefEqProofs only [go_sem, List.length_map], (Ext.refl _).set n0 _, .inr ⟨b0, 0, 0, rfl, Nat.le_refl _, hb0, n0, H.set_get_same _ _ _, by simp, Wid.nil 4⟩⟩ ?_
  rintro m f h' ⟨k, u, hm, f0, f4, f3, he, ho⟩
  obtain ⟨aw, cw, rfl⟩ := ho.shape
  rw [List.length_map] at ho f3
  skip
  by_cases hk : k < l.length
  · have e1 := ldc_sub he.2 (h3 k (l[k]).cells (by simp [hk]))
    have e2 := ldc_part e1 0 1 (by omega)
    simp only [Nat.add_zero] at e2
    have hft := filter_take isW l k hk
    by_cases h5 : l[k].kind = 5
    · have hw : isW l[k] = false := by simp [isW, h5]
      rw [hw, if_neg (by simp)] at hft
      simp -implicitDefEqProofs only [go_sem, hk, e2, h5, wrap_i64 (show -(9223372036854775808 : Int) ≤ ((k : Int) + 1) by omega) (show ((k : Int) + 1) < 9223372036854775808 by omega), List.length_map, f0, f4, f3, h2, Int.ofNat_lt, Int.natCast_nonneg, show ((l.length : Int) ≤ 20) by omega]
      exact ⟨m - 1, by omega, h', Ext.refl _, k + 1, _, by omega, rfl, rfl, he, by rw [hft]; exact ho⟩
    · have hw : isW l[k] = true := by simp [isW, h5]
      rw [hw, if_pos rfl] at hft
      simp -implicitDefEqProofs only [go_sem, hk, e1, e2, h5, List.length_map, f0, f4, f3, h2, Int.ofNat_lt, Int.natCast_nonneg, show ((l.length : Int) ≤ 20) by omega]
      intro b7 hb_b7 n_b7
      simp -implicitDefEqProofs only [go_sem, List.length_map, f0, f4, f3, h2, Int.ofNat_lt, Int.natCast_nonneg, show ((l.length : Int) ≤ 20) by omega, hb_b7]
      refine appW_own (new := [(l[k]).cells]) (he.set n_b7 _) (ho.ext ((Ext.refl _).set n_b7 _)) (by simp -implicitDefEqProofs only [go_sem, List.length_map, f0, f4, f3, h2, Int.ofNat_lt, Int.natCast_nonneg, show ((l.length : Int) ≤ 20) by omega, hb_b7]; rfl) (by intro r hr; simp at hr; subst hr; rfl) rfl (by have := List.length_filter_le isW (l.take k); simp at this ⊢; omega) ?_
      intro v' h'' he2 ho2 _
      simp -implicitDefEqProofs only [go_sem, wrap_i64 (show -(9223372036854775808 : Int) ≤ ((k : Int) + 1) by omega) (show ((k : Int) + 1) < 9223372036854775808 by omega), List.length_map, f0, f4, f3, h2, Int.ofNat_lt, Int.natCast_nonneg, show ((l.length : Int) ≤ 20) by omega, hb_b7]
      exact ⟨m - 1, by omega, h'', Ext.refl _, k + 1, v', by omega, rfl, rfl, he2, by rw [hft]; simpa using ho2⟩
  · skip
    have e : k = l.length := by omega
    subst e
    rw [List.take_length] at ho
    simp -implicitDefEqProofs only [go_sem, Nat.lt_irrefl, List.length_map, f0, f4, f3, h2, Int.ofNat_lt, Int.natCast_nonneg, show ((l.length : Int) ≤ 20) by omega]
    rw [List.take_length]
    exact ⟨he, ho.fre⟩
/-- spec.l11Blocked -/
def b_spec_l11Blocked : C := (.seq (.ops [q 8 (.mv (.c (.bool false)))])
 (.seq (.seq (.ops [q 10 (.mv (.t 2)), q 11 (.mv (.t 0)), q 12 (.mv (.t 3)), q 13 (.idx 4 (.t 11) (.t 12)), q 14 (.fld 1 (.t 13)), q 15 (.ld false 1 (.t 14)), q 16 (.idx 1 (.t 10) (.t 15)), q 17 (.ld false 1 (.t 16))])
 (.cond (.t 17) (.seq (.ops [q 8 (.mv (.c (.bool false)))])
 .ret) .skip))
 (.seq (.seq (.ops [q 9 (.mv (.c (i64 0)))])
 (.block 0 (.loop (.seq (.seq (.ops [q 18 (.mv (.t 9)), q 19 (.mv (.t 0)), q 20 (.len (.t 19)), q 21 (.bin .lss (.t 18) (.t 20))])
 (.cond (.t 21) .skip (.exit 0)))
 (.seq (.block 1 (.seq (.dops true (.tk (q 24 (.mv (.t 9))) (.tk (q 25 (.mv (.t 3))) (.tk (q 26 (.bin .neq (.t 24) (.t 25))) (.tk (q 27 (.mv (.t 26))) (.tk (qg 28 27 true (.mv (.t 1))) (.tk (qg 29 27 true (.mv (.t 9))) (.tk (qg 30 27 true (.idx 1 (.t 28) (.t 29))) (.tk (qg 31 27 true (.ld false 1 (.t 30))) (.tk (q 32 (.pick (.t 27) (.t 31) (.c (.bool false)))) (.tk (q 33 (.mv (.t 32))) (.tk (qg 34 33 true (.mv (.t 0))) (.tk (qg 35 33 true (.mv (.t 9))) (.tk (qg 36 33 true (.idx 4 (.t 34) (.t 35))) (.tk (qg 37 33 true (.ld true 4 (.t 36))) (.tk (qg 38 33 true (.mv (.t 0))) (.tk (qg 39 33 true (.mv (.t 3))) (.tk (qg 40 33 true (.idx 4 (.t 38) (.t 39))) (.tk (qg 41 33 true (.fld 1 (.t 40))) (.tk (qg 42 33 true (.ld false 1 (.t 41))) (.sq (⟨(some 43), (some (33, true)), .call (.c (.func (.func 306) #[] #[])) [(.t 37), (.t 42)]⟩) (.tk (q 44 (.pick (.t 33) (.t 43) (.c (.bool false)))) .nil))))))))))))))))))))))
 (.cond (.t 44) (.seq (.ops [q 8 (.mv (.c (.bool true)))])
 .ret) .skip)))
 (.ops [q 22 (.mv (.t 9)), q 23 (.bin .add (.t 22) (.c (i64 1))), q 9 (.mv (.t 23))]))))))
 (.seq (.ops [q 8 (.mv (.c (.bool false)))])
 .ret))))
theorem w_spec_l11Blocked {args : List Value} {h : H} {Q : Value → H → Prop} (hl : args.length ≤ 45) (hk : wpc Tryz.prog b_spec_l11Blocked (retw [.tmp 8] Q) (argsFr args) h) : AC Tryz.prog 303 args h Q :=
  AC.of_wpc mixedOrders Tryz.func303 (by kernel_rfl) (by kernel_rfl : prepF Tryz.prog Tryz.f303 = some ⟨45, [.tmp 8], b_spec_l11Blocked⟩) hl hk

theorem l11Blocked_pc {h : H} {w : List UStep} {vw vl vs : Value} {L : List Nat} {st : List Int} {i : Nat} (hw : Sl h vw 4 (w.map UStep.cells)) (hl : Sl h vl 1 (bools w.length L)) (hs : Sl h vs 1 (stB st)) (hi : i < w.length)
    (hd : ∀ s ∈ w, 0 ≤ s.dst ∧ s.dst ≤ 7) (hb : ∀ k ∈ L, k < w.length) (hn : w.length ≤ 1048576) : PC Tryz.prog 303 [vw, vl, vs, i64 i] h (.bool (!freeB w L st i)) := by
  obtain ⟨a, c, b, o, rfl, hcap, h2, h3⟩ := hw
  obtain ⟨al, cl, bl, ol, rfl, hcl, hl2, hl3⟩ := hl
  obtain ⟨a8, c8, b8, o8, rfl, hcs, hs2, hs3⟩ := hs
  have h8 : (stB st).length = 8 := by simp [stB]
  simp only [List.length_map] at h2
  rw [bools_len] at hl2
  rw [h8] at hs2
  have hdi := hd _ (List.getElem_mem hi)
  have e1 := ldc_part (h3 i (w[i]).cells (by simp [hi])) 1 1 (by omega)
  have e2 := hs3 _ _ (stB_get st hdi)
  unfold freeB readB
  rw [stAt_get hi]
  skip
  refine w_spec_l11Blocked (by simp) ?_
  unfold b_spec_l11Blocked
  simp -implicitDefEqProofs only [go_sem, hi, e1, hdi.1, List.length_map, bools_len, h8, h2, hl2, hs2, Int.ofNat_lt, Int.natCast_nonneg]
  simp -implicitDefEqProofs only [go_sem, show w[i].dst < ((8 : Nat) : Int) by omega, e2, List.length_map, bools_len, h8, h2, hl2, hs2, Int.ofNat_lt, Int.natCast_nonneg]
  by_cases hst : w[i].dst ∈ st
  · simp -implicitDefEqProofs only [go_sem, hst, List.length_map, bools_len, h8, h2, hl2, hs2, Int.ofNat_lt, Int.natCast_nonneg]
    simp
  simp -implicitDefEqProofs only [go_sem, hst, List.length_map, bools_len, h8, h2, hl2, hs2, Int.ofNat_lt, Int.natCast_nonneg]
  refine loopW_of (fun m f h' => ∃ k, m + k = w.length ∧ h' = h ∧ f 0 = .slice a w.length c ∧ f 1 = .slice al w.length cl ∧ f 3 = i64 i ∧ f 9 = i64 k ∧ ∀ j, j < k → ¬ (j ∈ L ∧ j ≠ i ∧ readsB (stAt w j) w[i].dst = true)) w.length
    ⟨0, by simp, rfl, by simp -implicitDefEqProofs only [go_sem, List.length_map, bools_len, h8, h2, hl2, hs2, Int.ofNat_lt, Int.natCast_nonneg], by simp -implicitDefEqProofs only [go_sem, List.length_map, bools_len, h8, h2, hl2, hs2, Int.ofNat_lt, Int.natCast_nonneg], by simp -implicitDefEqProofs only [go_sem, List.length_map, bools_len, h8, h2, hl2, hs2, Int.ofNat_lt, Int.natCast_nonneg], by simp -implicitDefEqProofs only [go_sem, List.length_map, bools_len, h8, h2, hl2, hs2, Int.ofNat_lt, Int.natCast_nonneg]; rfl, by omega⟩ ?_
  rintro m f h' ⟨k, hm, rfl, f0, f1, f3, f9, hno⟩
  skip
  by_cases hk : k < w.length
  · have e3 := h3 k (w[k]).cells (by simp [hk])
    have e4 := hl3 k _ (bools_get L hk)
    have next : ¬ (k ∈ L ∧ k ≠ i ∧ readsB (stAt w k) w[i].dst = true) → ∃ m', m' < m ∧ ∃ h'', Ext h'' h' ∧ ∃ k_1, m' + k_1 = w.length ∧ h'' = h' ∧ Value.int IntKind.i64 (k + 1) = i64 k_1 ∧ ∀ j, j < k_1 → ¬ (j ∈ L ∧ j ≠ i ∧ readsB (stAt w j) w[i].dst = true) := fun hq =>
      ⟨m - 1, by omega, h', Ext.refl _, k + 1, by omega, rfl, rfl, fun j hj => by
        by_cases e : j = k
        · subst e; exact hq
        · exact hno j (by omega)⟩
    by_cases hki : k = i
    · simp -implicitDefEqProofs only [go_sem, hk, hi, show ((k : Int) = (i : Int)) by omega, wrap_i64 (show -(9223372036854775808 : Int) ≤ ((i : Int) + 1) by omega) (show ((i : Int) + 1) < 9223372036854775808 by omega), wrap_i64 (show -(9223372036854775808 : Int) ≤ ((k : Int) + 1) by omega) (show ((k : Int) + 1) < 9223372036854775808 by omega), List.length_map, bools_len, h8, h2, hl2, hs2, Int.ofNat_lt, Int.natCast_nonneg, f0, f1, f3, f9]
      have q := next (by simp [hki])
      rw [hki] at q
      exact q
    by_cases hkl : k ∈ L
    rotate_left
    · simp -implicitDefEqProofs only [go_sem, hk, show ¬ ((k : Int) = (i : Int)) by omega, e4, hkl, wrap_i64 (show -(9223372036854775808 : Int) ≤ ((k : Int) + 1) by omega) (show ((k : Int) + 1) < 9223372036854775808 by omega), List.length_map, bools_len, h8, h2, hl2, hs2, Int.ofNat_lt, Int.natCast_nonneg, f0, f1, f3, f9]
      exact next (by simp [hkl])
    simp -implicitDefEqProofs only [go_sem, hk, show ¬ ((k : Int) = (i : Int)) by omega, e4, hkl, e3, hi, e1, List.length_map, bools_len, h8, h2, hl2, hs2, Int.ofNat_lt, Int.natCast_nonneg, f0, f1, f3, f9]
    refine (specReads_pc _ w[k] w[i].dst).use ?_
    by_cases hr : readsB w[k] w[i].dst = true
    · simp -implicitDefEqProofs only [go_sem, hr, List.length_map, bools_len, h8, h2, hl2, hs2, Int.ofNat_lt, Int.natCast_nonneg, f0, f1, f3, f9]
      have : (L.any fun k => decide (k ≠ i) && readsB (stAt w k) w[i].dst) = true := List.any_eq_true.2 ⟨k, hkl, by simp [hki, stAt_get hk, hr]⟩
      rw [this]; simp [hst]
    · have hr' : readsB w[k] w[i].dst = false := by simpa using hr
      simp -implicitDefEqProofs only [go_sem, hr', wrap_i64 (show -(9223372036854775808 : Int) ≤ ((k : Int) + 1) by omega) (show ((k : Int) + 1) < 9223372036854775808 by omega), List.length_map, bools_len, h8, h2, hl2, hs2, Int.ofNat_lt, Int.natCast_nonneg, f0, f1, f3, f9]
      exact next (by rw [stAt_get hk]; simp [hr'])
  · have e : k = w.length := by omega
    subst e
    simp -implicitDefEqProofs only [go_sem, Nat.lt_irrefl, List.length_map, bools_len, h8, h2, hl2, hs2, Int.ofNat_lt, Int.natCast_nonneg, f0, f1, f3, f9]
    have : (L.any fun k => decide (k ≠ i) && readsB (stAt w k) w[i].dst) = false := by
      rw [List.any_eq_false]
      intro k hk hq
      simp only [Bool.and_eq_true, decide_eq_true_eq] at hq
      exact hno k (hb k hk) ⟨hk, hq.1, hq.2⟩
    rw [this]; simp
/-- spec.l11Next -/
def b_spec_l11Next : C := (.seq (.ops [q 6 (.mv (.c (i64 0))), q 7 (.mv (.c (i64 0)))])
 (.seq (.ops [q 8 (.mv (.c (i64 (-1)))), q 9 (.mv (.c (i64 (-1))))])
 (.seq (.seq (.ops [q 10 (.mv (.c (i64 0)))])
 (.block 0 (.loop (.seq (.seq (.ops [q 11 (.mv (.t 10)), q 12 (.mv (.t 0)), q 13 (.len (.t 12)), q 14 (.bin .lss (.t 11) (.t 13))])
 (.cond (.t 14) .skip (.exit 0)))
 (.seq (.block 1 (.seq (.seq (.ops [q 17 (.mv (.t 1)), q 18 (.mv (.t 10)), q 19 (.idx 1 (.t 17) (.t 18)), q 20 (.ld false 1 (.t 19)), q 21 (.un .not (.t 20))])
 (.cond (.t 21) (.exit 1) .skip))
 (.seq (.seq (.ops [q 22 (.mv (.t 9)), q 23 (.bin .lss (.t 22) (.c (i64 0)))])
 (.cond (.t 23) (.ops [q 24 (.mv (.t 10)), q 9 (.mv (.t 24))]) .skip))
 (.seq (.ops [q 25 (.mv (.t 8)), q 26 (.bin .lss (.t 25) (.c (i64 0))), q 27 (.mv (.t 26)), qg 28 27 true (.mv (.t 0)), qg 29 27 true (.mv (.t 1)), qg 30 27 true (.mv (.t 2)), qg 31 27 true (.mv (.t 10)), ⟨(some 32), (some (27, true)), .call (.c (.func (.func 303) #[] #[])) [(.t 28), (.t 29), (.t 30), (.t 31)]⟩, qg 33 27 true (.un .not (.t 32)), q 34 (.pick (.t 27) (.t 33) (.c (.bool false)))])
 (.cond (.t 34) (.ops [q 35 (.mv (.t 10)), q 8 (.mv (.t 35))]) .skip)))))
 (.ops [q 15 (.mv (.t 10)), q 16 (.bin .add (.t 15) (.c (i64 1))), q 10 (.mv (.t 16))]))))))
 (.seq (.ops [q 36 (.mv (.t 8)), q 37 (.mv (.t 9)), q 6 (.mv (.t 36)), q 7 (.mv (.t 37))])
 .ret))))
theorem w_spec_l11Next {args : List Value} {h : H} {Q : Value → H → Prop} (hl : args.length ≤ 38) (hk : wpc Tryz.prog b_spec_l11Next (retw [.tmp 6, .tmp 7] Q) (argsFr args) h) : AC Tryz.prog 290 args h Q :=
  AC.of_wpc mixedOrders Tryz.func290 (by kernel_rfl) (by kernel_rfl : prepF Tryz.prog Tryz.f290 = some ⟨38, [.tmp 6, .tmp 7], b_spec_l11Next⟩) hl hk

theorem l11Next_pc {h : H} {w : List UStep} {vw vl vs : Value} {L : List Nat} {st : List Int} (hw : Sl h vw 4 (w.map UStep.cells)) (hl : Sl h vl 1 (bools w.length L)) (hs : Sl h vs 1 (stB st))
    (hd : ∀ s ∈ w, 0 ≤ s.dst ∧ s.dst ≤ 7) (hb : ∀ k ∈ L, k < w.length) (hn : w.length ≤ 1048576) : PC Tryz.prog 290 [vw, vl, vs] h (.tuple #[i64 (fstI (fun i => decide (i ∈ L) && freeB w L st i) w.length), i64 (fstI (fun i => decide (i ∈ L)) w.length)]) := by
  have hw' := hw
  have hl' := hl
  obtain ⟨a, c, b, o, rfl, hcap, h2, h3⟩ := hw
  obtain ⟨al, cl, bl, ol, rfl, hcl, hl2, hl3⟩ := hl
  obtain ⟨a8, c8, rfl⟩ := hs.shape
  have h8 : (stB st).length = 8 := by simp [stB]
  simp only [List.length_map] at h2 hw'
  rw [bools_len] at hl2 hl'
  rw [h8] at hs
  skip
  refine w_spec_l11Next (by simp) ?_
  unfold b_spec_l11Next
  simp -implicitDefEqProofs only [go_sem, List.length_map, bools_len, h8, h2, hl2, Int.ofNat_lt, Int.natCast_nonneg]
  refine loopW_of (fun m f h' => ∃ k, m + k = w.length ∧ h' = h ∧ f 0 = .slice a w.length c ∧ f 1 = .slice al w.length cl ∧ f 2 = .slice a8 8 c8 ∧ f 8 = i64 (fstI (fun i => decide (i ∈ L) && freeB w L st i) k) ∧ f 9 = i64 (fstI (fun i => decide (i ∈ L)) k) ∧ f 10 = i64 k) w.length
    ⟨0, by simp, rfl, by simp -implicitDefEqProofs only [go_sem, List.length_map, bools_len, h8, h2, hl2, Int.ofNat_lt, Int.natCast_nonneg], by simp -implicitDefEqProofs only [go_sem, List.length_map, bools_len, h8, h2, hl2, Int.ofNat_lt, Int.natCast_nonneg], by simp -implicitDefEqProofs only [go_sem, List.length_map, bools_len, h8, h2, hl2, Int.ofNat_lt, Int.natCast_nonneg], by simp -implicitDefEqProofs only [go_sem, List.length_map, bools_len, h8, h2, hl2, Int.ofNat_lt, Int.natCast_nonneg]; rfl, by simp -implicitDefEqProofs only [go_sem, List.length_map, bools_len, h8, h2, hl2, Int.ofNat_lt, Int.natCast_nonneg]; rfl, by simp -implicitDefEqProofs only [go_sem, List.length_map, bools_len, h8, h2, hl2, Int.ofNat_lt, Int.natCast_nonneg]; rfl⟩ ?_
  rintro m f h' ⟨k, hm, rfl, f0, f1, f2, f8, f9, f10⟩
  skip
  by_cases hk : k < w.length
  · have e4 := hl3 k _ (bools_get L hk)
    by_cases hkl : k ∈ L
    rotate_left
    · have s1 := fstI_no (p := fun i => decide (i ∈ L) && freeB w L st i) (k := k) (by simp [hkl])
      have s2 := fstI_no (p := fun i => decide (i ∈ L)) (k := k) (by simp [hkl])
      simp -implicitDefEqProofs only [go_sem, hk, e4, hkl, wrap_i64 (show -(9223372036854775808 : Int) ≤ ((k : Int) + 1) by omega) (show ((k : Int) + 1) < 9223372036854775808 by omega), List.length_map, bools_len, h8, h2, hl2, Int.ofNat_lt, Int.natCast_nonneg, f0, f1, f2, f8, f9, f10]
      exact ⟨m - 1, by omega, h', Ext.refl _, k + 1, by omega, rfl, by rw [s1], by rw [s2], rfl⟩
    have s2 := fstI_if (p := fun i => decide (i ∈ L)) (k := k) (by simp [hkl])
    have s1 : fstI (fun i => decide (i ∈ L) && freeB w L st i) (k + 1) = if fstI (fun i => decide (i ∈ L) && freeB w L st i) k < 0 then (if freeB w L st k then (k : Int) else -1) else fstI (fun i => decide (i ∈ L) && freeB w L st i) k := by
      have := fstI_succ (fun i => decide (i ∈ L) && freeB w L st i) k
      simpa [hkl] using this
    generalize hq1 : fstI (fun i => decide (i ∈ L) && freeB w L st i) k = q1 at *
    generalize hq2 : fstI (fun i => decide (i ∈ L)) k = q2 at *
    by_cases c2 : q2 < 0
    all_goals
      by_cases c1 : q1 < 0
      · simp -implicitDefEqProofs only [go_sem, hk, e4, hkl, c2, c1, List.length_map, bools_len, h8, h2, hl2, Int.ofNat_lt, Int.natCast_nonneg, f0, f1, f2, f8, f9, f10]
        refine (l11Blocked_pc hw' hl' hs hk hd hb hn).use ?_
        by_cases hf : freeB w L st k = true
        · simp -implicitDefEqProofs only [go_sem, hf, wrap_i64 (show -(9223372036854775808 : Int) ≤ ((k : Int) + 1) by omega) (show ((k : Int) + 1) < 9223372036854775808 by omega), List.length_map, bools_len, h8, h2, hl2, Int.ofNat_lt, Int.natCast_nonneg, f0, f1, f2, f8, f9, f10]
          exact ⟨m - 1, by omega, h', Ext.refl _, k + 1, by omega, rfl, by rw [s1]; simp [c1, hf], by rw [s2]; simp [c2], rfl⟩
        · have hf' : freeB w L st k = false := by simpa using hf
          have e1 : q1 = -1 := by have := fstI_ge (fun i => decide (i ∈ L) && freeB w L st i) k; omega
          simp -implicitDefEqProofs only [go_sem, hf', wrap_i64 (show -(9223372036854775808 : Int) ≤ ((k : Int) + 1) by omega) (show ((k : Int) + 1) < 9223372036854775808 by omega), List.length_map, bools_len, h8, h2, hl2, Int.ofNat_lt, Int.natCast_nonneg, f0, f1, f2, f8, f9, f10]
          exact ⟨m - 1, by omega, h', Ext.refl _, k + 1, by omega, rfl, by rw [s1]; simp [c1, hf', e1], by rw [s2]; simp [c2], rfl⟩
      · simp -implicitDefEqProofs only [go_sem, hk, e4, hkl, c2, c1, wrap_i64 (show -(9223372036854775808 : Int) ≤ ((k : Int) + 1) by omega) (show ((k : Int) + 1) < 9223372036854775808 by omega), List.length_map, bools_len, h8, h2, hl2, Int.ofNat_lt, Int.natCast_nonneg, f0, f1, f2, f8, f9, f10]
        exact ⟨m - 1, by omega, h', Ext.refl _, k + 1, by omega, rfl, by rw [s1]; simp [c1], by rw [s2]; simp [c2], rfl⟩
  · have e : k = w.length := by omega
    subst e
    simp -implicitDefEqProofs only [go_sem, Nat.lt_irrefl, List.length_map, bools_len, h8, h2, hl2, Int.ofNat_lt, Int.natCast_nonneg, f0, f1, f2, f8, f9, f10]
end Go.Proofs.YtdofcojbjcpikaaGreatDoor
