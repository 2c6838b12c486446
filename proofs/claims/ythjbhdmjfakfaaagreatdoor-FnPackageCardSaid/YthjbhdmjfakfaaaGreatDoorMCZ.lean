/- A helper of this seat's claims (contracts of the functions): what it shows is shown for every input that its statements name, on no other condition. -/
import Derived.Test.YthjbhdmjfakfaaaGreatDoorMK30
import Derived.Test.YthjbhdmjfakfaaaGreatDoorCXa
import Derived.Test.YthjbhdmjfakfaaaGreatDoorC10s
import Derived.Test.YthjbhdmjfakfaaaGreatDoorC07m
set_option linter.unusedVariables false
set_option linter.unusedSimpArgs false
set_option maxRecDepth 100000
namespace Go.Proofs.YthjbhdmjfakfaaaGreatDoor
open Go.KH Go.RowKit

/-! ## strings.Join, Repeat, Count -/
theorem join_nosep : ∀ l : List (List UInt8), Lib.join l [] = l.flatten
  | [] => rfl
  | x :: l => by
    rw [Lib.join_cons, List.flatten_cons]
    congr 1
    unfold Lib.joinTail
    simp
theorem join_pc {h : H} {v : Value} {l : List (List UInt8)} (hv : Sl h v 1 (strs l)) (hb : l.flatten.length ≤ 1099511627776) (hl : l.length ≤ 1099511627776) : PC Tryz.prog 88 [v, str []] h (str l.flatten) := by
  refine PC_calls Tryz.func88 (by kernel_rfl) (by kernel_rfl) fun w0 w r => ?_
  rcases hv.texts with ⟨a, c, rfl, rfl⟩ | ⟨b, o, c, rfl, hc, hpos, hcells⟩
  · exact (Tryz.strings_Join_none a c ⟨#[]⟩ w).mono fun e w' ⟨he, hw⟩ => ⟨he, below_same hw⟩
  · obtain ⟨q1, q2⟩ := hcells r
    have hmap : (l.map fun x => (⟨x.toArray⟩ : ByteArray)).map (·.data.toList) = l := by rw [List.map_map]; simp [Function.comp_def]
    have hlen : (l.map fun x => (⟨x.toArray⟩ : ByteArray)).length = l.length := by simp
    have := Tryz.strings_Join b o c (l.map fun x => (⟨x.toArray⟩ : ByteArray)) ⟨#[]⟩ w q2 q1 (by rw [hlen]; omega) (by rw [hlen]; exact hc) (by
      rw [hmap, show (ByteArray.mk #[]).data.toList = [] from rfl, join_nosep]; omega)
    rw [hlen, hmap, show (ByteArray.mk #[]).data.toList = [] from rfl, join_nosep] at this
    exact this
theorem repeatL_rep (b : UInt8) : ∀ n, Lib.repeatL [b] n = List.replicate n b
  | 0 => rfl
  | n + 1 => by rw [Lib.repeatL, repeatL_rep b n, List.replicate_succ]; rfl
theorem repeat_pc (h : H) (b : UInt8) (n : Nat) (hn : n ≤ 1000000) : PC Tryz.prog 172 [str [b], i64 n] h (str (List.replicate n b)) := by
  refine PC_calls Tryz.func172 (by kernel_rfl) (by kernel_rfl) fun w0 w r => ?_
  have := Tryz.strings_Repeat ⟨#[b]⟩ n w (by omega) (by show 1 * n ≤ _; omega)
  refine this.mono fun e w' ⟨he, hw⟩ => ⟨?_, hw⟩
  rw [he, show (ByteArray.mk #[b]).data.toList = [b] from rfl, repeatL_rep]
  rfl
theorem count_pc (h : H) (t : List UInt8) (c : UInt8) : PC Tryz.prog 92 [str t, str [c]] h (i64 (t.count c)) := by
  refine PC_calls Tryz.func92 (by kernel_rfl) (by kernel_rfl) fun w0 w r => ?_
  have := Tryz.strings_Count_one ⟨t.toArray⟩ c w
  refine this.mono fun e w' ⟨he, hw⟩ => ⟨?_, below_same hw⟩
  rw [he]
  rfl
end Go.Proofs.YthjbhdmjfakfaaaGreatDoor

set_option linter.unusedVariables false
set_option linter.unusedSimpArgs false
set_option maxRecDepth 100000
namespace Go.Proofs.YthjbhdmjfakfaaaGreatDoor
open Go.KH

/-! ## Steps from one image to another: the parts -/
/-- Two blocks that differ in two bytes at most. -/
def nearP (y : List UInt8) : List UInt8 → Bool := fun x => decide (6 ≤ (xorB x y).count 0)
def isP (y : List UInt8) : List UInt8 → Bool := fun x => decide (y = x)
def stepFor (old : List (List UInt8)) (d : Nat) (b : List UInt8) : UStep :=
  if b = zero8 then ⟨1, d, 0, []⟩
  else if 0 ≤ firstAt (isP b) old then ⟨3, d, firstAt (isP b) old, []⟩
  else if 0 ≤ firstAt (nearP b) old then ⟨4, d, firstAt (nearP b) old, xorB (at8 old (firstAt (nearP b) old)) b⟩
  else ⟨2, d, 0, b⟩
def stepsTo (old fresh : List (List UInt8)) (k : Nat) : List UStep := (List.range k).filterMap fun i => if old[i]? = fresh[i]? then none else some (stepFor old i (fresh.getD i []))
theorem stepsTo_same {old fresh : List (List UInt8)} {k : Nat} (h : old[k]? = fresh[k]?) : stepsTo old fresh (k + 1) = stepsTo old fresh k := by
  simp [stepsTo, List.range_succ, h]
theorem stepsTo_new {old fresh : List (List UInt8)} {k : Nat} (h : ¬ old[k]? = fresh[k]?) : stepsTo old fresh (k + 1) = stepsTo old fresh k ++ [stepFor old k (fresh.getD k [])] := by
  simp [stepsTo, List.range_succ, h]
theorem stepsTo_len (old fresh : List (List UInt8)) (k : Nat) : (stepsTo old fresh k).length ≤ k := by
  unfold stepsTo
  exact Nat.le_trans (List.length_filterMap_le ..) (by simp)
/-- In how many of the first k bytes two blocks differ. -/
def diffTo (a b : List UInt8) (k : Nat) : Nat := ((List.range k).filter fun i => !decide (a[i]? = b[i]?)).length
theorem diffTo_succ (a b : List UInt8) (k : Nat) : diffTo a b (k + 1) = diffTo a b k + if a[k]? = b[k]? then 0 else 1 := by
  unfold diffTo
  rw [List.range_succ, List.filter_append, List.length_append]
  congr 1
  by_cases h : a[k]? = b[k]? <;> simp [h]
theorem diffTo_le (a b : List UInt8) (k : Nat) : diffTo a b k ≤ k := by
  unfold diffTo
  exact Nat.le_trans (List.length_filter_le ..) (by simp)
theorem diff_xor : ∀ {a b : List UInt8} {n : Nat}, a.length = n → b.length = n → diffTo a b n + (xorB a b).count 0 = n
  | [], [], 0, _, _ => rfl
  | x :: a, y :: b, n + 1, ha, hb => by
    have ih := diff_xor (a := a) (b := b) (n := n) (by simpa using ha) (by simpa using hb)
    have e : diffTo (x :: a) (y :: b) (n + 1) = (if x = y then 0 else 1) + diffTo a b n := by
      unfold diffTo
      rw [List.range_succ_eq_map, List.filter_cons, List.filter_map, ]
      by_cases h : x = y
      · simp [h, Function.comp_def]
      · simp [h, Function.comp_def]; omega
    have hx : (x ^^^ y = 0) ↔ x = y := by
      constructor
      · intro h
        have : x.toBitVec ^^^ y.toBitVec = 0 := by
          have := congrArg UInt8.toBitVec h
          simpa using this
        exact UInt8.toBitVec_inj.1 (by simpa [BitVec.xor_eq_zero_iff] using this)
      · rintro rfl; simp
    have e2 : (xorB (x :: a) (y :: b)).count 0 = (if x = y then 1 else 0) + (xorB a b).count 0 := by
      show ((x ^^^ y) :: xorB a b).count 0 = _
      rw [List.count_cons]
      by_cases h : x = y
      · simp [h]; omega
      · have : ¬ (x ^^^ y = 0) := fun q => h (hx.1 q)
        simp [h, this]
    rw [e, e2]
    split <;> omega
/-- impl.stepsFor$1 -/
def b_impl_stepsFor_1 : C := (.seq (.ops [q 3 (.mv (.c (.bool false)))])
 (.seq (.ops [q 4 (.mv (.t 0)), q 5 (.ld false 1 (.t 1)), ⟨(some 6), none, .call (.c (.func (.func 93) #[] #[])) [(.t 4), (.t 5)]⟩, ⟨(some 7), none, .call (.c (.func (.func 92) #[] #[])) [(.t 6), (.c (str [0]))]⟩, q 8 (.bin .geq (.t 7) (.c (i64 6))), q 3 (.mv (.t 8))])
 .ret))
theorem w_impl_stepsFor_1 {args : List Value} {h : H} {Q : Value → H → Prop} (hl : args.length ≤ 9) (hk : wpc Tryz.prog b_impl_stepsFor_1 (retw [.tmp 3] Q) (argsFr args) h) : AC Tryz.prog 91 args h Q :=
  AC.of_wpc mixedOrders Tryz.func91 (by kernel_rfl) (by kernel_rfl : prepF Tryz.prog Tryz.f91 = some ⟨9, [.tmp 3], b_impl_stepsFor_1⟩) hl hk

theorem stepsFor1_pc {h : H} {b : Nat} {x y : List UInt8} (hb : ldc h b 0 1 = some [str y]) (hx : x.length = 8) (hy : y.length = 8) : PC Tryz.prog 91 [str x, ptr b 0] h (.bool (nearP y x)) := by
  refine PC_of ?_
  refine w_impl_stepsFor_1 (by simp) ?_
  unfold b_impl_stepsFor_1
  simp -implicitDefEqProofs only [go_sem, hb]
  refine (xored_pc h hx hy).use ?_
  simp -implicitDefEqProofs only [go_sem]
  refine (count_pc h (xorB x y) 0).use ?_
  simp -implicitDefEqProofs only [go_sem]
  exact ⟨Ext.refl _, bool_eq (by omega)⟩
/-- slices.Index[[]string,string] -/
def b_slices_Index_string_string : C := (.seq (.ops [q 4 (.mv (.c (i64 0)))])
 (.seq (.seq (.ops [q 6 (.mv (.t 0)), q 7 (.len (.t 6)), q 8 (.mv (.c (i64 0)))])
 (.block 0 (.loop (.seq (.ops [q 9 (.bin .lss (.t 8) (.t 7))])
 (.seq (.cond (.t 9) .skip (.exit 0))
 (.seq (.block 1 (.seq (.ops [q 10 (.mv (.t 8)), q 5 (.mv (.t 10))])
 (.seq (.ops [q 11 (.mv (.t 1)), q 12 (.mv (.t 0)), q 13 (.mv (.t 5)), q 14 (.idx 1 (.t 12) (.t 13)), q 15 (.ld false 1 (.t 14)), q 16 (.bin .eql (.t 11) (.t 15))])
 (.cond (.t 16) (.seq (.ops [q 17 (.mv (.t 5)), q 4 (.mv (.t 17))])
 .ret) .skip))))
 (.ops [q 18 (.bin .add (.t 8) (.c (i64 1))), q 8 (.mv (.t 18))])))))))
 (.seq (.ops [q 4 (.mv (.c (i64 (-1))))])
 .ret)))
theorem w_slices_Index_string_string {args : List Value} {h : H} {Q : Value → H → Prop} (hl : args.length ≤ 19) (hk : wpc Tryz.prog b_slices_Index_string_string (retw [.tmp 4] Q) (argsFr args) h) : AC Tryz.prog 89 args h Q :=
  AC.of_wpc mixedOrders Tryz.func89 (by kernel_rfl) (by kernel_rfl : prepF Tryz.prog Tryz.f89 = some ⟨19, [.tmp 4], b_slices_Index_string_string⟩) hl hk

theorem indexOf_pc {h : H} {v : Value} {l : List (List UInt8)} {y : List UInt8} (hv : Sl h v 1 (strs l)) (hn : l.length ≤ 1048576) : PC Tryz.prog 89 [v, str y] h (i64 (firstAt (isP y) l)) := by
  obtain ⟨a, c, b, o, rfl, hcap, h2, h3⟩ := hv
  simp only [List.length_map] at h2
  refine PC_of ?_
  refine w_slices_Index_string_string (by simp) ?_
  unfold b_slices_Index_string_string
  simp -implicitDefEqProofs only [go_sem, List.length_map]
  refine loopW_of (fun m f h' => ∃ k, m + k = l.length ∧ h' = h ∧ f 0 = .slice a l.length c ∧ f 1 = str y ∧ f 7 = i64 l.length ∧ f 8 = i64 k ∧ ∀ i, (hi : i < l.length) → i < k → isP y l[i] = false) l.length
    ⟨0, by simp, rfl, by simp -implicitDefEqProofs only [go_sem, List.length_map], by simp -implicitDefEqProofs only [go_sem], by simp -implicitDefEqProofs only [go_sem], by simp -implicitDefEqProofs only [go_sem]; rfl, by omega⟩ ?_
  rintro m f h' ⟨k, hm, rfl, f0, f1, f7, f8, hno⟩
  skip
  by_cases hk : k < l.length
  · have e1 := h3 k [str l[k]] (by simp [hk])
    by_cases h4 : y = l[k]
    · have hq := firstAt_some (p := isP y) hk (by simp [isP, h4]) (fun i hi => hno i (by omega) hi)
      simp -implicitDefEqProofs only [go_sem, hk, e1, decide_eq_true h4, f0, f1, f7, f8, h2, Int.ofNat_lt, Int.natCast_nonneg]
      exact ⟨Ext.refl _, by rw [hq]⟩
    · simp -implicitDefEqProofs only [go_sem, hk, e1, decide_eq_false h4, wrap_i64 (show -(9223372036854775808 : Int) ≤ ((k : Int) + 1) by omega) (show ((k : Int) + 1) < 9223372036854775808 by omega), f0, f1, f7, f8, h2, Int.ofNat_lt, Int.natCast_nonneg]
      refine ⟨m - 1, by omega, _, Ext.refl _, k + 1, by omega, rfl, rfl, fun i hi1 hi2 => ?_⟩
      by_cases e : i = k
      · subst e; exact decide_eq_false h4
      · exact hno i hi1 (by omega)
  · have e : k = l.length := by omega
    subst e
    have hq := firstAt_none (fun i hi => hno i hi hi)
    simp -implicitDefEqProofs only [go_sem, Nat.lt_irrefl, f0, f1, f7, f8, h2, Int.ofNat_lt, Int.natCast_nonneg]
    exact ⟨Ext.refl _, by rw [hq]⟩
/-- spec.l07Other -/
def b_spec_l07Other : C := (.seq (.ops [q 4 (.mv (.c (i64 0)))])
 (.seq (.ops [q 5 (.mv (.c (i64 0)))])
 (.seq (.seq (.ops [q 6 (.mv (.c (i64 0)))])
 (.block 0 (.loop (.seq (.seq (.ops [q 7 (.mv (.t 6)), q 8 (.bin .lss (.t 7) (.c (i64 8)))])
 (.cond (.t 8) .skip (.exit 0)))
 (.seq (.block 1 (.seq (.dops false (.tk (q 11 (.mv (.t 0))) (.tk (q 12 (.mv (.t 6))) (.tk (q 13 (.sidx (.t 11) (.t 12))) (.tk (q 14 (.mv (.t 1))) (.tk (q 15 (.mv (.t 6))) (.tk (q 16 (.sidx (.t 14) (.t 15))) (.tk (q 17 (.bin .neq (.t 13) (.t 16))) .nil))))))))
 (.cond (.t 17) (.ops [q 18 (.mv (.t 5)), q 19 (.bin .add (.t 18) (.c (i64 1))), q 5 (.mv (.t 19))]) .skip)))
 (.ops [q 9 (.mv (.t 6)), q 10 (.bin .add (.t 9) (.c (i64 1))), q 6 (.mv (.t 10))]))))))
 (.seq (.ops [q 20 (.mv (.t 5)), q 4 (.mv (.t 20))])
 .ret))))
theorem w_spec_l07Other {args : List Value} {h : H} {Q : Value → H → Prop} (hl : args.length ≤ 21) (hk : wpc Tryz.prog b_spec_l07Other (retw [.tmp 4] Q) (argsFr args) h) : AC Tryz.prog 189 args h Q :=
  AC.of_wpc mixedOrders Tryz.func189 (by kernel_rfl) (by kernel_rfl : prepF Tryz.prog Tryz.f189 = some ⟨21, [.tmp 4], b_spec_l07Other⟩) hl hk

theorem other_pc {h : H} {x y : List UInt8} (hx : x.length = 8) (hy : y.length = 8) : PC Tryz.prog 189 [str x, str y] h (i64 ((8 - (xorB x y).count 0 : Nat))) := by
  have hd := diff_xor hx hy
  refine PC_of ?_
  refine w_spec_l07Other (by simp) ?_
  unfold b_spec_l07Other
  simp -implicitDefEqProofs only [go_sem]
  refine loopW_of (fun m f h' => ∃ k, m + k = 8 ∧ h' = h ∧ f 0 = str x ∧ f 1 = str y ∧ f 5 = i64 (diffTo x y k) ∧ f 6 = i64 k) 8
    ⟨0, by simp, rfl, by simp -implicitDefEqProofs only [go_sem], by simp -implicitDefEqProofs only [go_sem], by simp -implicitDefEqProofs only [go_sem]; rfl, by simp -implicitDefEqProofs only [go_sem]; rfl⟩ ?_
  rintro m f h' ⟨k, hm, rfl, f0, f1, f5, f6⟩
  skip
  by_cases hk : k < 8
  · have e1 : x[k]? = some (x[k]'(by omega)) := List.getElem?_eq_getElem _
    have e2 : y[k]? = some (y[k]'(by omega)) := List.getElem?_eq_getElem _
    have hs := diffTo_succ x y k
    have hle := diffTo_le x y k
    rw [e1, e2] at hs
    generalize x[k]'(by omega) = p at *
    generalize y[k]'(by omega) = q at *
    by_cases h4 : p = q
    · subst h4
      simp -implicitDefEqProofs only [go_sem, show (k : Int) < 8 by omega, Int.toNat_natCast, e1, e2, wrap_i64 (show -(9223372036854775808 : Int) ≤ ((k : Int) + 1) by omega) (show ((k : Int) + 1) < 9223372036854775808 by omega), f0, f1, f5, f6, Int.natCast_nonneg]
      exact ⟨m - 1, by omega, _, Ext.refl _, k + 1, by omega, rfl, by rw [hs, if_pos rfl, Nat.add_zero], rfl⟩
    · have h5 : ¬ ((p.toNat : Int) = q.toNat) := fun e => h4 (UInt8.toNat_inj.1 (by omega))
      simp -implicitDefEqProofs only [go_sem, show (k : Int) < 8 by omega, Int.toNat_natCast, e1, e2, h5, wrap_i64 (show -(9223372036854775808 : Int) ≤ ((k : Int) + 1) by omega) (show ((k : Int) + 1) < 9223372036854775808 by omega), wrap_i64 (show -(9223372036854775808 : Int) ≤ ((diffTo x y k : Int) + 1) by omega) (show ((diffTo x y k : Int) + 1) < 9223372036854775808 by omega), f0, f1, f5, f6, Int.natCast_nonneg]
      exact ⟨m - 1, by omega, _, Ext.refl _, k + 1, by omega, rfl, by rw [hs, if_neg (fun e => h4 (Option.some.inj e))]; rfl, rfl⟩
  · obtain rfl : k = 8 := by omega
    simp -implicitDefEqProofs only [go_sem, show ¬ (((8 : Nat) : Int) < 8) by omega, f0, f1, f5, f6, Int.natCast_nonneg]
    exact ⟨Ext.refl _, by rw [show diffTo x y 8 = 8 - (xorB x y).count 0 by omega]⟩
end Go.Proofs.YthjbhdmjfakfaaaGreatDoor
