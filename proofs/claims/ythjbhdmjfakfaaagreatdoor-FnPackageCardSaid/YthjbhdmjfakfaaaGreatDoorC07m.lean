/- A helper of this seat's claims (contracts of the functions): what it shows is shown for every input that its statements name, on no other condition. -/
import Derived.Test.YthjbhdmjfakfaaaGreatDoorC07
import Derived.Test.YthjbhdmjfakfaaaGreatDoorC06c
import Derived.Test.YthjbhdmjfakfaaaGreatDoorKD
set_option linter.unusedVariables false
set_option linter.unusedSimpArgs false
set_option maxRecDepth 100000
namespace Go.Proofs.YthjbhdmjfakfaaaGreatDoor
open Go.KH

/-! ## What a step makes -/
theorem bys_flat : ∀ l : List UInt8, (bys l).flatten = u8s l
  | [] => rfl
  | b :: l => by
    have := bys_flat l
    simp only [bys, u8s] at this
    simp only [bys, u8s, List.map_cons, List.flatten_cons, this]
    rfl
theorem bytesOf_u8s (l : List UInt8) : bytesOf (u8s l) = some l := by rw [← bys_flat, bytesOf_bys]
theorem own_u8s {h0 h : H} {b c : Nat} {l : List UInt8} (hb : h.base ≤ b) (hn : h0.get b = none) (hg : h.get b = some ⟨u8s l, c⟩) (hc : l.length ≤ c) : Own h0 h (sl b 0 l.length c) 1 (bys l) :=
  .inr ⟨b, c, c, by rw [List.length_map], by rw [List.length_map]; exact hc, hb, hn, by rw [hg, bys_flat], by omega, Wid.map fun _ => rfl⟩
/-- impl.xored -/
def b_impl_xored : C := (.seq (.ops [q 4 (.mv (.c (str [])))])
 (.seq (.ops [q 7 (.mv (.t 0)), ⟨(some 8), none, .s2b (.t 7)⟩, q 5 (.mv (.t 8))])
 (.seq (.seq (.ops [q 9 (.mv (.t 5)), q 10 (.len (.t 9)), q 11 (.mv (.c (i64 0)))])
 (.block 0 (.loop (.seq (.ops [q 12 (.bin .lss (.t 11) (.t 10))])
 (.seq (.cond (.t 12) .skip (.exit 0))
 (.seq (.block 1 (.seq (.ops [q 13 (.mv (.t 11)), q 6 (.mv (.t 13))])
 (.dops true (.tk (q 14 (.mv (.t 5))) (.tk (q 15 (.mv (.t 6))) (.tk (q 16 (.idx 1 (.t 14) (.t 15))) (.tk (q 17 (.ld false 1 (.t 16))) (.tk (q 18 (.mv (.t 1))) (.tk (q 19 (.mv (.t 6))) (.tk (q 20 (.sidx (.t 18) (.t 19))) (.tk (q 21 (.bin .xor (.t 17) (.t 20))) (.tk (q 22 (.idx 1 (.t 14) (.t 15))) (.lt (⟨none, none, .st 1 (.t 22) (.t 21)⟩) .nil)))))))))))))
 (.ops [q 23 (.bin .add (.t 11) (.c (i64 1))), q 11 (.mv (.t 23))])))))))
 (.seq (.ops [q 24 (.mv (.t 5)), q 25 (.b2s (.t 24)), q 4 (.mv (.t 25))])
 .ret))))
theorem w_impl_xored {args : List Value} {h : H} {Q : Value → H → Prop} (hl : args.length ≤ 26) (hk : wpc Tryz.prog b_impl_xored (retw [.tmp 4] Q) (argsFr args) h) : AC Tryz.prog 93 args h Q :=
  AC.of_wpc mixedOrders Tryz.func93 (by kernel_rfl) (by kernel_rfl : prepF Tryz.prog Tryz.f93 = some ⟨26, [.tmp 4], b_impl_xored⟩) hl hk

theorem xored_pc (h : H) {x y : List UInt8} (hx : x.length = 8) (hy : y.length = 8) : PC Tryz.prog 93 [str x, str y] h (str (xorB x y)) := by
  refine PC_of ?_
  refine w_impl_xored (by simp) ?_
  unfold b_impl_xored
  simp -implicitDefEqProofs only [go_sem]
  intro b8 hb8 n8 c hc
  simp -implicitDefEqProofs only [go_sem]
  refine loopW_of (fun m f h' => ∃ k, m + k = 8 ∧ Ext h h' ∧ h'.get b8 = some ⟨u8s (xorP x y k), c⟩ ∧ f 1 = str y ∧ f 5 = sl b8 0 8 c ∧ f 10 = i64 8 ∧ f 11 = i64 k) 8
    ⟨0, by simp, (Ext.refl _).set n8 _, by rw [xorP_0, H.set_get_same], by simp -implicitDefEqProofs only [go_sem], by rw [← hx]; simp -implicitDefEqProofs only [go_sem], by simp -implicitDefEqProofs only [go_sem]; rw [hx]; rfl, by simp -implicitDefEqProofs only [go_sem]; rfl⟩ ?_
  rintro m f h' ⟨k, hm, he, hg, f1, f5, f10, f11⟩
  have hb1 := he.1
  skip
  by_cases hk : k < 8
  · have hl := xorP_len hx hy (show k ≤ 8 by omega)
    have e1 := xorP_get hx hy hk
    have e2 : y[k]? = some (y[k]'(by omega)) := List.getElem?_eq_getElem _
    have e3 : ldc h' b8 (k * 1) 1 = some [.int .u8 ((x[k]'(by omega)).toNat : Int)] := by
      rw [ldc_get hg, if_pos (by simp [u8s, hl]; omega)]
      congr 1
      obtain ⟨h1, h2⟩ := List.getElem?_eq_some_iff.1 e1
      rw [Nat.mul_one, List.drop_eq_getElem_cons (by simpa [u8s] using h1)]
      simp [u8s, h2]
    have e4 : ∀ z : UInt8, stc h' b8 (k * 1) [.int .u8 (z.toNat : Int)] 1 = some (h'.set b8 ⟨u8s ((xorP x y k).set k z), c⟩) := by
      intro z
      rw [stc_get hg, if_pos ⟨rfl, by simp [u8s, hl]; omega, rfl⟩, u8s, Nat.mul_one, splice_set (fun b : UInt8 => (.int .u8 b.toNat : Value)) _ _ _ (by omega)]
      rfl
    have e5 := xor_u8 (x[k]'(by omega)) (y[k]'(by omega))
    simp -implicitDefEqProofs only [go_sem, hk, show ((k : Int) < 8) by omega, e3, e2, e5, e4, xorP_succ hx hy hk, wrap_i64 (show -(9223372036854775808 : Int) ≤ ((k : Int) + 1) by omega) (show ((k : Int) + 1) < 9223372036854775808 by omega), f1, f5, f10, f11, Int.ofNat_lt, Int.natCast_nonneg, hb8, hb1]
    exact ⟨m - 1, by omega, _, Ext.refl _, k + 1, by omega, he.set' n8 _, H.set_get_same _ _ _, rfl⟩
  · have e : k = 8 := by omega
    subst e
    rw [xorP_8 hx hy] at hg
    have hlb : (xorB x y).length = 8 := by rw [xorB_len (by omega), hx]
    have e6 : (u8s (xorB x y)).length = 8 := by simp [u8s, hlb]
    simp -implicitDefEqProofs only [go_sem, show ¬ (((8 : Nat) : Int) < 8) by omega, Nat.lt_irrefl, ldc_get hg, e6, take_len e6, bytesOf_u8s, f1, f5, f10, f11, Int.ofNat_lt, Int.natCast_nonneg, hb8, hb1]
    exact he
/-- spec.Xored -/
def b_spec_Xored : C := (.seq (.ops [q 4 (.mv (.c (str [])))])
 (.seq (.seq (.ops [q 7 (.mv (.t 0)), q 8 (.slen (.t 7)), q 9 (.bin .neq (.t 8) (.c (i64 8))), q 10 (.mv (.t 9)), qg 11 10 false (.mv (.t 1)), qg 12 10 false (.slen (.t 11)), qg 13 10 false (.bin .neq (.t 12) (.c (i64 8))), q 14 (.pick (.t 10) (.c (.bool true)) (.t 13))])
 (.cond (.t 14) (.seq (.ops [q 4 (.mv (.c (str [])))])
 .ret) .skip))
 (.seq (.ops [⟨(some 15), none, .mks 1 1 [(u8 0)] (.c (i64 8)) (.c (i64 8))⟩, q 5 (.mv (.t 15))])
 (.seq (.seq (.ops [q 6 (.mv (.c (i64 0)))])
 (.block 0 (.loop (.seq (.seq (.ops [q 16 (.mv (.t 6)), q 17 (.bin .lss (.t 16) (.c (i64 8)))])
 (.cond (.t 17) .skip (.exit 0)))
 (.seq (.block 1 (.dops false (.tk (q 20 (.mv (.t 5))) (.tk (q 21 (.mv (.t 6))) (.tk (q 22 (.mv (.t 0))) (.tk (q 23 (.mv (.t 6))) (.tk (q 24 (.sidx (.t 22) (.t 23))) (.tk (q 25 (.mv (.t 1))) (.tk (q 26 (.mv (.t 6))) (.tk (q 27 (.sidx (.t 25) (.t 26))) (.tk (q 28 (.bin .xor (.t 24) (.t 27))) (.tk (q 29 (.idx 1 (.t 20) (.t 21))) (.lt (⟨none, none, .st 1 (.t 29) (.t 28)⟩) .nil)))))))))))))
 (.ops [q 18 (.mv (.t 6)), q 19 (.bin .add (.t 18) (.c (i64 1))), q 6 (.mv (.t 19))]))))))
 (.seq (.ops [q 30 (.mv (.t 5)), q 31 (.b2s (.t 30)), q 4 (.mv (.t 31))])
 .ret)))))
theorem w_spec_Xored {args : List Value} {h : H} {Q : Value → H → Prop} (hl : args.length ≤ 32) (hk : wpc Tryz.prog b_spec_Xored (retw [.tmp 4] Q) (argsFr args) h) : AC Tryz.prog 190 args h Q :=
  AC.of_wpc mixedOrders Tryz.func190 (by kernel_rfl) (by kernel_rfl : prepF Tryz.prog Tryz.f190 = some ⟨32, [.tmp 4], b_spec_Xored⟩) hl hk

theorem specXored_pc (h : H) {x y : List UInt8} (hx : x.length = 8) (hy : y.length = 8) : PC Tryz.prog 190 [str x, str y] h (str (xorB x y)) := by
  refine PC_of ?_
  refine w_spec_Xored (by simp) ?_
  unfold b_spec_Xored
  simp -implicitDefEqProofs only [go_sem]
  simp -implicitDefEqProofs only [go_sem, show ((x.length : Int) = 8) by omega, show ((y.length : Int) = 8) by omega]
  refine Req.of (by decide) ?_
  simp -implicitDefEqProofs only [go_sem, Int.reduceToNat]
  intro b8 hb8 n8
  simp -implicitDefEqProofs only [go_sem]
  refine loopW_of (fun m f h' => ∃ k, m + k = 8 ∧ Ext h h' ∧ h'.get b8 = some ⟨u8s ((xorB x y).take k ++ List.replicate (8 - k) 0), 8⟩ ∧ f 0 = str x ∧ f 1 = str y ∧ f 5 = sl b8 0 8 8 ∧ f 6 = i64 k) 8
    ⟨0, by simp, (Ext.refl _).set n8 _, by rw [H.set_get_same]; rfl, by simp -implicitDefEqProofs only [go_sem], by simp -implicitDefEqProofs only [go_sem], by simp -implicitDefEqProofs only [go_sem], by simp -implicitDefEqProofs only [go_sem]; rfl⟩ ?_
  rintro m f h' ⟨k, hm, he, hg, f0, f1, f5, f6⟩
  have hb1 := he.1
  have hlb : (xorB x y).length = 8 := by rw [xorB_len (by omega), hx]
  skip
  by_cases hk : k < 8
  · have hl : ((xorB x y).take k ++ List.replicate (8 - k) (0 : UInt8)).length = 8 := by simp [hlb]; omega
    have e1 : x[k]? = some (x[k]'(by omega)) := List.getElem?_eq_getElem _
    have e2 : y[k]? = some (y[k]'(by omega)) := List.getElem?_eq_getElem _
    have e7 : ((xorB x y).take k ++ List.replicate (8 - k) (0 : UInt8)).set k (x[k]'(by omega) ^^^ y[k]'(by omega)) = (xorB x y).take (k + 1) ++ List.replicate (8 - (k + 1)) 0 := by
      rw [List.set_append_right _ _ (by simp; omega), List.length_take, hlb, show k - min k 8 = 0 by omega, show 8 - k = (8 - (k + 1)) + 1 by omega, List.replicate_succ, List.set_cons_zero, List.take_succ_eq_append_getElem (by omega), List.append_assoc]
      simp [xorB]
    have e4 : ∀ z : UInt8, stc h' b8 (k * 1) [.int .u8 (z.toNat : Int)] 1 = some (h'.set b8 ⟨u8s (((xorB x y).take k ++ List.replicate (8 - k) (0 : UInt8)).set k z), 8⟩) := by
      intro z
      rw [stc_get hg, if_pos ⟨rfl, by simp only [u8s, List.length_map, hl]; omega, rfl⟩, u8s, Nat.mul_one, splice_set (fun b : UInt8 => (.int .u8 b.toNat : Value)) _ _ _ (by omega)]
      rfl
    have e5 := xor_u8 (x[k]'(by omega)) (y[k]'(by omega))
    simp -implicitDefEqProofs only [go_sem, hk, show ((k : Int) < 8) by omega, e1, e2, e5, e4, e7, wrap_i64 (show -(9223372036854775808 : Int) ≤ ((k : Int) + 1) by omega) (show ((k : Int) + 1) < 9223372036854775808 by omega), f0, f1, f5, f6, Int.ofNat_lt, Int.natCast_nonneg, hb8, hb1]
    exact ⟨m - 1, by omega, _, Ext.refl _, k + 1, by omega, he.set' n8 _, H.set_get_same _ _ _, rfl⟩
  · have e : k = 8 := by omega
    subst e
    have e7 : (xorB x y).take 8 ++ List.replicate (8 - 8) (0 : UInt8) = xorB x y := by rw [List.take_of_length_le (by omega)]; simp
    rw [e7] at hg
    have e6 : (u8s (xorB x y)).length = 8 := by simp [u8s, hlb]
    simp -implicitDefEqProofs only [go_sem, show ¬ (((8 : Nat) : Int) < 8) by omega, Nat.lt_irrefl, ldc_get hg, e6, take_len e6, bytesOf_u8s, f0, f1, f5, f6, Int.ofNat_lt, Int.natCast_nonneg, hb8, hb1]
    exact he
/-- spec.l07Zero -/
def b_spec_l07Zero : C := (.seq (.ops [q 0 (.mv (.c (str [])))])
 (.seq (.ops [⟨(some 1), none, .mks 1 1 [(u8 0)] (.c (i64 8)) (.c (i64 8))⟩, q 2 (.b2s (.t 1)), q 0 (.mv (.t 2))])
 .ret))
theorem w_spec_l07Zero {args : List Value} {h : H} {Q : Value → H → Prop} (hl : args.length ≤ 3) (hk : wpc Tryz.prog b_spec_l07Zero (retw [.tmp 0] Q) (argsFr args) h) : AC Tryz.prog 188 args h Q :=
  AC.of_wpc mixedOrders Tryz.func188 (by kernel_rfl) (by kernel_rfl : prepF Tryz.prog Tryz.f188 = some ⟨3, [.tmp 0], b_spec_l07Zero⟩) hl hk

theorem l07Zero_pc (h : H) : PC Tryz.prog 188 [] h (str zero8) := by
  refine PC_of ?_
  refine w_spec_l07Zero (by simp) ?_
  unfold b_spec_l07Zero
  simp -implicitDefEqProofs only [go_sem]
  refine Req.of (by decide) ?_
  simp -implicitDefEqProofs only [go_sem, Int.reduceToNat]
  intro b8 hb8 n8
  have e6 : (List.replicate 8 [Value.int .u8 0]).flatten = u8s zero8 := rfl
  have e7 : (u8s zero8).length = 8 := rfl
  simp -implicitDefEqProofs only [go_sem, e6, e7, take_len e7, bytesOf_u8s]
  exact (Ext.refl _).set n8 _
/-- A step whose block can be made. -/
def makeOk (s : UStep) (src : List UInt8) : Prop := (1 ≤ s.kind ∧ s.kind ≤ 4) ∧ (s.kind = 4 → s.data.length = 8 ∧ src.length = 8)
/-- impl.madeBy -/
def b_impl_madeBy : C := (.seq (.ops [⟨(some 2), none, .box (.t 0)⟩, q 4 (.mv (.c (str [])))])
 (.seq (.seq (.ops [q 5 (.fld 0 (.t 2)), q 6 (.ld false 1 (.t 5))])
 (.block 0 (.seq (.ops [q 8 (.bin .eql (.t 6) (.c (i64 1))), q 7 (.mv (.t 8))])
 (.cond (.t 7) (.seq (.ops [q 4 (.mv (.c (str [0, 0, 0, 0, 0, 0, 0, 0])))])
 .ret) (.seq (.ops [q 10 (.bin .eql (.t 6) (.c (i64 2))), q 9 (.mv (.t 10))])
 (.cond (.t 9) (.seq (.ops [q 11 (.fld 3 (.t 2)), q 12 (.ld false 1 (.t 11)), q 4 (.mv (.t 12))])
 .ret) (.seq (.ops [q 14 (.bin .eql (.t 6) (.c (i64 3))), q 13 (.mv (.t 14))])
 (.cond (.t 13) (.seq (.ops [q 15 (.mv (.t 1)), q 4 (.mv (.t 15))])
 .ret) .skip))))))))
 (.seq (.ops [q 16 (.mv (.t 1)), q 17 (.fld 3 (.t 2)), q 18 (.ld false 1 (.t 17)), ⟨(some 19), none, .call (.c (.func (.func 93) #[] #[])) [(.t 16), (.t 18)]⟩, q 4 (.mv (.t 19))])
 .ret)))
theorem w_impl_madeBy {args : List Value} {h : H} {Q : Value → H → Prop} (hl : args.length ≤ 20) (hk : wpc Tryz.prog b_impl_madeBy (retw [.tmp 4] Q) (argsFr args) h) : AC Tryz.prog 126 args h Q :=
  AC.of_wpc mixedOrders Tryz.func126 (by kernel_rfl) (by kernel_rfl : prepF Tryz.prog Tryz.f126 = some ⟨20, [.tmp 4], b_impl_madeBy⟩) hl hk

theorem madeBy_pc (h : H) (s : UStep) {src : List UInt8} (hk : makeOk s src) : PC Tryz.prog 126 [.agg s.cells.toArray, str src] h (str (makeB s src)) := by
  obtain ⟨kind, dst, sr, data⟩ := s
  obtain ⟨⟨k1, k2⟩, k4⟩ := hk
  simp only at k1 k2 k4
  refine PC_of ?_
  unfold makeB
  refine w_impl_madeBy (by simp) ?_
  unfold b_impl_madeBy
  simp -implicitDefEqProofs only [go_sem]
  intro b2 hb_b2 n_b2
  simp -implicitDefEqProofs only [go_sem, hb_b2]
  by_cases h1 : kind = 1
  · subst h1
    simp -implicitDefEqProofs only [go_sem, hb_b2]
    exact ⟨((Ext.refl _).set' n_b2 _), rfl⟩
  by_cases h2 : kind = 2
  · subst h2
    simp -implicitDefEqProofs only [go_sem, hb_b2]
    exact ((Ext.refl _).set' n_b2 _)
  by_cases h3 : kind = 3
  · subst h3
    simp -implicitDefEqProofs only [go_sem, hb_b2]
    exact ((Ext.refl _).set' n_b2 _)
  have h4 : kind = 4 := by omega
  subst h4
  simp -implicitDefEqProofs only [go_sem, hb_b2]
  refine (xored_pc _ (k4 rfl).2 (k4 rfl).1).use ?_
  simp -implicitDefEqProofs only [go_sem, hb_b2]
  exact ((Ext.refl _).set' n_b2 _)
/-- spec.l07Make -/
def b_spec_l07Make : C := (.seq (.ops [⟨(some 2), none, .box (.t 0)⟩, q 4 (.mv (.c (str [])))])
 (.seq (.seq (.ops [q 5 (.fld 0 (.t 2)), q 6 (.ld false 1 (.t 5))])
 (.block 0 (.seq (.ops [q 8 (.bin .eql (.t 6) (.c (i64 1))), q 7 (.mv (.t 8))])
 (.cond (.t 7) (.seq (.ops [⟨(some 9), none, .call (.c (.func (.func 188) #[] #[])) []⟩, q 4 (.mv (.t 9))])
 .ret) (.seq (.ops [q 11 (.bin .eql (.t 6) (.c (i64 2))), q 10 (.mv (.t 11))])
 (.cond (.t 10) (.seq (.ops [q 12 (.fld 3 (.t 2)), q 13 (.ld false 1 (.t 12)), q 4 (.mv (.t 13))])
 .ret) (.seq (.ops [q 15 (.bin .eql (.t 6) (.c (i64 3))), q 14 (.mv (.t 15))])
 (.cond (.t 14) (.seq (.ops [q 16 (.mv (.t 1)), q 4 (.mv (.t 16))])
 .ret) .skip))))))))
 (.seq (.ops [q 17 (.mv (.t 1)), q 18 (.fld 3 (.t 2)), q 19 (.ld false 1 (.t 18)), ⟨(some 20), none, .call (.c (.func (.func 190) #[] #[])) [(.t 17), (.t 19)]⟩, q 4 (.mv (.t 20))])
 .ret)))
theorem w_spec_l07Make {args : List Value} {h : H} {Q : Value → H → Prop} (hl : args.length ≤ 21) (hk : wpc Tryz.prog b_spec_l07Make (retw [.tmp 4] Q) (argsFr args) h) : AC Tryz.prog 117 args h Q :=
  AC.of_wpc mixedOrders Tryz.func117 (by kernel_rfl) (by kernel_rfl : prepF Tryz.prog Tryz.f117 = some ⟨21, [.tmp 4], b_spec_l07Make⟩) hl hk

theorem l07Make_pc (h : H) (s : UStep) {src : List UInt8} (hk : makeOk s src) : PC Tryz.prog 117 [.agg s.cells.toArray, str src] h (str (makeB s src)) := by
  obtain ⟨kind, dst, sr, data⟩ := s
  obtain ⟨⟨k1, k2⟩, k4⟩ := hk
  simp only at k1 k2 k4
  refine PC_of ?_
  unfold makeB
  refine w_spec_l07Make (by simp) ?_
  unfold b_spec_l07Make
  simp -implicitDefEqProofs only [go_sem]
  intro b2 hb_b2 n_b2
  simp -implicitDefEqProofs only [go_sem, hb_b2]
  by_cases h1 : kind = 1
  · subst h1
    simp -implicitDefEqProofs only [go_sem, hb_b2]
    refine (l07Zero_pc _).use ?_
    simp -implicitDefEqProofs only [go_sem, hb_b2]
    exact ((Ext.refl _).set' n_b2 _)
  by_cases h2 : kind = 2
  · subst h2
    simp -implicitDefEqProofs only [go_sem, hb_b2]
    exact ((Ext.refl _).set' n_b2 _)
  by_cases h3 : kind = 3
  · subst h3
    simp -implicitDefEqProofs only [go_sem, hb_b2]
    exact ((Ext.refl _).set' n_b2 _)
  have h4 : kind = 4 := by omega
  subst h4
  simp -implicitDefEqProofs only [go_sem, hb_b2]
  refine (specXored_pc _ (k4 rfl).2 (k4 rfl).1).use ?_
  simp -implicitDefEqProofs only [go_sem, hb_b2]
  exact ((Ext.refl _).set' n_b2 _)
end Go.Proofs.YthjbhdmjfakfaaaGreatDoor
