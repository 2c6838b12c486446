/- A helper of this seat's claims (contracts of the functions): what it shows is shown for every input that its statements name, on no other condition. -/
import Derived.Test.YtdofcojbjcpikaaGreatDoorCS
import Derived.Test.YtdofcojbjcpikaaGreatDoorKD
set_option linter.unusedVariables false
set_option linter.unusedSimpArgs false
set_option maxRecDepth 100000
namespace Go.Proofs.YtdofcojbjcpikaaGreatDoor
open Go.KH

/-! ## Marks of texts and steps -/
def dig (n : Nat) : List UInt8 := if n = 0 then [] else dig (n / 10) ++ [UInt8.ofNat (48 + n % 10)]
termination_by n
decreasing_by omega
theorem dig_pos {n : Nat} (h : 0 < n) : dig n = dig (n / 10) ++ [UInt8.ofNat (48 + n % 10)] := by rw [dig, if_neg (by omega)]
theorem dig_zero : dig 0 = [] := by rw [dig, if_pos rfl]
def markT (k : Int) : List UInt8 := [109] ++ dig k.toNat
theorem dig_len : ∀ (d n : Nat), n < 10 ^ d → (dig n).length ≤ d
  | 0, n, h => by
    have : n = 0 := by simpa using h
    subst this; rw [dig_zero]; simp
  | d + 1, n, h => by
    by_cases h0 : 0 < n
    · rw [dig_pos h0, List.length_append]
      have := dig_len d (n / 10) (by rw [Nat.pow_succ] at h; omega)
      simp only [List.length_cons, List.length_nil]; omega
    · have : n = 0 := by omega
      subst this; rw [dig_zero]; simp
/-- laws.markText -/
def b_laws_markText : C := (.seq (.ops [q 2 (.mv (.c (str [])))])
 (.seq (.seq (.ops [q 4 (.mv (.t 0)), q 5 (.bin .leq (.t 4) (.c (i64 0)))])
 (.cond (.t 5) (.seq (.ops [q 2 (.mv (.c (str [109, 48])))])
 .ret) .skip))
 (.seq (.ops [q 3 (.mv (.c (str [])))])
 (.seq (.block 0 (.loop (.seq (.seq (.ops [q 6 (.mv (.t 0)), q 7 (.bin .gtr (.t 6) (.c (i64 0)))])
 (.cond (.t 7) .skip (.exit 0)))
 (.block 1 (.seq (.ops [q 8 (.mv (.t 0)), q 9 (.bin .rem (.t 8) (.c (i64 10))), q 10 (.bin .add (.c (i64 48)) (.t 9)), q 11 (.cv .u8 (.t 10)), ⟨(some 12), none, .bsl 1 [(u8 0)] [(0, 1, (.t 11))]⟩, q 13 (.b2s (.t 12)), q 14 (.mv (.t 3)), q 15 (.bin .add (.t 13) (.t 14)), q 3 (.mv (.t 15))])
 (.ops [q 16 (.mv (.t 0)), q 17 (.bin .quo (.t 16) (.c (i64 10))), q 0 (.mv (.t 17))]))))))
 (.seq (.ops [q 18 (.mv (.t 3)), q 19 (.bin .add (.c (str [109])) (.t 18)), q 2 (.mv (.t 19))])
 .ret)))))
theorem w_laws_markText {args : List Value} {h : H} {Q : Value → H → Prop} (hl : args.length ≤ 20) (hk : wpc Tryz.prog b_laws_markText (retw [.tmp 2] Q) (argsFr args) h) : AC Tryz.prog 143 args h Q :=
  AC.of_wpc mixedOrders Tryz.func143 (by kernel_rfl) (by kernel_rfl : prepF Tryz.prog Tryz.f143 = some ⟨20, [.tmp 2], b_laws_markText⟩) hl hk

theorem markText_pc (h : H) (k : Int) (hk : 0 < k ∧ k ≤ 1099511627776) : PC Tryz.prog 143 [i64 k] h (str (markT k)) := by
  obtain ⟨n, rfl⟩ : ∃ n : Nat, k = n := ⟨k.toNat, by omega⟩
  have hlen := dig_len 13 n (by have : (10 : Nat) ^ 13 = 10000000000000 := by decide
                                omega)
  refine PC_of ?_
  refine w_laws_markText (by simp) ?_
  unfold b_laws_markText
  simp -implicitDefEqProofs only [go_sem]
  simp -implicitDefEqProofs only [go_sem, show ¬ ((n : Int) ≤ 0) by omega]
  refine loopW_of (fun m f h' => ∃ out, h' = h ∧ f 0 = i64 m ∧ f 3 = str out ∧ dig n = dig m ++ out ∧ m ≤ n) n ⟨[], rfl, by simp -implicitDefEqProofs only [go_sem], by simp -implicitDefEqProofs only [go_sem], by simp, Nat.le_refl _⟩ ?_
  rintro m f h' ⟨out, rfl, f0, f3, hd, hmn⟩
  skip
  by_cases hm : 0 < m
  · rw [dig_pos hm] at hd
    have tm : (m : Int).tmod 10 = ((m % 10 : Nat) : Int) := by rw [Int.tmod_eq_emod_of_nonneg (by omega)]; norm_cast
    have qu : IntKind.i64.wrap ((m : Int).tdiv 10) = ((m / 10 : Nat) : Int) := by rw [Int.tdiv_eq_ediv_of_nonneg (by omega), wrap_i64 (by omega) (by omega)]; norm_cast
    have ad : IntKind.i64.wrap (48 + ((m % 10 : Nat) : Int)) = ((48 + m % 10 : Nat) : Int) := by rw [wrap_i64 (by omega) (by omega)]; norm_cast
    have hl := congrArg List.length hd
    simp only [List.length_append, List.length_cons, List.length_nil] at hl
    simp -implicitDefEqProofs only [go_sem, show (0 : Int) < (m : Int) by omega, tm, ad, wrap_ofNat, f0, f3]
    intro b1 hb_b1 n_b1
    simp -implicitDefEqProofs only [go_sem, bytesOf_cons, bytesOf_nil, UInt8.ofNat_toNat, qu, f0, f3, hb_b1]
    refine Req.of (by omega) ?_
    simp -implicitDefEqProofs only [go_sem, qu, f0, f3, hb_b1]
    exact ⟨m / 10, by omega, _, (Ext.refl _).set n_b1 _, UInt8.ofNat (48 + m % 10) :: out, rfl, rfl, rfl, by rw [hd]; simp, by omega⟩
  · skip
    have e : m = 0 := by omega
    subst e
    rw [dig_zero] at hd
    simp -implicitDefEqProofs only [go_sem, Int.lt_irrefl, show ¬ ((0 : Int) < ((0 : Nat) : Int)) by omega, f0, f3]
    simp only [List.nil_append] at hd
    refine Req.of (by rw [← hd]; omega) ?_
    simp -implicitDefEqProofs only [go_sem, f0, f3]
    exact ⟨Ext.refl _, by unfold markT; rw [Int.toNat_natCast, hd]; rfl⟩
abbrev gStr (k : Int) : List Value := [str (markT k)]
abbrev gStep (k : Int) : List Value := [i64 k, i64 (k + 1), i64 (k + 2), str (markT (k + 3))]
/-- laws.markStringS -/
def b_laws_markStringS : C := (.seq (.ops [q 4 (.mv (.c (i64 0)))])
 (.seq (.seq (.ops [q 5 (.mv (.c (i64 0)))])
 (.block 0 (.loop (.seq (.seq (.ops [q 6 (.mv (.t 5)), q 7 (.mv (.t 0)), q 8 (.len (.t 7)), q 9 (.bin .lss (.t 6) (.t 8))])
 (.cond (.t 9) .skip (.exit 0)))
 (.seq (.block 1 (.seq (.ops [q 12 (.mv (.t 0)), q 13 (.mv (.t 5)), q 14 (.mv (.t 1)), ⟨(some 15), none, .call (.c (.func (.func 143) #[] #[])) [(.t 14)]⟩, q 16 (.idx 1 (.t 12) (.t 13)), ⟨none, none, .st 1 (.t 16) (.t 15)⟩])
 (.ops [q 17 (.mv (.t 1)), q 18 (.bin .add (.t 17) (.c (i64 1))), q 1 (.mv (.t 18))])))
 (.ops [q 10 (.mv (.t 5)), q 11 (.bin .add (.t 10) (.c (i64 1))), q 5 (.mv (.t 11))]))))))
 (.seq (.ops [q 19 (.mv (.t 1)), q 4 (.mv (.t 19))])
 .ret)))
theorem w_laws_markStringS {args : List Value} {h : H} {Q : Value → H → Prop} (hl : args.length ≤ 20) (hk : wpc Tryz.prog b_laws_markStringS (retw [.tmp 4] Q) (argsFr args) h) : AC Tryz.prog 62 args h Q :=
  AC.of_wpc mixedOrders Tryz.func62 (by kernel_rfl) (by kernel_rfl : prepF Tryz.prog Tryz.f62 = some ⟨20, [.tmp 4], b_laws_markStringS⟩) hl hk

theorem markStringS_ac {h0 h : H} {v : Value} {l : List (List UInt8)} {k0 : Int} (hv : Fre h0 h v 1 (strs l)) (hn : l.length ≤ 2097152) (hk : 1 ≤ k0 ∧ k0 ≤ 16777216) :
    AC Tryz.prog 62 [v, i64 k0] h fun r h' => r = i64 (k0 + l.length) ∧ Keep (fun b => blk v = some b) h h' ∧ Fre h0 h' v 1 (mks gStr 1 k0 l.length) := by
  have hll : (strs l).length = l.length := by simp
  rcases fre_cases hv with ⟨a, c, rfl, hr⟩ | ⟨b, c, cells, z, rfl, hlc, hb, h0b, hg, hw, hbl⟩
  · have hl0 : l = [] := List.map_eq_nil_iff.1 hr
    subst hl0
    refine w_laws_markStringS (by simp) ?_
    unfold b_laws_markStringS
    simp -implicitDefEqProofs only [go_sem, Int.lt_irrefl]
    refine loopW_of (fun m f h' => h' = h ∧ f 0 = .slice a 0 c ∧ f 1 = i64 k0 ∧ f 5 = i64 0) 0 ⟨rfl, by simp -implicitDefEqProofs only [go_sem], by simp -implicitDefEqProofs only [go_sem], by simp -implicitDefEqProofs only [go_sem]⟩ ?_
    rintro m f h' ⟨rfl, f0, f1, f5⟩
    simp -implicitDefEqProofs only [go_sem, f0, f1, f5, Int.lt_irrefl, Int.ofNat_lt, Nat.lt_irrefl, show ((0 : Nat) : Int) = 0 from rfl]
    exact ⟨by simp, Keep.refl _ _, .inl ⟨a, c, rfl, by simp [mks]⟩⟩
  · have hw1 : ∀ k, (gStr k).length = 1 := fun _ => rfl
    have hfl := flat_length hw
    rw [hll] at hlc hfl hbl
    rw [hll]
    rw [hll] at hv
    refine w_laws_markStringS (by simp) ?_
    unfold b_laws_markStringS
    simp -implicitDefEqProofs only [go_sem]
    refine loopW_of (fun m f h' => ∃ k B, m + k = l.length ∧ h' = h.set b ⟨(mks gStr 1 k0 k).flatten ++ B, z⟩ ∧ B.length = m + cells.length ∧ f 0 = sl b 0 l.length c ∧ f 1 = i64 (k0 + k) ∧ f 5 = i64 k) l.length
      ⟨0, (strs l).flatten ++ cells, by simp, ?_, by simp [hfl], by simp -implicitDefEqProofs only [go_sem], by simp -implicitDefEqProofs only [go_sem]; simp, by simp -implicitDefEqProofs only [go_sem]; rfl⟩ ?_
    · simp only [mks, List.range_zero, List.map_nil, List.flatten_nil, List.nil_append]
      exact (H.set_id hg).symm
    rintro m f h' ⟨k, B, hm, rfl, hB, f0, f1, f5⟩
    have hml : (mks gStr 1 k0 k).flatten.length = k := by rw [flat_length (mks_wid hw1 _ _ _), mks_len]; omega
    by_cases hkk : k < l.length
    · obtain ⟨x, B', rfl⟩ : ∃ x B', B = x :: B' := by
        cases B with
        | nil => simp at hB; omega
        | cons x B' => exact ⟨x, B', rfl⟩
      simp only [List.length_cons] at hB
      have hsp := splice_app (mks gStr 1 k0 k).flatten (x :: B') [str (markT (k0 + k))] 0 (m := k) (by omega)
      simp -implicitDefEqProofs only [go_sem, f0, f1, f5, hkk, Int.ofNat_lt]
      refine (markText_pc _ (k0 + k) (by omega)).use ?_
      simp -implicitDefEqProofs only [go_sem, f0, f1, f5, hkk, hb, hsp, Int.ofNat_lt, Int.natCast_nonneg, List.length_append, hml, Nat.mul_one, show k + 1 ≤ k + (B'.length + 1) by omega, wrap_i64 (show -(9223372036854775808 : Int) ≤ ((k : Int) + 1) by omega) (show ((k : Int) + 1) < 9223372036854775808 by omega), wrap_i64 (show -(9223372036854775808 : Int) ≤ (k0 + (k : Int) + 1) by omega) (show (k0 + (k : Int) + 1) < 9223372036854775808 by omega)]
      refine ⟨m - 1, by omega, _, Ext.refl _, k + 1, B', by omega, ?_, by omega, by push_cast; rw [Int.add_assoc], rfl⟩
      rw [mks_succ]; simp
    · have e : k = l.length := by omega
      subst e
      simp -implicitDefEqProofs only [go_sem, f0, f1, f5, Int.ofNat_lt, Nat.lt_irrefl]
      exact ⟨(Keep.refl _ h).set (.inl hbl) _, .inr ⟨b, c, _, by rw [mks_len], by rw [mks_len]; exact hlc, hb, h0b, H.set_get_same _ _ _, List.prefix_append _ _, mks_wid hw1 _ _ _⟩⟩
/-- laws.heldStringS -/
def b_laws_heldStringS : C := (.seq (.ops [q 4 (.mv (.c (i64 0)))])
 (.seq (.seq (.ops [q 5 (.mv (.c (i64 0)))])
 (.block 0 (.loop (.seq (.seq (.ops [q 6 (.mv (.t 5)), q 7 (.mv (.t 0)), q 8 (.len (.t 7)), q 9 (.bin .lss (.t 6) (.t 8))])
 (.cond (.t 9) .skip (.exit 0)))
 (.seq (.block 1 (.seq (.seq (.dops true (.tk (q 12 (.mv (.t 0))) (.tk (q 13 (.mv (.t 5))) (.tk (q 14 (.idx 1 (.t 12) (.t 13))) (.tk (q 15 (.ld false 1 (.t 14))) (.tk (q 16 (.mv (.t 1))) (.sq (⟨(some 17), none, .call (.c (.func (.func 143) #[] #[])) [(.t 16)]⟩) (.tk (q 18 (.bin .neq (.t 15) (.t 17))) .nil))))))))
 (.cond (.t 18) (.seq (.ops [q 4 (.mv (.c (i64 (-1))))])
 .ret) .skip))
 (.ops [q 19 (.mv (.t 1)), q 20 (.bin .add (.t 19) (.c (i64 1))), q 1 (.mv (.t 20))])))
 (.ops [q 10 (.mv (.t 5)), q 11 (.bin .add (.t 10) (.c (i64 1))), q 5 (.mv (.t 11))]))))))
 (.seq (.ops [q 21 (.mv (.t 1)), q 4 (.mv (.t 21))])
 .ret)))
theorem w_laws_heldStringS {args : List Value} {h : H} {Q : Value → H → Prop} (hl : args.length ≤ 22) (hk : wpc Tryz.prog b_laws_heldStringS (retw [.tmp 4] Q) (argsFr args) h) : AC Tryz.prog 144 args h Q :=
  AC.of_wpc mixedOrders Tryz.func144 (by kernel_rfl) (by kernel_rfl : prepF Tryz.prog Tryz.f144 = some ⟨22, [.tmp 4], b_laws_heldStringS⟩) hl hk

theorem heldStringS_pc {h : H} {v : Value} {n : Nat} {k0 : Int} (hv : Sl h v 1 (mks gStr 1 k0 n)) (hn : n ≤ 2097152) (hk : 1 ≤ k0 ∧ k0 ≤ 16777216) : PC Tryz.prog 144 [v, i64 k0] h (i64 (k0 + n)) := by
  obtain ⟨a, c, b, o, rfl, hcap, h2, h3⟩ := hv
  rw [mks_len] at h2 hcap
  refine w_laws_heldStringS (by simp) ?_
  unfold b_laws_heldStringS
  simp -implicitDefEqProofs only [go_sem, mks_len]
  refine loopW_of (fun m f h' => ∃ k, m + k = n ∧ h' = h ∧ f 0 = .slice a n c ∧ f 1 = i64 (k0 + k) ∧ f 5 = i64 k) n ⟨0, by simp, rfl, by simp -implicitDefEqProofs only [go_sem, mks_len], by simp -implicitDefEqProofs only [go_sem]; simp, by simp -implicitDefEqProofs only [go_sem]; rfl⟩ ?_
  rintro m f h' ⟨k, hm, rfl, f0, f1, f5⟩
  by_cases hkk : k < n
  · have e1 := h3 k _ (mks_get gStr 1 k0 n k hkk)
    simp only [Nat.mul_one, Nat.one_mul] at e1
    simp -implicitDefEqProofs only [go_sem, f0, f1, f5, hkk, h2, e1, Int.ofNat_lt, Int.natCast_nonneg, Nat.mul_one, Nat.one_mul]
    refine (markText_pc _ (k0 + k) (by omega)).use ?_
    simp -implicitDefEqProofs only [go_sem, f0, f1, f5, wrap_i64 (show -(9223372036854775808 : Int) ≤ ((k : Int) + 1) by omega) (show ((k : Int) + 1) < 9223372036854775808 by omega), wrap_i64 (show -(9223372036854775808 : Int) ≤ (k0 + (k : Int) + 1) by omega) (show (k0 + (k : Int) + 1) < 9223372036854775808 by omega)]
    refine ⟨m - 1, by omega, _, Ext.refl _, k + 1, by omega, rfl, by push_cast; rw [Int.add_assoc], rfl⟩
  · have e : k = n := by omega
    subst e
    simp -implicitDefEqProofs only [go_sem, f0, f1, f5, Int.ofNat_lt, Nat.lt_irrefl]
/-- laws.markStepS -/
def b_laws_markStepS : C := (.seq (.ops [q 4 (.mv (.c (i64 0)))])
 (.seq (.seq (.ops [q 5 (.mv (.c (i64 0)))])
 (.block 0 (.loop (.seq (.seq (.ops [q 6 (.mv (.t 5)), q 7 (.mv (.t 0)), q 8 (.len (.t 7)), q 9 (.bin .lss (.t 6) (.t 8))])
 (.cond (.t 9) .skip (.exit 0)))
 (.seq (.block 1 (.seq (.ops [q 12 (.mv (.t 0)), q 13 (.mv (.t 5)), q 14 (.mv (.t 1)), q 15 (.idx 4 (.t 12) (.t 13)), q 16 (.fld 0 (.t 15)), ⟨none, none, .st 1 (.t 16) (.t 14)⟩])
 (.seq (.ops [q 17 (.mv (.t 1)), q 18 (.bin .add (.t 17) (.c (i64 1))), q 1 (.mv (.t 18))])
 (.seq (.ops [q 19 (.mv (.t 0)), q 20 (.mv (.t 5)), q 21 (.mv (.t 1)), q 22 (.idx 4 (.t 19) (.t 20)), q 23 (.fld 1 (.t 22)), ⟨none, none, .st 1 (.t 23) (.t 21)⟩])
 (.seq (.ops [q 24 (.mv (.t 1)), q 25 (.bin .add (.t 24) (.c (i64 1))), q 1 (.mv (.t 25))])
 (.seq (.ops [q 26 (.mv (.t 0)), q 27 (.mv (.t 5)), q 28 (.mv (.t 1)), q 29 (.idx 4 (.t 26) (.t 27)), q 30 (.fld 2 (.t 29)), ⟨none, none, .st 1 (.t 30) (.t 28)⟩])
 (.seq (.ops [q 31 (.mv (.t 1)), q 32 (.bin .add (.t 31) (.c (i64 1))), q 1 (.mv (.t 32))])
 (.seq (.ops [q 33 (.mv (.t 0)), q 34 (.mv (.t 5)), q 35 (.mv (.t 1)), ⟨(some 36), none, .call (.c (.func (.func 143) #[] #[])) [(.t 35)]⟩, q 37 (.idx 4 (.t 33) (.t 34)), q 38 (.fld 3 (.t 37)), ⟨none, none, .st 1 (.t 38) (.t 36)⟩])
 (.ops [q 39 (.mv (.t 1)), q 40 (.bin .add (.t 39) (.c (i64 1))), q 1 (.mv (.t 40))])))))))))
 (.ops [q 10 (.mv (.t 5)), q 11 (.bin .add (.t 10) (.c (i64 1))), q 5 (.mv (.t 11))]))))))
 (.seq (.ops [q 41 (.mv (.t 1)), q 4 (.mv (.t 41))])
 .ret)))
theorem w_laws_markStepS {args : List Value} {h : H} {Q : Value → H → Prop} (hl : args.length ≤ 42) (hk : wpc Tryz.prog b_laws_markStepS (retw [.tmp 4] Q) (argsFr args) h) : AC Tryz.prog 63 args h Q :=
  AC.of_wpc mixedOrders Tryz.func63 (by kernel_rfl) (by kernel_rfl : prepF Tryz.prog Tryz.f63 = some ⟨42, [.tmp 4], b_laws_markStepS⟩) hl hk

theorem markStepS_ac {h0 h : H} {v : Value} {l : List UStep} {k0 : Int} (hv : Fre h0 h v 4 (l.map UStep.cells)) (hn : l.length ≤ 2097152) (hk : 1 ≤ k0 ∧ k0 ≤ 16777216) :
    AC Tryz.prog 63 [v, i64 k0] h fun r h' => r = i64 (k0 + (4 * l.length : Nat)) ∧ Keep (fun b => blk v = some b) h h' ∧ Fre h0 h' v 4 (mks gStep 4 k0 l.length) := by
  have hll : (l.map UStep.cells).length = l.length := by simp
  rcases fre_cases hv with ⟨a, c, rfl, hr⟩ | ⟨b, c, cells, z, rfl, hlc, hb, h0b, hg, hw, hbl⟩
  · have hl0 : l = [] := List.map_eq_nil_iff.1 hr
    subst hl0
    refine w_laws_markStepS (by simp) ?_
    unfold b_laws_markStepS
    simp -implicitDefEqProofs only [go_sem, Int.lt_irrefl]
    refine loopW_of (fun m f h' => h' = h ∧ f 0 = .slice a 0 c ∧ f 1 = i64 k0 ∧ f 5 = i64 0) 0 ⟨rfl, by simp -implicitDefEqProofs only [go_sem], by simp -implicitDefEqProofs only [go_sem], by simp -implicitDefEqProofs only [go_sem]⟩ ?_
    rintro m f h' ⟨rfl, f0, f1, f5⟩
    simp -implicitDefEqProofs only [go_sem, f0, f1, f5, Int.lt_irrefl, Int.ofNat_lt, Nat.lt_irrefl, show ((0 : Nat) : Int) = 0 from rfl]
    exact ⟨by simp, Keep.refl _ _, .inl ⟨a, c, rfl, by simp [mks]⟩⟩
  · have hw1 : ∀ k, (gStep k).length = 4 := fun _ => rfl
    have hfl := flat_length hw
    rw [hll] at hlc hfl hbl
    rw [hll]
    rw [hll] at hv
    refine w_laws_markStepS (by simp) ?_
    unfold b_laws_markStepS
    simp -implicitDefEqProofs only [go_sem]
    refine loopW_of (fun m f h' => ∃ k B, m + k = l.length ∧ h' = h.set b ⟨(mks gStep 4 k0 k).flatten ++ B, z⟩ ∧ B.length = m * 4 + cells.length ∧ f 0 = sl b 0 l.length c ∧ f 1 = i64 (k0 + (4 * k : Nat)) ∧ f 5 = i64 k) l.length
      ⟨0, (l.map UStep.cells).flatten ++ cells, by simp, ?_, by simp only [List.length_append, hfl], by simp -implicitDefEqProofs only [go_sem], by simp -implicitDefEqProofs only [go_sem]; simp, by simp -implicitDefEqProofs only [go_sem]; rfl⟩ ?_
    · simp only [mks, List.range_zero, List.map_nil, List.flatten_nil, List.nil_append]
      exact (H.set_id hg).symm
    rintro m f h' ⟨k, B, hm, rfl, hB, f0, f1, f5⟩
    have hml : (mks gStep 4 k0 k).flatten.length = k * 4 := by rw [flat_length (mks_wid hw1 _ _ _), mks_len]
    by_cases hkk : k < l.length
    · obtain ⟨x0, x1, x2, x3, B', rfl⟩ : ∃ x0 x1 x2 x3 B', B = x0 :: x1 :: x2 :: x3 :: B' := by
        match B, hB with
        | x0 :: x1 :: x2 :: x3 :: B', _ => exact ⟨x0, x1, x2, x3, B', rfl⟩
        | [], hB | [_], hB | [_, _], hB | [_, _, _], hB => simp only [List.length_cons, List.length_nil] at hB; omega
      simp only [List.length_cons] at hB
      have hsp0 : ∀ B r, splice ((mks gStep 4 k0 k).flatten ++ B) (k * 4) r = (mks gStep 4 k0 k).flatten ++ splice B 0 r := fun B r => splice_app _ _ _ 0 (by omega)
      have hsp : ∀ B r j, splice ((mks gStep 4 k0 k).flatten ++ B) (k * 4 + j) r = (mks gStep 4 k0 k).flatten ++ splice B j r := fun B r j => splice_app _ _ _ j (by omega)
      have kq1 : IntKind.i64.wrap (k0 + ((4 * k : Nat) : Int) + 1) = k0 + ((4 * k : Nat) : Int) + 1 := wrap_i64 (by omega) (by omega)
      have kq2 : IntKind.i64.wrap (k0 + ((4 * k : Nat) : Int) + 1 + 1) = k0 + ((4 * k : Nat) : Int) + 2 := by rw [wrap_i64 (by omega) (by omega)]; omega
      have kq3 : IntKind.i64.wrap (k0 + ((4 * k : Nat) : Int) + 2 + 1) = k0 + ((4 * k : Nat) : Int) + 3 := by rw [wrap_i64 (by omega) (by omega)]; omega
      have kq4 : IntKind.i64.wrap (k0 + ((4 * k : Nat) : Int) + 3 + 1) = k0 + ((4 * (k + 1) : Nat) : Int) := by rw [wrap_i64 (by omega) (by omega)]; omega
      have q0 : k * 4 + 1 ≤ k * 4 + (B'.length + 1 + 1 + 1 + 1) := by omega
      have q1 : k * 4 + 1 + 1 ≤ k * 4 + (B'.length + 1 + 1 + 1 + 1) := by omega
      have q2 : k * 4 + 2 + 1 ≤ k * 4 + (B'.length + 1 + 1 + 1 + 1) := by omega
      have q3 : k * 4 + 3 + 1 ≤ k * 4 + (B'.length + 1 + 1 + 1 + 1) := by omega
      simp -implicitDefEqProofs only [go_sem, f0, f1, f5, hkk, hb, hsp0, hsp, Int.ofNat_lt, Int.natCast_nonneg, List.length_append, hml, q0, q1, q2, q3, kq1, kq2, kq3]
      refine (markText_pc _ (k0 + (4 * k : Nat) + 3) (by omega)).use ?_
      simp -implicitDefEqProofs only [go_sem, f0, f1, f5, hkk, hb, hsp0, hsp, Int.ofNat_lt, Int.natCast_nonneg, List.length_append, hml, q0, q1, q2, q3, kq1, kq2, kq3, kq4, wrap_i64 (show -(9223372036854775808 : Int) ≤ ((k : Int) + 1) by omega) (show ((k : Int) + 1) < 9223372036854775808 by omega)]
      refine ⟨m - 1, by omega, _, Ext.refl _, k + 1, B', by omega, ?_, by omega, rfl, rfl⟩
      rw [mks_succ]; simp
    · have e : k = l.length := by omega
      subst e
      simp -implicitDefEqProofs only [go_sem, f0, f1, f5, Int.ofNat_lt, Nat.lt_irrefl]
      exact ⟨(Keep.refl _ h).set (.inl hbl) _, .inr ⟨b, c, _, by rw [mks_len], by rw [mks_len]; exact hlc, hb, h0b, H.set_get_same _ _ _, List.prefix_append _ _, mks_wid hw1 _ _ _⟩⟩
/-- laws.heldStepS -/
def b_laws_heldStepS : C := (.seq (.ops [q 4 (.mv (.c (i64 0)))])
 (.seq (.seq (.ops [q 5 (.mv (.c (i64 0)))])
 (.block 0 (.loop (.seq (.seq (.ops [q 6 (.mv (.t 5)), q 7 (.mv (.t 0)), q 8 (.len (.t 7)), q 9 (.bin .lss (.t 6) (.t 8))])
 (.cond (.t 9) .skip (.exit 0)))
 (.seq (.block 1 (.seq (.seq (.ops [q 12 (.mv (.t 0)), q 13 (.mv (.t 5)), q 14 (.idx 4 (.t 12) (.t 13)), q 15 (.fld 0 (.t 14)), q 16 (.ld false 1 (.t 15)), q 17 (.mv (.t 1)), q 18 (.bin .neq (.t 16) (.t 17))])
 (.cond (.t 18) (.seq (.ops [q 4 (.mv (.c (i64 (-1))))])
 .ret) .skip))
 (.seq (.ops [q 19 (.mv (.t 1)), q 20 (.bin .add (.t 19) (.c (i64 1))), q 1 (.mv (.t 20))])
 (.seq (.seq (.ops [q 21 (.mv (.t 0)), q 22 (.mv (.t 5)), q 23 (.idx 4 (.t 21) (.t 22)), q 24 (.fld 1 (.t 23)), q 25 (.ld false 1 (.t 24)), q 26 (.mv (.t 1)), q 27 (.bin .neq (.t 25) (.t 26))])
 (.cond (.t 27) (.seq (.ops [q 4 (.mv (.c (i64 (-1))))])
 .ret) .skip))
 (.seq (.ops [q 28 (.mv (.t 1)), q 29 (.bin .add (.t 28) (.c (i64 1))), q 1 (.mv (.t 29))])
 (.seq (.seq (.ops [q 30 (.mv (.t 0)), q 31 (.mv (.t 5)), q 32 (.idx 4 (.t 30) (.t 31)), q 33 (.fld 2 (.t 32)), q 34 (.ld false 1 (.t 33)), q 35 (.mv (.t 1)), q 36 (.bin .neq (.t 34) (.t 35))])
 (.cond (.t 36) (.seq (.ops [q 4 (.mv (.c (i64 (-1))))])
 .ret) .skip))
 (.seq (.ops [q 37 (.mv (.t 1)), q 38 (.bin .add (.t 37) (.c (i64 1))), q 1 (.mv (.t 38))])
 (.seq (.seq (.dops true (.tk (q 39 (.mv (.t 0))) (.tk (q 40 (.mv (.t 5))) (.tk (q 41 (.idx 4 (.t 39) (.t 40))) (.tk (q 42 (.fld 3 (.t 41))) (.tk (q 43 (.ld false 1 (.t 42))) (.tk (q 44 (.mv (.t 1))) (.sq (⟨(some 45), none, .call (.c (.func (.func 143) #[] #[])) [(.t 44)]⟩) (.tk (q 46 (.bin .neq (.t 43) (.t 45))) .nil)))))))))
 (.cond (.t 46) (.seq (.ops [q 4 (.mv (.c (i64 (-1))))])
 .ret) .skip))
 (.ops [q 47 (.mv (.t 1)), q 48 (.bin .add (.t 47) (.c (i64 1))), q 1 (.mv (.t 48))])))))))))
 (.ops [q 10 (.mv (.t 5)), q 11 (.bin .add (.t 10) (.c (i64 1))), q 5 (.mv (.t 11))]))))))
 (.seq (.ops [q 49 (.mv (.t 1)), q 4 (.mv (.t 49))])
 .ret)))
theorem w_laws_heldStepS {args : List Value} {h : H} {Q : Value → H → Prop} (hl : args.length ≤ 50) (hk : wpc Tryz.prog b_laws_heldStepS (retw [.tmp 4] Q) (argsFr args) h) : AC Tryz.prog 145 args h Q :=
  AC.of_wpc mixedOrders Tryz.func145 (by kernel_rfl) (by kernel_rfl : prepF Tryz.prog Tryz.f145 = some ⟨50, [.tmp 4], b_laws_heldStepS⟩) hl hk

theorem heldStepS_pc {h : H} {v : Value} {n : Nat} {k0 : Int} (hv : Sl h v 4 (mks gStep 4 k0 n)) (hn : n ≤ 2097152) (hk : 1 ≤ k0 ∧ k0 ≤ 16777216) : PC Tryz.prog 145 [v, i64 k0] h (i64 (k0 + (4 * n : Nat))) := by
  obtain ⟨a, c, b, o, rfl, hcap, h2, h3⟩ := hv
  rw [mks_len] at h2 hcap
  refine w_laws_heldStepS (by simp) ?_
  unfold b_laws_heldStepS
  simp -implicitDefEqProofs only [go_sem, mks_len]
  refine loopW_of (fun m f h' => ∃ k, m + k = n ∧ h' = h ∧ f 0 = .slice a n c ∧ f 1 = i64 (k0 + (4 * k : Nat)) ∧ f 5 = i64 k) n ⟨0, by simp, rfl, by simp -implicitDefEqProofs only [go_sem, mks_len], by simp -implicitDefEqProofs only [go_sem]; simp, by simp -implicitDefEqProofs only [go_sem]; rfl⟩ ?_
  rintro m f h' ⟨k, hm, rfl, f0, f1, f5⟩
  by_cases hkk : k < n
  · have e1 := h3 k _ (mks_get gStep 4 k0 n k hkk)
    have p0 := ldc_part e1 0 1 (by omega)
    have p1 := ldc_part e1 1 1 (by omega)
    have p2 := ldc_part e1 2 1 (by omega)
    have p3 := ldc_part e1 3 1 (by omega)
    simp only [List.drop_zero, List.drop_succ_cons, List.take_succ_cons, List.take_zero, Nat.add_zero] at p0 p1 p2 p3
    have kq1 : IntKind.i64.wrap (k0 + ((4 * k : Nat) : Int) + 1) = k0 + ((4 * k : Nat) : Int) + 1 := wrap_i64 (by omega) (by omega)
    have kq2 : IntKind.i64.wrap (k0 + ((4 * k : Nat) : Int) + 1 + 1) = k0 + ((4 * k : Nat) : Int) + 2 := by rw [wrap_i64 (by omega) (by omega)]; omega
    have kq3 : IntKind.i64.wrap (k0 + ((4 * k : Nat) : Int) + 2 + 1) = k0 + ((4 * k : Nat) : Int) + 3 := by rw [wrap_i64 (by omega) (by omega)]; omega
    have kq4 : IntKind.i64.wrap (k0 + ((4 * k : Nat) : Int) + 3 + 1) = k0 + ((4 * (k + 1) : Nat) : Int) := by rw [wrap_i64 (by omega) (by omega)]; omega
    simp -implicitDefEqProofs only [go_sem, f0, f1, f5, hkk, h2, p0, p1, p2, p3, Int.ofNat_lt, Int.natCast_nonneg, kq1, kq2, kq3]
    refine (markText_pc _ (k0 + (4 * k : Nat) + 3) (by omega)).use ?_
    simp -implicitDefEqProofs only [go_sem, f0, f1, f5, wrap_i64 (show -(9223372036854775808 : Int) ≤ ((k : Int) + 1) by omega) (show ((k : Int) + 1) < 9223372036854775808 by omega), kq4]
    exact ⟨m - 1, by omega, _, Ext.refl _, k + 1, by omega, rfl, rfl, rfl⟩
  · have e : k = n := by omega
    subst e
    simp -implicitDefEqProofs only [go_sem, f0, f1, f5, Int.ofNat_lt, Nat.lt_irrefl]
end Go.Proofs.YtdofcojbjcpikaaGreatDoor
