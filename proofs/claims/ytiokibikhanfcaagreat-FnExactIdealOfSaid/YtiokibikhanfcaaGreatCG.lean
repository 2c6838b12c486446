/- A helper of this seat's claims (contracts of the functions): what it shows is shown for every input that its statements name, on no other condition. -/
import Derived.Test.YtiokibikhanfcaaGreatCM
import Derived.Test.YtiokibikhanfcaaGreatKD
set_option linter.unusedVariables false
set_option linter.unusedSimpArgs false
set_option maxRecDepth 100000
namespace Go.Proofs.YtiokibikhanfcaaGreat
open Go.KH

/-! ## The laws' helpers for flash memories and machines -/
/-- laws.szDirty -/
def b_laws_szDirty : C := (.seq (.ops [⟨(some 2), none, .box (.t 0)⟩, q 4 (.mv (.c (i64 0)))])
 (.seq (.ops [q 5 (.mv (.t 1)), q 6 (.fld 1 (.t 2)), q 7 (.ld false 1 (.t 6)), q 8 (.slen (.t 7)), q 9 (.bin .sub (.t 5) (.t 8)), q 1 (.mv (.t 9))])
 (.seq (.seq (.ops [q 10 (.mv (.t 1)), q 11 (.bin .lss (.t 10) (.c (i64 0)))])
 (.cond (.t 11) (.seq (.ops [q 4 (.mv (.c (i64 (-1))))])
 .ret) .skip))
 (.seq (.ops [q 12 (.mv (.t 1)), q 4 (.mv (.t 12))])
 .ret))))
theorem w_laws_szDirty {args : List Value} {h : H} {Q : Value → H → Prop} (hl : args.length ≤ 13) (hk : wpc Tryz.prog b_laws_szDirty (retw [.tmp 4] Q) (argsFr args) h) : AC Tryz.prog 139 args h Q :=
  AC.of_wpc mixedOrders Tryz.func139 (by kernel_rfl) (by kernel_rfl : prepF Tryz.prog Tryz.f139 = some ⟨13, [.tmp 4], b_laws_szDirty⟩) hl hk

theorem szDirty_pc (h : H) (s : UDirty) {left : Int} (hn : s.data.length ≤ maxLen) (hl : 0 ≤ left ∧ left ≤ 1048576) : PC Tryz.prog 139 [.agg s.cells.toArray, i64 left] h (i64 (lessn left s.data.length)) := by
  refine PC_of ?_
  have := show maxLen = 9223372036854775807 from rfl
  refine w_laws_szDirty (by simp) ?_
  unfold b_laws_szDirty
  simp -implicitDefEqProofs only [go_sem]
  intro b1 hb_b1 n_b1
  simp -implicitDefEqProofs only [go_sem, wrap_i64 (show -(9223372036854775808 : Int) ≤ (left - (s.data.length : Nat)) by omega) (show (left - (s.data.length : Nat)) < 9223372036854775808 by omega), hb_b1]
  unfold lessn
  repeat' (refine Br.of (fun hc => ?_) (fun hc => ?_) <;> simp -implicitDefEqProofs only [go_sem, hc, hb_b1])
  all_goals exact ((Ext.refl _).set' n_b1 _)
/-- laws.szDirtyS -/
def b_laws_szDirtyS : C := (.seq (.ops [q 4 (.mv (.c (i64 0)))])
 (.seq (.ops [q 6 (.mv (.t 1)), q 7 (.mv (.t 0)), q 8 (.len (.t 7)), q 9 (.bin .sub (.t 6) (.t 8)), q 1 (.mv (.t 9))])
 (.seq (.seq (.ops [q 10 (.mv (.t 1)), q 11 (.bin .lss (.t 10) (.c (i64 0)))])
 (.cond (.t 11) (.seq (.ops [q 4 (.mv (.c (i64 (-1))))])
 .ret) .skip))
 (.seq (.seq (.ops [q 5 (.mv (.c (i64 0)))])
 (.block 0 (.loop (.seq (.seq (.ops [q 12 (.mv (.t 5)), q 13 (.mv (.t 0)), q 14 (.len (.t 13)), q 15 (.bin .lss (.t 12) (.t 14))])
 (.cond (.t 15) .skip (.exit 0)))
 (.seq (.block 1 (.seq (.ops [q 18 (.mv (.t 0)), q 19 (.mv (.t 5)), q 20 (.idx 2 (.t 18) (.t 19)), q 21 (.ld true 2 (.t 20)), q 22 (.mv (.t 1)), ⟨(some 23), none, .call (.c (.func (.func 139) #[] #[])) [(.t 21), (.t 22)]⟩, q 1 (.mv (.t 23))])
 (.seq (.ops [q 24 (.mv (.t 1)), q 25 (.bin .lss (.t 24) (.c (i64 0)))])
 (.cond (.t 25) (.seq (.ops [q 4 (.mv (.c (i64 (-1))))])
 .ret) .skip))))
 (.ops [q 16 (.mv (.t 5)), q 17 (.bin .add (.t 16) (.c (i64 1))), q 5 (.mv (.t 17))]))))))
 (.seq (.ops [q 26 (.mv (.t 1)), q 4 (.mv (.t 26))])
 .ret)))))
theorem w_laws_szDirtyS {args : List Value} {h : H} {Q : Value → H → Prop} (hl : args.length ≤ 27) (hk : wpc Tryz.prog b_laws_szDirtyS (retw [.tmp 4] Q) (argsFr args) h) : AC Tryz.prog 75 args h Q :=
  AC.of_wpc mixedOrders Tryz.func75 (by kernel_rfl) (by kernel_rfl : prepF Tryz.prog Tryz.f75 = some ⟨27, [.tmp 4], b_laws_szDirtyS⟩) hl hk

theorem szDirtyS_pc {h : H} {v : Value} {l : List UDirty} {left : Int} (hv : Sl h v 2 (l.map UDirty.cells)) (hn : l.length ≤ maxLen) (hok : ∀ s ∈ l, in64 s.place ∧ s.data.length ≤ maxLen) (hl : 0 ≤ left ∧ left ≤ 1048576) :
    PC Tryz.prog 75 [v, i64 left] h (i64 (lessn left (l.length + sumn (fun s : UDirty => s.data.length) l : Nat))) :=
  w_laws_szDirtyS (by simp) (sz2_wpc hv hn hl (fun s left hs hl => szDirty_pc h s (hok s hs).2 hl) ⟨rfl, rfl⟩)
/-- laws.toDirty -/
def b_laws_toDirty : C := (.seq (.ops [⟨(some 1), none, .box (.t 0)⟩, ⟨(some 2), none, .alloc [(i64 0), (str [])]⟩])
 (.seq (.ops [⟨(some 3), none, .alloc [(i64 0), (str [])]⟩])
 (.seq (.ops [q 4 (.fld 0 (.t 1)), q 5 (.ld false 1 (.t 4)), q 6 (.fld 0 (.t 3)), ⟨none, none, .st 1 (.t 6) (.t 5)⟩])
 (.seq (.ops [q 7 (.fld 1 (.t 1)), q 8 (.ld false 1 (.t 7)), q 9 (.fld 1 (.t 3)), ⟨none, none, .st 1 (.t 9) (.t 8)⟩])
 (.seq (.ops [q 10 (.ld true 2 (.t 3)), ⟨none, none, .st 2 (.t 2) (.t 10)⟩])
 .ret)))))
theorem w_laws_toDirty {args : List Value} {h : H} {Q : Value → H → Prop} (hl : args.length ≤ 11) (hk : wpc Tryz.prog b_laws_toDirty (retw [.cell 2 true 2] Q) (argsFr args) h) : AC Tryz.prog 147 args h Q :=
  AC.of_wpc mixedOrders Tryz.func147 (by kernel_rfl) (by kernel_rfl : prepF Tryz.prog Tryz.f147 = some ⟨11, [.cell 2 true 2], b_laws_toDirty⟩) hl hk

theorem toDirty_pc (h : H) (m : UDirty) : PC Tryz.prog 147 [.agg m.cells.toArray] h (.agg m.cells.toArray) := by
  refine PC_of ?_
  refine w_laws_toDirty (by simp) ?_
  unfold b_laws_toDirty
  simp -implicitDefEqProofs only [go_sem]
  intro b1 hb_b1 n_b1
  simp -implicitDefEqProofs only [go_sem, hb_b1]
  intro b2 hb_b2 m0_b2
  obtain ⟨z_b2_b1, y_b2_b1, n_b2⟩ := fne m0_b2
  simp only [H.set_base] at hb_b2
  simp -implicitDefEqProofs only [go_sem, hb_b1, hb_b2, z_b2_b1, y_b2_b1]
  intro b3 hb_b3 m0_b3
  obtain ⟨z_b3_b2, y_b3_b2, m1_b3⟩ := fne m0_b3
  obtain ⟨z_b3_b1, y_b3_b1, n_b3⟩ := fne m1_b3
  simp only [H.set_base] at hb_b3
  simp -implicitDefEqProofs only [go_sem, hb_b1, hb_b2, z_b2_b1, y_b2_b1, hb_b3, z_b3_b2, y_b3_b2, z_b3_b1, y_b3_b1]
  exact ((((Ext.refl _).set' n_b1 _).set' n_b2 _).set' n_b3 _)
/-- laws.toDirtyS -/
def b_laws_toDirtyS : C := (.seq (.ops [q 2 (.mv (.c nils))])
 (.seq (.ops [q 5 (.mv (.t 0)), q 6 (.len (.t 5)), ⟨(some 7), none, .mks 2 24 [(i64 0), (str [])] (.t 6) (.t 6)⟩, q 3 (.mv (.t 7))])
 (.seq (.seq (.ops [q 4 (.mv (.c (i64 0)))])
 (.block 0 (.loop (.seq (.seq (.ops [q 8 (.mv (.t 4)), q 9 (.mv (.t 0)), q 10 (.len (.t 9)), q 11 (.bin .lss (.t 8) (.t 10))])
 (.cond (.t 11) .skip (.exit 0)))
 (.seq (.block 1 (.ops [q 14 (.mv (.t 3)), q 15 (.mv (.t 4)), q 16 (.mv (.t 0)), q 17 (.mv (.t 4)), q 18 (.idx 2 (.t 16) (.t 17)), q 19 (.ld true 2 (.t 18)), ⟨(some 20), none, .call (.c (.func (.func 147) #[] #[])) [(.t 19)]⟩, q 21 (.idx 2 (.t 14) (.t 15)), ⟨none, none, .st 2 (.t 21) (.t 20)⟩]))
 (.ops [q 12 (.mv (.t 4)), q 13 (.bin .add (.t 12) (.c (i64 1))), q 4 (.mv (.t 13))]))))))
 (.seq (.ops [q 22 (.mv (.t 3)), q 2 (.mv (.t 22))])
 .ret))))
theorem w_laws_toDirtyS {args : List Value} {h : H} {Q : Value → H → Prop} (hl : args.length ≤ 23) (hk : wpc Tryz.prog b_laws_toDirtyS (retw [.tmp 2] Q) (argsFr args) h) : AC Tryz.prog 82 args h Q :=
  AC.of_wpc mixedOrders Tryz.func82 (by kernel_rfl) (by kernel_rfl : prepF Tryz.prog Tryz.f82 = some ⟨23, [.tmp 2], b_laws_toDirtyS⟩) hl hk

theorem toDirtyS_ac {h : H} {v : Value} {l : List UDirty} (hv : Sl h v 2 (l.map UDirty.cells)) (hn : l.length ≤ 1048576) : AC Tryz.prog 82 [v] h fun v' h' => Ext h h' ∧ Fre h h' v' 2 (l.map UDirty.cells) :=
  w_laws_toDirtyS (by simp) (to_wpc hv (Wid.map fun _ => rfl) rfl (by omega) (by simpa using hn)
    (fun r hr => by obtain ⟨m, _, rfl⟩ := List.mem_map.1 hr; rfl)
    (fun h r hr => by obtain ⟨m, _, rfl⟩ := List.mem_map.1 hr; exact toDirty_pc h m) fun _ _ e o => ⟨e, o⟩)
/-- laws.eqDirty -/
def b_laws_eqDirty : C := (.seq (.ops [⟨(some 2), none, .box (.t 0)⟩, ⟨(some 3), none, .box (.t 1)⟩, q 4 (.mv (.c (.bool false)))])
 (.seq (.seq (.ops [q 5 (.fld 0 (.t 2)), q 6 (.ld false 1 (.t 5)), q 7 (.fld 0 (.t 3)), q 8 (.ld false 1 (.t 7)), q 9 (.bin .neq (.t 6) (.t 8))])
 (.cond (.t 9) (.seq (.ops [q 4 (.mv (.c (.bool false)))])
 .ret) .skip))
 (.seq (.seq (.ops [q 10 (.fld 1 (.t 2)), q 11 (.ld false 1 (.t 10)), q 12 (.fld 1 (.t 3)), q 13 (.ld false 1 (.t 12)), q 14 (.bin .neq (.t 11) (.t 13))])
 (.cond (.t 14) (.seq (.ops [q 4 (.mv (.c (.bool false)))])
 .ret) .skip))
 (.seq (.ops [q 4 (.mv (.c (.bool true)))])
 .ret))))
theorem w_laws_eqDirty {args : List Value} {h : H} {Q : Value → H → Prop} (hl : args.length ≤ 15) (hk : wpc Tryz.prog b_laws_eqDirty (retw [.tmp 4] Q) (argsFr args) h) : AC Tryz.prog 168 args h Q :=
  AC.of_wpc mixedOrders Tryz.func168 (by kernel_rfl) (by kernel_rfl : prepF Tryz.prog Tryz.f168 = some ⟨15, [.tmp 4], b_laws_eqDirty⟩) hl hk

theorem eqDirty_pc (h : H) (a b : UDirty) : PC Tryz.prog 168 [.agg a.cells.toArray, .agg b.cells.toArray] h (.bool (decide (a = b))) := by
  obtain ⟨x1, x2⟩ := a
  obtain ⟨u1, u2⟩ := b
  refine PC_of ?_
  refine w_laws_eqDirty (by simp) ?_
  unfold b_laws_eqDirty
  simp -implicitDefEqProofs only [go_sem]
  intro b1 hb_b1 n_b1
  simp -implicitDefEqProofs only [go_sem, hb_b1]
  intro b2 hb_b2 m0_b2
  obtain ⟨z_b2_b1, y_b2_b1, n_b2⟩ := fne m0_b2
  simp only [H.set_base] at hb_b2
  simp -implicitDefEqProofs only [go_sem, hb_b1, hb_b2, z_b2_b1, y_b2_b1]
  repeat' (refine Br.of (fun hc => ?_) (fun hc => ?_) <;> simp -implicitDefEqProofs only [go_sem, hc, hb_b1, hb_b2, z_b2_b1, y_b2_b1])
  all_goals exact ⟨(((Ext.refl _).set' n_b1 _).set' n_b2 _), by simp_all⟩
/-- laws.eqDirtyS -/
def b_laws_eqDirtyS : C := (.seq (.ops [q 4 (.mv (.c (.bool false)))])
 (.seq (.seq (.ops [q 6 (.mv (.t 0)), q 7 (.len (.t 6)), q 8 (.mv (.t 1)), q 9 (.len (.t 8)), q 10 (.bin .neq (.t 7) (.t 9))])
 (.cond (.t 10) (.seq (.ops [q 4 (.mv (.c (.bool false)))])
 .ret) .skip))
 (.seq (.seq (.ops [q 5 (.mv (.c (i64 0)))])
 (.block 0 (.loop (.seq (.seq (.ops [q 11 (.mv (.t 5)), q 12 (.mv (.t 0)), q 13 (.len (.t 12)), q 14 (.bin .lss (.t 11) (.t 13))])
 (.cond (.t 14) .skip (.exit 0)))
 (.seq (.block 1 (.seq (.dops true (.tk (q 17 (.mv (.t 0))) (.tk (q 18 (.mv (.t 5))) (.tk (q 19 (.idx 2 (.t 17) (.t 18))) (.tk (q 20 (.ld true 2 (.t 19))) (.tk (q 21 (.mv (.t 1))) (.tk (q 22 (.mv (.t 5))) (.tk (q 23 (.idx 2 (.t 21) (.t 22))) (.tk (q 24 (.ld true 2 (.t 23))) (.sq (⟨(some 25), none, .call (.c (.func (.func 168) #[] #[])) [(.t 20), (.t 24)]⟩) (.tk (q 26 (.un .not (.t 25))) .nil)))))))))))
 (.cond (.t 26) (.seq (.ops [q 4 (.mv (.c (.bool false)))])
 .ret) .skip)))
 (.ops [q 15 (.mv (.t 5)), q 16 (.bin .add (.t 15) (.c (i64 1))), q 5 (.mv (.t 16))]))))))
 (.seq (.ops [q 4 (.mv (.c (.bool true)))])
 .ret))))
theorem w_laws_eqDirtyS {args : List Value} {h : H} {Q : Value → H → Prop} (hl : args.length ≤ 27) (hk : wpc Tryz.prog b_laws_eqDirtyS (retw [.tmp 4] Q) (argsFr args) h) : AC Tryz.prog 91 args h Q :=
  AC.of_wpc mixedOrders Tryz.func91 (by kernel_rfl) (by kernel_rfl : prepF Tryz.prog Tryz.f91 = some ⟨27, [.tmp 4], b_laws_eqDirtyS⟩) hl hk

theorem eqDirtyS_pc {h : H} {v1 v2 : Value} {l1 l2 : List UDirty} (hv : Sl h v1 2 (l1.map UDirty.cells)) (hu : Sl h v2 2 (l2.map UDirty.cells)) (hn : l1.length ≤ maxLen) : PC Tryz.prog 91 [v1, v2] h (.bool (decide (l1 = l2))) :=
  w_laws_eqDirtyS (by simp) (eq_wpc hv hu hn (fun a b _ _ => eqDirty_pc h a b) ⟨rfl, rfl⟩)
abbrev gDirty (k : Int) : List Value := [i64 k, str (markT (k + 1))]
/-- laws.markDirtyS -/
def b_laws_markDirtyS : C := (.seq (.ops [q 4 (.mv (.c (i64 0)))])
 (.seq (.seq (.ops [q 5 (.mv (.c (i64 0)))])
 (.block 0 (.loop (.seq (.seq (.ops [q 6 (.mv (.t 5)), q 7 (.mv (.t 0)), q 8 (.len (.t 7)), q 9 (.bin .lss (.t 6) (.t 8))])
 (.cond (.t 9) .skip (.exit 0)))
 (.seq (.block 1 (.seq (.ops [q 12 (.mv (.t 0)), q 13 (.mv (.t 5)), q 14 (.mv (.t 1)), q 15 (.idx 2 (.t 12) (.t 13)), q 16 (.fld 0 (.t 15)), ⟨none, none, .st 1 (.t 16) (.t 14)⟩])
 (.seq (.ops [q 17 (.mv (.t 1)), q 18 (.bin .add (.t 17) (.c (i64 1))), q 1 (.mv (.t 18))])
 (.seq (.ops [q 19 (.mv (.t 0)), q 20 (.mv (.t 5)), q 21 (.mv (.t 1)), ⟨(some 22), none, .call (.c (.func (.func 100) #[] #[])) [(.t 21)]⟩, q 23 (.idx 2 (.t 19) (.t 20)), q 24 (.fld 1 (.t 23)), ⟨none, none, .st 1 (.t 24) (.t 22)⟩])
 (.ops [q 25 (.mv (.t 1)), q 26 (.bin .add (.t 25) (.c (i64 1))), q 1 (.mv (.t 26))])))))
 (.ops [q 10 (.mv (.t 5)), q 11 (.bin .add (.t 10) (.c (i64 1))), q 5 (.mv (.t 11))]))))))
 (.seq (.ops [q 27 (.mv (.t 1)), q 4 (.mv (.t 27))])
 .ret)))
theorem w_laws_markDirtyS {args : List Value} {h : H} {Q : Value → H → Prop} (hl : args.length ≤ 28) (hk : wpc Tryz.prog b_laws_markDirtyS (retw [.tmp 4] Q) (argsFr args) h) : AC Tryz.prog 92 args h Q :=
  AC.of_wpc mixedOrders Tryz.func92 (by kernel_rfl) (by kernel_rfl : prepF Tryz.prog Tryz.f92 = some ⟨28, [.tmp 4], b_laws_markDirtyS⟩) hl hk

theorem markDirtyS_ac {h0 h : H} {v : Value} {l : List UDirty} {k0 : Int} (hv : Fre h0 h v 2 (l.map UDirty.cells)) (hn : l.length ≤ 2097152) (hk : 1 ≤ k0 ∧ k0 ≤ 16777216) :
    AC Tryz.prog 92 [v, i64 k0] h fun r h' => r = i64 (k0 + (2 * l.length : Nat)) ∧ Keep (fun b => blk v = some b) h h' ∧ Fre h0 h' v 2 (mks gDirty 2 k0 l.length) := by
  have hll : (l.map UDirty.cells).length = l.length := by simp
  rcases fre_cases hv with ⟨a, c, rfl, hr⟩ | ⟨b, c, cells, z, rfl, hlc, hb, h0b, hg, hw, hbl⟩
  · have hl0 : l = [] := List.map_eq_nil_iff.1 hr
    subst hl0
    refine w_laws_markDirtyS (by simp) ?_
    unfold b_laws_markDirtyS
    simp -implicitDefEqProofs only [go_sem, Int.lt_irrefl]
    refine loopW_of (fun m f h' => h' = h ∧ f 0 = .slice a 0 c ∧ f 1 = i64 k0 ∧ f 5 = i64 0) 0 ⟨rfl, by simp -implicitDefEqProofs only [go_sem], by simp -implicitDefEqProofs only [go_sem], by simp -implicitDefEqProofs only [go_sem]⟩ ?_
    rintro m f h' ⟨rfl, f0, f1, f5⟩
    simp -implicitDefEqProofs only [go_sem, f0, f1, f5, Int.lt_irrefl, Int.ofNat_lt, Nat.lt_irrefl, show ((0 : Nat) : Int) = 0 from rfl]
    exact ⟨by simp, Keep.refl _ _, .inl ⟨a, c, rfl, by simp [mks]⟩⟩
  · have hw1 : ∀ k, (gDirty k).length = 2 := fun _ => rfl
    have hfl := flat_length hw
    rw [hll] at hlc hfl hbl
    rw [hll]
    rw [hll] at hv
    refine w_laws_markDirtyS (by simp) ?_
    unfold b_laws_markDirtyS
    simp -implicitDefEqProofs only [go_sem]
    refine loopW_of (fun m f h' => ∃ k B, m + k = l.length ∧ h' = h.set b ⟨(mks gDirty 2 k0 k).flatten ++ B, z⟩ ∧ B.length = m * 2 + cells.length ∧ f 0 = sl b 0 l.length c ∧ f 1 = i64 (k0 + (2 * k : Nat)) ∧ f 5 = i64 k) l.length
      ⟨0, (l.map UDirty.cells).flatten ++ cells, by simp, ?_, by simp only [List.length_append, hfl], by simp -implicitDefEqProofs only [go_sem], by simp -implicitDefEqProofs only [go_sem]; simp, by simp -implicitDefEqProofs only [go_sem]; rfl⟩ ?_
    · simp only [mks, List.range_zero, List.map_nil, List.flatten_nil, List.nil_append]
      exact (H.set_id hg).symm
    rintro m f h' ⟨k, B, hm, rfl, hB, f0, f1, f5⟩
    have hml : (mks gDirty 2 k0 k).flatten.length = k * 2 := by rw [flat_length (mks_wid hw1 _ _ _), mks_len]
    by_cases hkk : k < l.length
    · obtain ⟨x0, x1, B', rfl⟩ : ∃ x0 x1 B', B = x0 :: x1 :: B' := by
        match B, hB with
        | x0 :: x1 :: B', _ => exact ⟨x0, x1, B', rfl⟩
        | [], hB => exact absurd hB (by simp; omega)
        | [_], hB => exact absurd hB (by simp; omega)
      simp only [List.length_cons] at hB
      have hsp0 : ∀ B r, splice ((mks gDirty 2 k0 k).flatten ++ B) (k * 2) r = (mks gDirty 2 k0 k).flatten ++ splice B 0 r := fun B r => splice_app _ _ _ 0 (by omega)
      have hsp : ∀ B r j, splice ((mks gDirty 2 k0 k).flatten ++ B) (k * 2 + j) r = (mks gDirty 2 k0 k).flatten ++ splice B j r := fun B r j => splice_app _ _ _ j (by omega)
      have kq1 : IntKind.i64.wrap (k0 + ((2 * k : Nat) : Int) + 1) = k0 + ((2 * k : Nat) : Int) + 1 := wrap_i64 (by omega) (by omega)
      have kq0 : IntKind.i64.wrap (k0 + ((2 * k : Nat) : Int)) = k0 + ((2 * k : Nat) : Int) := wrap_i64 (by omega) (by omega)
      have kq4 : IntKind.i64.wrap (k0 + ((2 * k : Nat) : Int) + 1 + 1) = k0 + ((2 * (k + 1) : Nat) : Int) := by rw [wrap_i64 (by omega) (by omega)]; omega
      have q0 : k * 2 + 1 ≤ k * 2 + (B'.length + 1 + 1) := by omega
      have q1 : k * 2 + 1 + 1 ≤ k * 2 + (B'.length + 1 + 1) := by omega
      simp -implicitDefEqProofs only [go_sem, f0, f1, f5, hkk, hb, hsp0, hsp, Int.ofNat_lt, Int.natCast_nonneg, List.length_append, hml, q0, q1, kq0, kq1]
      refine (markText_pc _ (k0 + (2 * k : Nat) + 1) (by omega)).use ?_
      simp -implicitDefEqProofs only [go_sem, f0, f1, f5, hkk, hb, hsp0, hsp, Int.ofNat_lt, Int.natCast_nonneg, List.length_append, hml, q0, q1, kq0, kq1, kq4, wrap_i64 (show -(9223372036854775808 : Int) ≤ ((k : Int) + 1) by omega) (show ((k : Int) + 1) < 9223372036854775808 by omega)]
      refine ⟨m - 1, by omega, _, Ext.refl _, k + 1, B', by omega, ?_, by omega, rfl, rfl⟩
      rw [mks_succ]; simp
    · have e : k = l.length := by omega
      subst e
      simp -implicitDefEqProofs only [go_sem, f0, f1, f5, Int.ofNat_lt, Nat.lt_irrefl]
      exact ⟨(Keep.refl _ h).set (.inl hbl) _, .inr ⟨b, c, _, by rw [mks_len], by rw [mks_len]; exact hlc, hb, h0b, H.set_get_same _ _ _, List.prefix_append _ _, mks_wid hw1 _ _ _⟩⟩
def flSz (f : UFlash) : Nat := (f.sec.length + sumn List.length f.sec) + (f.dirty.length + sumn (fun s : UDirty => s.data.length) f.dirty)
theorem sum_get {α : Type} {g : α → Nat} : ∀ {l : List α} {t : α}, t ∈ l → g t ≤ sumn g l
  | s :: l, t, h => by
    unfold sumn
    rw [List.map_cons, List.sum_cons]
    rcases List.mem_cons.1 h with rfl | h
    · omega
    · have := sum_get (g := g) h; unfold sumn at this; omega
theorem flSz_small {f : UFlash} {left : Int} (hl : left ≤ 1048576) (h : ¬ lessn left (flSz f : Nat) < 0) : f.small := by
  have h1 := (lessn_nn h).1
  unfold flSz at h1
  refine ⟨by omega, by omega, fun s hs => ?_, fun d hd => ?_⟩
  · have := sum_get (g := List.length) hs; omega
  · have := sum_get (g := fun s : UDirty => s.data.length) hd; omega
/-- laws.szFlash -/
def b_laws_szFlash : C := (.seq (.ops [⟨(some 2), none, .box (.t 0)⟩, q 4 (.mv (.c (i64 0)))])
 (.seq (.ops [q 5 (.fld 0 (.t 2)), q 6 (.ld false 1 (.t 5)), q 7 (.mv (.t 1)), ⟨(some 8), none, .call (.c (.func (.func 74) #[] #[])) [(.t 6), (.t 7)]⟩, q 1 (.mv (.t 8))])
 (.seq (.seq (.ops [q 9 (.mv (.t 1)), q 10 (.bin .lss (.t 9) (.c (i64 0)))])
 (.cond (.t 10) (.seq (.ops [q 4 (.mv (.c (i64 (-1))))])
 .ret) .skip))
 (.seq (.ops [q 11 (.fld 1 (.t 2)), q 12 (.ld false 1 (.t 11)), q 13 (.mv (.t 1)), ⟨(some 14), none, .call (.c (.func (.func 75) #[] #[])) [(.t 12), (.t 13)]⟩, q 1 (.mv (.t 14))])
 (.seq (.seq (.ops [q 15 (.mv (.t 1)), q 16 (.bin .lss (.t 15) (.c (i64 0)))])
 (.cond (.t 16) (.seq (.ops [q 4 (.mv (.c (i64 (-1))))])
 .ret) .skip))
 (.seq (.ops [q 17 (.mv (.t 1)), q 4 (.mv (.t 17))])
 .ret))))))
theorem w_laws_szFlash {args : List Value} {h : H} {Q : Value → H → Prop} (hl : args.length ≤ 18) (hk : wpc Tryz.prog b_laws_szFlash (retw [.tmp 4] Q) (argsFr args) h) : AC Tryz.prog 40 args h Q :=
  AC.of_wpc mixedOrders Tryz.func40 (by kernel_rfl) (by kernel_rfl : prepF Tryz.prog Tryz.f40 = some ⟨18, [.tmp 4], b_laws_szFlash⟩) hl hk

theorem szFlash_pc {h : H} {vs vd : Value} {f : UFlash} {left : Int} (hv : FlR h f vs vd) (hok : f.ok) (hl : 0 ≤ left ∧ left ≤ 1048576) : PC Tryz.prog 40 [.agg #[vs, vd], i64 left] h (i64 (lessn left (flSz f : Nat))) := by
  obtain ⟨sb, ss⟩ := hv
  obtain ⟨o1, o2, o3, o4⟩ := hok
  refine PC_of ?_
  unfold flSz
  refine w_laws_szFlash (by simp) ?_
  unfold b_laws_szFlash
  simp -implicitDefEqProofs only [go_sem, sb.one, ss.one]
  intro b1 hb_b1 n_b1
  simp -implicitDefEqProofs only [go_sem, sb.one, ss.one, hb_b1]
  refine (szStringS_pc (sb.ext ((Ext.refl _).set' n_b1 _)) o1 o2 (by omega)).use ?_
  simp -implicitDefEqProofs only [go_sem, hb_b1]
  refine Br.of (fun h2 => ?_) (fun h2 => ?_)
  · simp -implicitDefEqProofs only [go_sem, h2, hb_b1]
    exact ⟨((Ext.refl _).set' n_b1 _), by rw [show ((f.sec.length + sumn List.length f.sec + (f.dirty.length + sumn (fun s : UDirty => s.data.length) f.dirty) : Nat) : Int) = (f.sec.length + sumn List.length f.sec : Nat) + ((f.dirty.length + sumn (fun s : UDirty => s.data.length) f.dirty : Nat) : Int) by push_cast; omega, lessn_bad (by omega) h2]⟩
  simp -implicitDefEqProofs only [go_sem, h2, hb_b1]
  refine (szDirtyS_pc (ss.ext ((Ext.refl _).set' n_b1 _)) o3 o4 (by have := lessn_nn h2; omega)).use ?_
  rw [lessn_add h2]
  simp -implicitDefEqProofs only [go_sem, hb_b1]
  refine Br.of (fun h3 => ?_) (fun h3 => ?_)
  · simp -implicitDefEqProofs only [go_sem, h3, hb_b1]
    exact ⟨((Ext.refl _).set' n_b1 _), by unfold lessn at h3 ⊢; rw [if_pos]; split at h3 <;> omega⟩
  simp -implicitDefEqProofs only [go_sem, h3, hb_b1]
  exact ⟨((Ext.refl _).set' n_b1 _), by push_cast; rfl⟩
/-- laws.szMachine -/
def b_laws_szMachine : C := (.seq (.ops [⟨(some 2), none, .box (.t 0)⟩, q 4 (.mv (.c (i64 0)))])
 (.seq (.ops [q 5 (.fld 1 (.t 2)), q 6 (.ld true 2 (.t 5)), q 7 (.mv (.t 1)), ⟨(some 8), none, .call (.c (.func (.func 40) #[] #[])) [(.t 6), (.t 7)]⟩, q 1 (.mv (.t 8))])
 (.seq (.seq (.ops [q 9 (.mv (.t 1)), q 10 (.bin .lss (.t 9) (.c (i64 0)))])
 (.cond (.t 10) (.seq (.ops [q 4 (.mv (.c (i64 (-1))))])
 .ret) .skip))
 (.seq (.ops [q 11 (.mv (.t 1)), q 4 (.mv (.t 11))])
 .ret))))
theorem w_laws_szMachine {args : List Value} {h : H} {Q : Value → H → Prop} (hl : args.length ≤ 12) (hk : wpc Tryz.prog b_laws_szMachine (retw [.tmp 4] Q) (argsFr args) h) : AC Tryz.prog 9 args h Q :=
  AC.of_wpc mixedOrders Tryz.func9 (by kernel_rfl) (by kernel_rfl : prepF Tryz.prog Tryz.f9 = some ⟨12, [.tmp 4], b_laws_szMachine⟩) hl hk

theorem szMachine_pc {h : H} {cs : List Value} {m : UMach} {left : Int} (hv : RepR h (spMach m) cs) (hok : m.ok) (hl : 0 ≤ left ∧ left ≤ 1048576) : PC Tryz.prog 9 [.agg cs.toArray, i64 left] h (i64 (lessn left (flSz m.flash : Nat))) := by
  obtain ⟨vs, vd, rfl, r⟩ := mach_r.1 hv
  have o1 := r.1.one
  have o2 := r.2.one
  refine PC_of ?_
  skip
  refine w_laws_szMachine (by simp) ?_
  unfold b_laws_szMachine
  simp -implicitDefEqProofs only [go_sem, o1, o2]
  intro b1 hb_b1 n_b1
  simp -implicitDefEqProofs only [go_sem, o1, o2, hb_b1]
  refine (szFlash_pc (r.ext ((Ext.refl _).set' n_b1 _)) hok.2 hl).use ?_
  simp -implicitDefEqProofs only [go_sem, o1, o2, hb_b1]
  refine Br.of (fun h3 => ?_) (fun h3 => ?_)
  · simp -implicitDefEqProofs only [go_sem, h3, o1, o2, hb_b1]
    exact ⟨((Ext.refl _).set' n_b1 _), by unfold lessn at h3 ⊢; rw [if_pos]; split at h3 <;> omega⟩
  simp -implicitDefEqProofs only [go_sem, h3, o1, o2, hb_b1]
  exact ((Ext.refl _).set' n_b1 _)
/-- laws.eqFlash -/
def b_laws_eqFlash : C := (.seq (.ops [⟨(some 2), none, .box (.t 0)⟩, ⟨(some 3), none, .box (.t 1)⟩, q 4 (.mv (.c (.bool false)))])
 (.seq (.seq (.ops [q 5 (.fld 0 (.t 2)), q 6 (.ld false 1 (.t 5)), q 7 (.fld 0 (.t 3)), q 8 (.ld false 1 (.t 7)), ⟨(some 9), none, .call (.c (.func (.func 54) #[] #[])) [(.t 6), (.t 8)]⟩, q 10 (.un .not (.t 9))])
 (.cond (.t 10) (.seq (.ops [q 4 (.mv (.c (.bool false)))])
 .ret) .skip))
 (.seq (.seq (.ops [q 11 (.fld 1 (.t 2)), q 12 (.ld false 1 (.t 11)), q 13 (.fld 1 (.t 3)), q 14 (.ld false 1 (.t 13)), ⟨(some 15), none, .call (.c (.func (.func 91) #[] #[])) [(.t 12), (.t 14)]⟩, q 16 (.un .not (.t 15))])
 (.cond (.t 16) (.seq (.ops [q 4 (.mv (.c (.bool false)))])
 .ret) .skip))
 (.seq (.ops [q 4 (.mv (.c (.bool true)))])
 .ret))))
theorem w_laws_eqFlash {args : List Value} {h : H} {Q : Value → H → Prop} (hl : args.length ≤ 17) (hk : wpc Tryz.prog b_laws_eqFlash (retw [.tmp 4] Q) (argsFr args) h) : AC Tryz.prog 47 args h Q :=
  AC.of_wpc mixedOrders Tryz.func47 (by kernel_rfl) (by kernel_rfl : prepF Tryz.prog Tryz.f47 = some ⟨17, [.tmp 4], b_laws_eqFlash⟩) hl hk

theorem eqFlash_pc {h : H} {vs vd us ud : Value} {a b : UFlash} (ha : FlR h a vs vd) (hb : FlR h b us ud) (hn : a.fin) : PC Tryz.prog 47 [.agg #[vs, vd], .agg #[us, ud]] h (.bool (decide (a = b))) := by
  have o1 := ha.1.one
  have o2 := ha.2.one
  have o3 := hb.1.one
  have o4 := hb.2.one
  obtain ⟨p1, p2⟩ := ha
  obtain ⟨q1, q2⟩ := hb
  obtain ⟨x1, x2⟩ := a
  obtain ⟨w1, w2⟩ := b
  obtain ⟨n1, n2⟩ := hn
  simp only at p1 p2 q1 q2 n1 n2
  refine PC_of ?_
  skip
  refine w_laws_eqFlash (by simp) ?_
  unfold b_laws_eqFlash
  simp -implicitDefEqProofs only [go_sem, o1, o2, o3, o4]
  intro b1 hb_b1 n_b1
  simp -implicitDefEqProofs only [go_sem, o1, o2, o3, o4, hb_b1]
  intro b2 hb_b2 m0_b2
  obtain ⟨z_b2_b1, y_b2_b1, n_b2⟩ := fne m0_b2
  simp only [H.set_base] at hb_b2
  simp -implicitDefEqProofs only [go_sem, o1, o2, o3, o4, hb_b1, hb_b2, z_b2_b1, y_b2_b1]
  refine (eqStringS_pc (p1.ext (((Ext.refl _).set' n_b1 _).set' n_b2 _)) (q1.ext (((Ext.refl _).set' n_b1 _).set' n_b2 _)) n1).use ?_
  simp -implicitDefEqProofs only [go_sem, o1, o2, o3, o4, hb_b1, hb_b2, z_b2_b1, y_b2_b1]
  repeat' first | (refine Br.of (fun hc => ?_) (fun hc => ?_) <;> simp -implicitDefEqProofs only [go_sem, hc, o1, o2, o3, o4, hb_b1, hb_b2, z_b2_b1, y_b2_b1]) | (refine PC.use (eqStringS_pc (p1.ext (((Ext.refl _).set' n_b1 _).set' n_b2 _)) (q1.ext (((Ext.refl _).set' n_b1 _).set' n_b2 _)) n1) ?_; simp -implicitDefEqProofs only [go_sem, hc, o1, o2, o3, o4, hb_b1, hb_b2, z_b2_b1, y_b2_b1]) | (refine PC.use (eqDirtyS_pc (p2.ext (((Ext.refl _).set' n_b1 _).set' n_b2 _)) (q2.ext (((Ext.refl _).set' n_b1 _).set' n_b2 _)) n2) ?_; simp -implicitDefEqProofs only [go_sem, hc, o1, o2, o3, o4, hb_b1, hb_b2, z_b2_b1, y_b2_b1])
  all_goals exact ⟨(((Ext.refl _).set' n_b1 _).set' n_b2 _), by simp_all⟩
/-- laws.eqMachine -/
def b_laws_eqMachine : C := (.seq (.ops [⟨(some 2), none, .box (.t 0)⟩, ⟨(some 3), none, .box (.t 1)⟩, q 4 (.mv (.c (.bool false)))])
 (.seq (.seq (.ops [q 5 (.fld 0 (.t 2)), q 6 (.ld false 1 (.t 5)), q 7 (.fld 0 (.t 3)), q 8 (.ld false 1 (.t 7)), q 9 (.bin .neq (.t 6) (.t 8))])
 (.cond (.t 9) (.seq (.ops [q 4 (.mv (.c (.bool false)))])
 .ret) .skip))
 (.seq (.seq (.ops [q 10 (.fld 1 (.t 2)), q 11 (.ld true 2 (.t 10)), q 12 (.fld 1 (.t 3)), q 13 (.ld true 2 (.t 12)), ⟨(some 14), none, .call (.c (.func (.func 47) #[] #[])) [(.t 11), (.t 13)]⟩, q 15 (.un .not (.t 14))])
 (.cond (.t 15) (.seq (.ops [q 4 (.mv (.c (.bool false)))])
 .ret) .skip))
 (.seq (.ops [q 4 (.mv (.c (.bool true)))])
 .ret))))
theorem w_laws_eqMachine {args : List Value} {h : H} {Q : Value → H → Prop} (hl : args.length ≤ 16) (hk : wpc Tryz.prog b_laws_eqMachine (retw [.tmp 4] Q) (argsFr args) h) : AC Tryz.prog 14 args h Q :=
  AC.of_wpc mixedOrders Tryz.func14 (by kernel_rfl) (by kernel_rfl : prepF Tryz.prog Tryz.f14 = some ⟨16, [.tmp 4], b_laws_eqMachine⟩) hl hk

theorem eqMachine_pc {h : H} {c1 c2 : List Value} {a b : UMach} (ha : RepR h (spMach a) c1) (hb : RepR h (spMach b) c2) (hn : a.flash.fin) : PC Tryz.prog 14 [.agg c1.toArray, .agg c2.toArray] h (.bool (decide (a = b))) := by
  obtain ⟨vs, vd, rfl, r1⟩ := mach_r.1 ha
  obtain ⟨us, ud, rfl, r2⟩ := mach_r.1 hb
  have o1 := r1.1.one
  have o2 := r1.2.one
  have o3 := r2.1.one
  have o4 := r2.2.one
  obtain ⟨x1, x2⟩ := a
  obtain ⟨w1, w2⟩ := b
  refine PC_of ?_
  skip
  refine w_laws_eqMachine (by simp) ?_
  unfold b_laws_eqMachine
  simp -implicitDefEqProofs only [go_sem, o1, o2, o3, o4]
  intro b1 hb_b1 n_b1
  simp -implicitDefEqProofs only [go_sem, o1, o2, o3, o4, hb_b1]
  intro b2 hb_b2 m0_b2
  obtain ⟨z_b2_b1, y_b2_b1, n_b2⟩ := fne m0_b2
  simp only [H.set_base] at hb_b2
  simp -implicitDefEqProofs only [go_sem, o1, o2, o3, o4, hb_b1, hb_b2, z_b2_b1, y_b2_b1]
  repeat' first | (refine Br.of (fun hc => ?_) (fun hc => ?_) <;> simp -implicitDefEqProofs only [go_sem, hc, o1, o2, o3, o4, hb_b1, hb_b2, z_b2_b1, y_b2_b1]) | (refine PC.use (eqFlash_pc (r1.ext (((Ext.refl _).set' n_b1 _).set' n_b2 _)) (r2.ext (((Ext.refl _).set' n_b1 _).set' n_b2 _)) hn) ?_; simp -implicitDefEqProofs only [go_sem, hc, o1, o2, o3, o4, hb_b1, hb_b2, z_b2_b1, y_b2_b1])
  all_goals exact ⟨(((Ext.refl _).set' n_b1 _).set' n_b2 _), by simp_all⟩
/-- laws.toFlash -/
def b_laws_toFlash : C := (.seq (.ops [⟨(some 1), none, .box (.t 0)⟩, ⟨(some 2), none, .alloc [nils, nils]⟩])
 (.seq (.ops [⟨(some 3), none, .alloc [nils, nils]⟩])
 (.seq (.ops [q 4 (.fld 0 (.t 1)), q 5 (.ld false 1 (.t 4)), ⟨(some 6), none, .call (.c (.func (.func 81) #[] #[])) [(.t 5)]⟩, q 7 (.fld 0 (.t 3)), ⟨none, none, .st 1 (.t 7) (.t 6)⟩])
 (.seq (.ops [q 8 (.fld 1 (.t 1)), q 9 (.ld false 1 (.t 8)), ⟨(some 10), none, .call (.c (.func (.func 82) #[] #[])) [(.t 9)]⟩, q 11 (.fld 1 (.t 3)), ⟨none, none, .st 1 (.t 11) (.t 10)⟩])
 (.seq (.ops [q 12 (.ld true 2 (.t 3)), ⟨none, none, .st 2 (.t 2) (.t 12)⟩])
 .ret)))))
theorem w_laws_toFlash {args : List Value} {h : H} {Q : Value → H → Prop} (hl : args.length ≤ 13) (hk : wpc Tryz.prog b_laws_toFlash (retw [.cell 2 true 2] Q) (argsFr args) h) : AC Tryz.prog 43 args h Q :=
  AC.of_wpc mixedOrders Tryz.func43 (by kernel_rfl) (by kernel_rfl : prepF Tryz.prog Tryz.f43 = some ⟨13, [.cell 2 true 2], b_laws_toFlash⟩) hl hk

theorem toFlash_ac {h : H} {vs vd : Value} {f : UFlash} (hv : FlR h f vs vd) (hs : f.small) : AC Tryz.prog 43 [.agg #[vs, vd]] h fun r h' => Ext h h' ∧ ∃ us ud, r = .agg #[us, ud] ∧ FlF h h' f us ud := by
  obtain ⟨a1, a2⟩ := hv
  have o1 := a1.one
  have o2 := a2.one
  refine w_laws_toFlash (by simp) ?_
  unfold b_laws_toFlash
  simp -implicitDefEqProofs only [go_sem, o1, o2]
  intro b1 hb_b1 n_b1
  simp -implicitDefEqProofs only [go_sem, o1, o2, hb_b1]
  intro b2 hb_b2 m0_b2
  obtain ⟨z_b2_b1, y_b2_b1, n_b2⟩ := fne m0_b2
  simp only [H.set_base] at hb_b2
  simp -implicitDefEqProofs only [go_sem, o1, o2, hb_b1, hb_b2, z_b2_b1, y_b2_b1]
  intro b3 hb_b3 m0_b3
  obtain ⟨z_b3_b2, y_b3_b2, m1_b3⟩ := fne m0_b3
  obtain ⟨z_b3_b1, y_b3_b1, n_b3⟩ := fne m1_b3
  simp only [H.set_base] at hb_b3
  simp -implicitDefEqProofs only [go_sem, o1, o2, hb_b1, hb_b2, z_b2_b1, y_b2_b1, hb_b3, z_b3_b2, y_b3_b2, z_b3_b1, y_b3_b1]
  refine AC_of (toStringS_ac (a1.ext ((((Ext.refl _).set' n_b1 _).set' n_b2 _).set' n_b3 _)) hs.1) ?_
  rintro v1 h1 - ⟨e1, f1⟩
  have g1 := e1.2.g b1 _ (by simp -implicitDefEqProofs only [go_sem, hb_b1, hb_b2, z_b2_b1, y_b2_b1, hb_b3, z_b3_b2, y_b3_b2, z_b3_b1, y_b3_b1]; rfl)
  have g2 := e1.2.g b2 _ (by simp -implicitDefEqProofs only [go_sem, hb_b1, hb_b2, z_b2_b1, y_b2_b1, hb_b3, z_b3_b2, y_b3_b2, z_b3_b1, y_b3_b1]; rfl)
  have g3 := e1.2.g b3 _ (by simp -implicitDefEqProofs only [go_sem, hb_b1, hb_b2, z_b2_b1, y_b2_b1, hb_b3, z_b3_b2, y_b3_b2, z_b3_b1, y_b3_b1]; rfl)
  have hb3 := e1.1
  simp only [H.set_base] at hb3
  obtain ⟨av1, cv1, rfl⟩ := f1.shape
  simp -implicitDefEqProofs only [go_sem, ldc_get g1, ldc_get g2, ldc_get g3, stc_get g1, stc_get g2, stc_get g3, hb3, o1, o2, hb_b1, hb_b2, z_b2_b1, y_b2_b1, hb_b3, z_b3_b2, y_b3_b2, z_b3_b1, y_b3_b1]
  have E1 := fun x => Ext.set' (Ext.trans (Ext.set' (Ext.set' (Ext.set' (Ext.refl h) n_b1 _) n_b2 _) n_b3 _) e1) n_b3 x
  refine AC_of (toDirtyS_ac (a2.ext (E1 _)) hs.2.1) ?_
  rintro v2 h2 - ⟨e2, f2⟩
  have j1 := e2.2.g b1 _ (by simp -implicitDefEqProofs only [go_sem, g1, hb_b1, hb_b2, z_b2_b1, y_b2_b1, hb_b3, z_b3_b2, y_b3_b2, z_b3_b1, y_b3_b1]; rfl)
  have j2 := e2.2.g b2 _ (by simp -implicitDefEqProofs only [go_sem, g2, hb_b1, hb_b2, z_b2_b1, y_b2_b1, hb_b3, z_b3_b2, y_b3_b2, z_b3_b1, y_b3_b1]; rfl)
  have j3 := e2.2.g b3 _ (by simp -implicitDefEqProofs only [go_sem, hb_b1, hb_b2, z_b2_b1, y_b2_b1, hb_b3, z_b3_b2, y_b3_b2, z_b3_b1, y_b3_b1]; rfl)
  have hb4 := e2.1
  simp only [H.set_base, hb3] at hb4
  obtain ⟨av2, cv2, rfl⟩ := f2.shape
  simp -implicitDefEqProofs only [go_sem, ldc_get j1, ldc_get j2, ldc_get j3, stc_get j1, stc_get j2, stc_get j3, hb4, o1, o2, hb_b1, hb_b2, z_b2_b1, y_b2_b1, hb_b3, z_b3_b2, y_b3_b2, z_b3_b1, y_b3_b1]
  refine ⟨((Ext.trans (E1 _) e2).set' n_b2 _).set' n_b3 _, _, _, rfl, ?_, ?_, ?_⟩
  · exact ((((f1.set (H.set_get_same _ _ _) _).ext e2).set (b := b2) (by simp -implicitDefEqProofs only [go_sem, hb_b1, hb_b2, z_b2_b1, y_b2_b1, hb_b3, z_b3_b2, y_b3_b2, z_b3_b1, y_b3_b1]; rfl) _).set (H.set_get_same _ _ _) _).back (Ext.set' (Ext.set' (Ext.set' (Ext.refl h) n_b1 _) n_b2 _) n_b3 _)
  · exact ((f2.set (b := b2) (by simp -implicitDefEqProofs only [go_sem, g2, hb_b1, hb_b2, z_b2_b1, y_b2_b1, hb_b3, z_b3_b2, y_b3_b2, z_b3_b1, y_b3_b1]; rfl) _).set (H.set_get_same _ _ _) _).back (E1 _)
  · exact Dj.of ((f1.set (H.set_get_same _ _ _) _).known) f2.new
/-- laws.toMachine -/
def b_laws_toMachine : C := (.seq (.ops [⟨(some 1), none, .box (.t 0)⟩, ⟨(some 2), none, .alloc [(i64 0), nils, nils]⟩])
 (.seq (.ops [⟨(some 3), none, .alloc [(i64 0), nils, nils]⟩])
 (.seq (.ops [q 4 (.fld 0 (.t 1)), q 5 (.ld false 1 (.t 4)), q 6 (.fld 0 (.t 3)), ⟨none, none, .st 1 (.t 6) (.t 5)⟩])
 (.seq (.ops [q 7 (.fld 1 (.t 1)), q 8 (.ld true 2 (.t 7)), ⟨(some 9), none, .call (.c (.func (.func 43) #[] #[])) [(.t 8)]⟩, q 10 (.fld 1 (.t 3)), ⟨none, none, .st 2 (.t 10) (.t 9)⟩])
 (.seq (.ops [q 11 (.ld true 3 (.t 3)), ⟨none, none, .st 3 (.t 2) (.t 11)⟩])
 .ret)))))
theorem w_laws_toMachine {args : List Value} {h : H} {Q : Value → H → Prop} (hl : args.length ≤ 12) (hk : wpc Tryz.prog b_laws_toMachine (retw [.cell 2 true 3] Q) (argsFr args) h) : AC Tryz.prog 11 args h Q :=
  AC.of_wpc mixedOrders Tryz.func11 (by kernel_rfl) (by kernel_rfl : prepF Tryz.prog Tryz.f11 = some ⟨12, [.cell 2 true 3], b_laws_toMachine⟩) hl hk

theorem toMachine_ac {h : H} {cs : List Value} {m : UMach} (hv : RepR h (spMach m) cs) (hs : m.flash.small) : AC Tryz.prog 11 [.agg cs.toArray] h fun r h' => Ext h h' ∧ ∃ cs', r = .agg cs'.toArray ∧ RepF h h' (spMach m) cs' := by
  obtain ⟨vs, vd, rfl, r⟩ := mach_r.1 hv
  have o1 := r.1.one
  have o2 := r.2.one
  refine w_laws_toMachine (by simp) ?_
  unfold b_laws_toMachine
  simp -implicitDefEqProofs only [go_sem, o1, o2]
  intro b1 hb_b1 n_b1
  simp -implicitDefEqProofs only [go_sem, o1, o2, hb_b1]
  intro b2 hb_b2 m0_b2
  obtain ⟨z_b2_b1, y_b2_b1, n_b2⟩ := fne m0_b2
  simp only [H.set_base] at hb_b2
  simp -implicitDefEqProofs only [go_sem, o1, o2, hb_b1, hb_b2, z_b2_b1, y_b2_b1]
  intro b3 hb_b3 m0_b3
  obtain ⟨z_b3_b2, y_b3_b2, m1_b3⟩ := fne m0_b3
  obtain ⟨z_b3_b1, y_b3_b1, n_b3⟩ := fne m1_b3
  simp only [H.set_base] at hb_b3
  simp -implicitDefEqProofs only [go_sem, o1, o2, hb_b1, hb_b2, z_b2_b1, y_b2_b1, hb_b3, z_b3_b2, y_b3_b2, z_b3_b1, y_b3_b1]
  refine AC_of (toFlash_ac (r.ext ((((Ext.refl _).set' n_b1 _).set' n_b2 _).set' n_b3 _)) hs) ?_
  rintro _ h1 - ⟨e1, us, ud, rfl, f1⟩
  have g1 := e1.2.g b1 _ (by simp -implicitDefEqProofs only [go_sem, hb_b1, hb_b2, z_b2_b1, y_b2_b1, hb_b3, z_b3_b2, y_b3_b2, z_b3_b1, y_b3_b1]; rfl)
  have g2 := e1.2.g b2 _ (by simp -implicitDefEqProofs only [go_sem, hb_b1, hb_b2, z_b2_b1, y_b2_b1, hb_b3, z_b3_b2, y_b3_b2, z_b3_b1, y_b3_b1]; rfl)
  have g3 := e1.2.g b3 _ (by simp -implicitDefEqProofs only [go_sem, hb_b1, hb_b2, z_b2_b1, y_b2_b1, hb_b3, z_b3_b2, y_b3_b2, z_b3_b1, y_b3_b1]; rfl)
  have hb3 := e1.1
  simp only [H.set_base] at hb3
  have p1 := f1.1.sl.one
  have p2 := f1.2.1.sl.one
  simp -implicitDefEqProofs only [go_sem, ldc_get g1, ldc_get g2, ldc_get g3, stc_get g1, stc_get g2, stc_get g3, hb3, o1, o2, p1, p2, hb_b1, hb_b2, z_b2_b1, y_b2_b1, hb_b3, z_b3_b2, y_b3_b2, z_b3_b1, y_b3_b1]
  exact ⟨((Ext.trans (Ext.set' (Ext.set' (Ext.set' (Ext.refl h) n_b1 _) n_b2 _) n_b3 _) e1).set' n_b2 _).set' n_b3 _, _, rfl, mach_f.2 ⟨us, ud, rfl, FlF.back (FlF.set (FlF.set f1 (b := b2) (by simp -implicitDefEqProofs only [go_sem, hb_b1, hb_b2, z_b2_b1, y_b2_b1, hb_b3, z_b3_b2, y_b3_b2, z_b3_b1, y_b3_b1]; rfl) _) (H.set_get_same _ _ _) _) (Ext.set' (Ext.set' (Ext.set' (Ext.refl h) n_b1 _) n_b2 _) n_b3 _)⟩⟩
abbrev mcLT : List LT := [.f (.int .i64), .sl [.str], .sl [.int .i64, .str]]
theorem mach_of {h : H} {cs : List Value} (q : fitsT h mcLT cs) : ∃ m : UMach, RepR h (spMach m) cs ∧ m.ok := by
  obtain ⟨_, _, rfl, h1, q⟩ := fitsT_cons q
  obtain ⟨v8, _, rfl, ⟨r8, s8, w8, l8⟩, q⟩ := fitsT_cons q
  obtain ⟨v9, _, rfl, ⟨r9, s9, w9, l9⟩, q⟩ := fitsT_cons q
  obtain rfl := fitsT_nil q
  obtain ⟨a1, rfl, k1⟩ := okF_i h1
  obtain ⟨l8', rfl, m8⟩ := strs_of r8 w8
  obtain ⟨l9', rfl, m9⟩ := dirties_of r9 w9
  exact ⟨⟨a1, l8', l9'⟩, mach_r.2 ⟨v8, v9, rfl, s8, s9⟩, k1, by simpa using l8, m8, by simpa using l9, m9⟩
end Go.Proofs.YtiokibikhanfcaaGreat
