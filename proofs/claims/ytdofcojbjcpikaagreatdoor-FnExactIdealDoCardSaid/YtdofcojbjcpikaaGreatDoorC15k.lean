/- A helper of this seat's claims (contracts of the functions): what it shows is shown for every input that its statements name, on no other condition. -/
import Derived.Test.YtdofcojbjcpikaaGreatDoorMC15i
set_option linter.unusedVariables false
set_option linter.unusedSimpArgs false
set_option maxRecDepth 100000
namespace Go.Proofs.YtdofcojbjcpikaaGreatDoor
open Go.KH

/-! ## The reference's commands on ideals: the parts -/
def SpecI (h : H) (o : UIdealOut) (r : Value) (h' : H) : Prop := Ext h h' ∧ ∃ cs', r = .agg cs'.toArray ∧ RepF h h' (spIdealOut o) cs'
theorem out_f {h0 h : H} {o : UIdealOut} {ub us vr : Value} (f1 : Fre h0 h ub 1 (strs o.ideal.base)) (f2 : Fre h0 h us 4 (o.ideal.steps.map UStep.cells)) (d : Dj ub us) (fr : Fre h0 h vr 1 (ints o.reply)) (d2 : Dj ub vr) (d3 : Dj us vr) : RepF h0 h (spIdealOut o) (o.cells ub us vr) :=
  idealOut_f.2 ⟨ub, us, vr, rfl, f1, f2, fr, d, d2, d3⟩
theorem out_nil {h0 h : H} {j : UIdeal} {ub us : Value} {t : List UInt8} {n : Int} (f1 : Fre h0 h ub 1 (strs j.base)) (f2 : Fre h0 h us 4 (j.steps.map UStep.cells)) (d : Dj ub us) : RepF h0 h (spIdealOut ⟨j, t, [], n⟩) ((⟨j, t, [], n⟩ : UIdealOut).cells ub us nils) :=
  out_f (o := ⟨j, t, [], n⟩) f1 f2 d (.inl ⟨none, 0, rfl, rfl⟩) (fun _ _ h => by cases h) (fun _ _ h => by cases h)
theorem spec_fin {h hA hB h2 : H} {b4 : Nat} {X : Ob} {o : UIdealOut} {cs : List Value} (EA : Ext h hA) (n4 : h.get b4 = none) (gA4 : hA.get b4 = some X) (e5 : Ext hA hB) (e6 : Ext hB h2) (FF : RepF hB h2 (spIdealOut o) cs) (y : Ob) : SpecI h o (.agg cs.toArray) (h2.set b4 y) :=
  ⟨((EA.trans e5).trans e6).set' n4 _, _, rfl, ((FF.back e5).set (b := b4) gA4 _).back EA⟩
/-- The same where the ideal lies in the call's box. -/
theorem spec_box {h hA h2 : H} {b4 : Nat} {X : Ob} {o : UIdealOut} {cs : List Value} (EA : Ext h hA) (n4 : h.get b4 = none) (gA4 : hA.get b4 = some X) (e2 : Ext hA h2) (FF : RepF hA h2 (spIdealOut o) cs) (y : Ob) : SpecI h o (.agg cs.toArray) (h2.set b4 y) :=
  ⟨(EA.trans e2).set' n4 _, _, rfl, (FF.set (b := b4) gA4 _).back EA⟩
theorem spec_fin2 {h hA hB h2 : H} {b4 b5 : Nat} {X x : Ob} {o : UIdealOut} {cs : List Value} (hne : b4 ≠ b5) (EA : Ext h hA) (n4 : h.get b4 = none) (gA4 : hA.get b4 = some X) (e5 : Ext hA hB) (e6 : Ext hB (h2.set b5 x)) (FF : RepF hB (h2.set b5 x) (spIdealOut o) cs) (y : Ob) : SpecI h o (.agg cs.toArray) ((h2.set b4 y).set b5 x) := by
  have : (h2.set b4 y).set b5 x = (h2.set b5 x).set b4 y := by first | exact H.set_comm _ _ _ hne | exact (H.set_comm _ _ _ hne).symm | exact H.set_comm _ _ _ hne.symm | exact (H.set_comm _ _ _ hne.symm).symm
  rw [this]
  exact spec_fin EA n4 gA4 e5 e6 FF y
theorem spec_box2 {h hA h2 : H} {b4 b5 : Nat} {X x : Ob} {o : UIdealOut} {cs : List Value} (hne : b4 ≠ b5) (EA : Ext h hA) (n4 : h.get b4 = none) (gA4 : hA.get b4 = some X) (e2 : Ext hA (h2.set b5 x)) (FF : RepF hA (h2.set b5 x) (spIdealOut o) cs) (y : Ob) : SpecI h o (.agg cs.toArray) ((h2.set b4 y).set b5 x) := by
  have : (h2.set b4 y).set b5 x = (h2.set b5 x).set b4 y := by first | exact H.set_comm _ _ _ hne | exact (H.set_comm _ _ _ hne).symm | exact H.set_comm _ _ _ hne.symm | exact (H.set_comm _ _ _ hne.symm).symm
  rw [this]
  exact spec_box EA n4 gA4 e2 FF y
theorem spec_box3 {h hA h2 : H} {b4 b5 b6 : Nat} {X x z : Ob} {o : UIdealOut} {cs : List Value} (hne : b4 ≠ b5) (hn6 : b4 ≠ b6) (EA : Ext h hA) (n4 : h.get b4 = none) (gA4 : hA.get b4 = some X) (e2 : Ext hA ((h2.set b5 x).set b6 z)) (FF : RepF hA ((h2.set b5 x).set b6 z) (spIdealOut o) cs) (y : Ob) : SpecI h o (.agg cs.toArray) (((h2.set b4 y).set b5 x).set b6 z) := by
  have : (h2.set b4 y).set b5 x = (h2.set b5 x).set b4 y := by first | exact H.set_comm _ _ _ hne | exact (H.set_comm _ _ _ hne).symm | exact H.set_comm _ _ _ hne.symm | exact (H.set_comm _ _ _ hne.symm).symm
  rw [this]
  exact spec_box2 hn6 EA n4 gA4 e2 FF y
theorem fre_reply {h0 h : H} {bx : Nat} (hbx : h.base ≤ bx) (n : h0.get bx = none) (l : List Int) : Fre h0 (h.set bx ⟨l.map i64, l.length⟩) (sl bx 0 l.length l.length) 1 (ints l) := by
  refine .inr ⟨bx, l.length, _, ?_, ?_, ?_, n, H.set_get_same _ _ _, ?_, Wid.map fun _ => rfl⟩
  · simp only [ints, List.length_map]
  · simp only [ints, List.length_map]; exact Nat.le_refl _
  · rw [H.set_base]; exact hbx
  · rw [ints_flat]; exact List.prefix_refl _
theorem dj_new {h : H} {v : Value} {bx n c : Nat} (k : Known h v) (nx : h.get bx = none) : Dj v (sl bx 0 n c) := fun x h1 h2 => by
  have := blk_ob h2
  simp only [ob, Option.some.injEq] at this
  subst this
  exact k _ h1 nx
theorem BoxI.out {h0 h : H} {b : Nat} {j : UIdeal} {vb vs : Value} (k : BoxI h0 h b j vb vs) (t : List UInt8) (n : Int) : RepF h0 h (spIdealOut ⟨j, t, [], n⟩) ((⟨j, t, [], n⟩ : UIdealOut).cells vb vs nils) := out_nil k.f1 k.f2.fre k.d
theorem ownX {h0 h : H} {v : Value} {w : Nat} {rows : List (List Value)} (o : Own h0 h v w rows) {b : Nat} {x : Ob} (hb : h0.get b = some x) (y : Ob) : Own h0 (h.set b y) v w rows := o.set0 (by rw [hb]; simp) y
theorem l15CopyO_ac {h : H} {cs : List Value} {i : UIdeal} (hv : RepR h (spIdeal i) cs) (hs : i.small) : AC Tryz.prog 119 [.agg cs.toArray] h fun r h' => Ext h h' ∧ ∃ vb vs, r = .agg (i.cells vb vs).toArray ∧ Fre h h' vb 1 (strs i.base) ∧ Own h h' vs 4 (i.steps.map UStep.cells) ∧ Dj vb vs := by
  obtain ⟨vh, vm, rfl, a1, a2⟩ := ideal_r.1 hv
  have l1 : (strs i.base).length = i.base.length := by simp
  have l2 : (i.steps.map UStep.cells).length = i.steps.length := by simp
  have w2 : Wid 4 (i.steps.map UStep.cells) := Wid.map fun _ => rfl
  have p1 := a1.one
  have p2 := a2.one
  have := hs.1
  have := hs.2
  skip
  refine w_spec_l15Copy (by simp) ?_
  unfold b_spec_l15Copy
  simp -implicitDefEqProofs only [go_sem, p1, p2]
  intro b1 hb_b1 n_b1
  simp -implicitDefEqProofs only [go_sem, p1, p2, hb_b1]
  intro b2 hb_b2 m0_b2
  obtain ⟨z_b2_b1, y_b2_b1, n_b2⟩ := fne m0_b2
  simp only [H.set_base] at hb_b2
  simp -implicitDefEqProofs only [go_sem, p1, p2, hb_b1, hb_b2, z_b2_b1, y_b2_b1]
  intro b3 hb3 hn3
  have hsrc := src0 hn3 (a1.ext (((Ext.refl _).set' n_b1 _).set' n_b2 _)) (strs_wid _) (by decide)
  obtain ⟨z32, y32, n32⟩ := fne hn3
  obtain ⟨z31, y31, n31⟩ := fne n32
  simp -implicitDefEqProofs only [go_sem, hsrc, z31, y31, z32, y32, p1, p2, hb_b1, hb_b2, z_b2_b1, y_b2_b1]
  refine app0 hb3 hn3 rfl (strs_wid _) (strs_one _) (by omega) ?_
  intro v1 h1 e1 o1
  have g1 := e1.2.g b1 _ (by simp -implicitDefEqProofs only [go_sem, p1, p2, hb_b1, hb_b2, z_b2_b1, y_b2_b1]; rfl)
  have g2 := e1.2.g b2 _ (by simp -implicitDefEqProofs only [go_sem, p1, p2, hb_b1, hb_b2, z_b2_b1, y_b2_b1]; rfl)
  have hb4 := e1.1
  simp only [H.set_base] at hb4
  have f1 := o1.fre
  obtain ⟨av1, cv1, rfl⟩ := f1.shape
  simp -implicitDefEqProofs only [go_sem, ldc_get g1, ldc_get g2, stc_get g1, stc_get g2, hb4, p1, p2, hb_b1, hb_b2, z_b2_b1, y_b2_b1]
  have E1 := fun x => (((((Ext.refl _).set' n_b1 _).set' n_b2 _)).trans e1).set' n_b1 x
  have G1 : ∀ x y, ((h.set b1 x).set b2 y).get b1 = some x := fun x y => by simp -implicitDefEqProofs only [go_sem, p1, p2, hb_b1, hb_b2, z_b2_b1, y_b2_b1]
  have f1' := fun x => f1.set (b := b1) (G1 _ _) x
  intro b4 hb4' hn4
  have z41 : (b4 = b1) = False := eq_false fun e => by subst e; simp at hn4
  have z42 : (b4 = b2) = False := eq_false fun e => by subst e; rw [H.set_get_ne _ _ _ _ (of_eq_false z_b2_b1), g2] at hn4; cases hn4
  have y41 : (b1 = b4) = False := eq_false fun e => (of_eq_false z41) e.symm
  have y42 : (b2 = b4) = False := eq_false fun e => (of_eq_false z42) e.symm
  have hsrc2 := src0 hn4 (a2.ext (E1 _)) w2 (by decide)
  simp -implicitDefEqProofs only [go_sem, hsrc2, z41, y41, z42, y42, p1, p2, hb_b1, hb_b2, z_b2_b1, y_b2_b1]
  refine app0 hb4' hn4 rfl w2 (steps_one _) (by omega) ?_
  intro v2 h2 e2 o2
  have j1 := e2.2.g b1 _ (by simp -implicitDefEqProofs only [go_sem, p1, p2, hb_b1, hb_b2, z_b2_b1, y_b2_b1]; rfl)
  have j2 := e2.2.g b2 _ (by simp -implicitDefEqProofs only [go_sem, g2, p1, p2, hb_b1, hb_b2, z_b2_b1, y_b2_b1]; rfl)
  have hb5 := e2.1
  simp only [H.set_base, hb4] at hb5
  have f2 := o2
  obtain ⟨av2, cv2, rfl⟩ := f2.shape
  simp -implicitDefEqProofs only [go_sem, ldc_get j1, ldc_get j2, stc_get j1, stc_get j2, hb5, p1, p2, hb_b1, hb_b2, z_b2_b1, y_b2_b1]
  refine ⟨(((E1 _).trans e2).set' n_b2 _).set' n_b1 _, _, _, rfl, ?_, ?_, ?_⟩
  · exact ((((f1' _).ext e2).set (b := b2) (H.set_get_same _ _ _) _).set (b := b1) (G1 _ _) _).back (((Ext.refl _).set' n_b1 _).set' n_b2 _)
  · exact (ownX (b := b1) (ownX (b := b2) f2 (by simp -implicitDefEqProofs only [go_sem, g2, p1, p2, hb_b1, hb_b2, z_b2_b1, y_b2_b1]; rfl) _) (H.set_get_same _ _ _) _).back (E1 _)
  · exact Dj.of (f1' _).known f2.fre.new
/-- spec.l15Fail -/
def b_spec_l15Fail : C := (.seq (.ops [⟨(some 2), none, .box (.t 0)⟩, ⟨(some 4), none, .alloc [(i64 0), (i64 0), (i64 0), (i64 0), (i64 0), (i64 0), (str []), nils, nils, (str []), nils, (i64 0)]⟩])
 (.seq (.ops [q 5 (.ld true 9 (.t 2)), ⟨(some 6), none, .call (.c (.func (.func 119) #[] #[])) [(.t 5)]⟩, q 7 (.mv (.t 1)), q 8 (.build [(i64 0), (i64 0), (i64 0), (i64 0), (i64 0), (i64 0), (str []), nils, nils, (str []), nils, (i64 0)] [(0, 9, (.t 6)), (11, 1, (.t 7))]), ⟨none, none, .st 12 (.t 4) (.t 8)⟩])
 .ret))
theorem w_spec_l15Fail {args : List Value} {h : H} {Q : Value → H → Prop} (hl : args.length ≤ 9) (hk : wpc Tryz.prog b_spec_l15Fail (retw [.cell 4 true 12] Q) (argsFr args) h) : AC Tryz.prog 121 args h Q :=
  AC.of_wpc mixedOrders Tryz.func121 (by kernel_rfl) (by kernel_rfl : prepF Tryz.prog Tryz.f121 = some ⟨9, [.cell 4 true 12], b_spec_l15Fail⟩) hl hk

theorem l15Fail_ac {h : H} {cs : List Value} {i : UIdeal} {n : Int} (hv : RepR h (spIdeal i) cs) (hs : i.small) : AC Tryz.prog 121 [.agg cs.toArray, i64 n] h fun r h' => Ext h h' ∧ ∃ cs', r = .agg cs'.toArray ∧ RepF h h' (spIdealOut (codeI i n)) cs' := by
  have l1 := hv.len
  simp only [List.length_cons, List.length_nil, Nat.reduceAdd] at l1
  have t1 := take_len l1
  have o1 := hv.one
  skip
  refine w_spec_l15Fail (by simp) ?_
  unfold b_spec_l15Fail
  simp -implicitDefEqProofs only [go_sem, l1, t1, o1]
  intro b2 hb_b2 n_b2
  simp -implicitDefEqProofs only [go_sem, l1, t1, o1, hb_b2]
  intro b4 hb_b4 m0_b4
  obtain ⟨z_b4_b2, y_b4_b2, n_b4⟩ := fne m0_b4
  simp only [H.set_base] at hb_b4
  simp -implicitDefEqProofs only [go_sem, l1, t1, o1, hb_b2, hb_b4, z_b4_b2, y_b4_b2]
  refine AC_of (l15CopyO_ac (hv.ext (((Ext.refl _).set' n_b2 _).set' n_b4 _)) hs) ?_
  rintro _ h1 - ⟨e1, ub, us, rfl, F1, F2, d⟩
  have v1 := F1.sl.one
  have v2 := F2.sl.one
  have v3 := F1.sl.vcl
  have v4 := F2.sl.vcl
  have g4 := e1.2.g b4 _ (by simp -implicitDefEqProofs only [go_sem, l1, t1, o1, hb_b2, hb_b4, z_b4_b2, y_b4_b2]; rfl)
  have hb4 := e1.1
  simp only [H.set_base] at hb4
  simp -implicitDefEqProofs only [go_sem, v1, v2, v3, v4, ldc_get g4, stc_get g4, hb4, l1, t1, o1, hb_b2, hb_b4, z_b4_b2, y_b4_b2]
  exact ⟨(((((Ext.refl _).set' n_b2 _).set' n_b4 _)).trans e1).set' n_b4 _, _, rfl, ((out_nil (j := i) (t := []) (n := n) F1 F2.fre d).set (b := b4) (H.set_get_same _ _ _) _).back (((Ext.refl _).set' n_b2 _).set' n_b4 _)⟩
/-- spec.l15Free -/
def b_spec_l15Free : C := (.seq (.ops [⟨(some 1), none, .box (.t 0)⟩, q 2 (.mv (.c (i64 0)))])
 (.seq (.ops [q 3 (.fld 4 (.t 1)), q 4 (.ld false 1 (.t 3)), q 5 (.bin .sub (.c (i64 24)) (.t 4)), q 6 (.fld 2 (.t 1)), q 7 (.ld false 1 (.t 6)), q 8 (.bin .sub (.t 5) (.t 7)), q 9 (.fld 3 (.t 1)), q 10 (.ld false 1 (.t 9)), q 11 (.bin .sub (.t 8) (.t 10)), q 2 (.mv (.t 11))])
 .ret))
theorem w_spec_l15Free {args : List Value} {h : H} {Q : Value → H → Prop} (hl : args.length ≤ 12) (hk : wpc Tryz.prog b_spec_l15Free (retw [.tmp 2] Q) (argsFr args) h) : AC Tryz.prog 125 args h Q :=
  AC.of_wpc mixedOrders Tryz.func125 (by kernel_rfl) (by kernel_rfl : prepF Tryz.prog Tryz.f125 = some ⟨12, [.tmp 2], b_spec_l15Free⟩) hl hk

theorem l15Free_pc {h : H} {cs : List Value} {i : UIdeal} (hv : RepR h (spIdeal i) cs) (hr : (0 ≤ i.held ∧ i.held ≤ 24) ∧ (0 ≤ i.need ∧ i.need ≤ 20) ∧ (0 ≤ i.stash ∧ i.stash ≤ 4)) : PC Tryz.prog 125 [.agg cs.toArray] h (i64 (freeI i)) := by
  obtain ⟨vh, vm, rfl, a1, a2⟩ := ideal_r.1 hv
  have p1 := a1.one
  have p2 := a2.one
  refine PC_of ?_
  unfold freeI
  skip
  refine w_spec_l15Free (by simp) ?_
  unfold b_spec_l15Free
  simp -implicitDefEqProofs only [go_sem, p1, p2]
  intro b1 hb_b1 n_b1
  simp -implicitDefEqProofs only [go_sem, wrap_i64 (show -(9223372036854775808 : Int) ≤ (24 - i.held) by omega) (show (24 - i.held) < 9223372036854775808 by omega), wrap_i64 (show -(9223372036854775808 : Int) ≤ (24 - i.held - i.need) by omega) (show (24 - i.held - i.need) < 9223372036854775808 by omega), wrap_i64 (show -(9223372036854775808 : Int) ≤ (24 - i.held - i.need - i.stash) by omega) (show (24 - i.held - i.need - i.stash) < 9223372036854775808 by omega), p1, p2, hb_b1]
  exact ((Ext.refl _).set' n_b1 _)
end Go.Proofs.YtdofcojbjcpikaaGreatDoor
