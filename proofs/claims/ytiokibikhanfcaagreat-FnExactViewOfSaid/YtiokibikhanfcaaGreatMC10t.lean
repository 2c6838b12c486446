/- A helper of this seat's claims (contracts of the functions): what it shows is shown for every input that its statements name, on no other condition. -/
import Derived.Test.YtiokibikhanfcaaGreatC10s
import Derived.Test.YtiokibikhanfcaaGreatCM
import Derived.Test.YtiokibikhanfcaaGreatC0
import Derived.Test.YtiokibikhanfcaaGreatKD
set_option linter.unusedVariables false
set_option linter.unusedSimpArgs false
set_option maxRecDepth 100000
namespace Go.Proofs.YtiokibikhanfcaaGreat
open Go.KH

/-! ## The laws' helpers for texts and images -/
/-- laws.eqImageOut -/
def b_laws_eqImageOut : C := (.seq (.ops [⟨(some 2), none, .box (.t 0)⟩, ⟨(some 3), none, .box (.t 1)⟩, q 4 (.mv (.c (.bool false)))])
 (.seq (.seq (.ops [q 5 (.fld 0 (.t 2)), q 6 (.ld false 1 (.t 5)), q 7 (.fld 0 (.t 3)), q 8 (.ld false 1 (.t 7)), ⟨(some 9), none, .call (.c (.func (.func 54) #[] #[])) [(.t 6), (.t 8)]⟩, q 10 (.un .not (.t 9))])
 (.cond (.t 10) (.seq (.ops [q 4 (.mv (.c (.bool false)))])
 .ret) .skip))
 (.seq (.seq (.ops [q 11 (.fld 1 (.t 2)), q 12 (.ld false 1 (.t 11)), q 13 (.fld 1 (.t 3)), q 14 (.ld false 1 (.t 13)), q 15 (.bin .neq (.t 12) (.t 14))])
 (.cond (.t 15) (.seq (.ops [q 4 (.mv (.c (.bool false)))])
 .ret) .skip))
 (.seq (.ops [q 4 (.mv (.c (.bool true)))])
 .ret))))
theorem w_laws_eqImageOut {args : List Value} {h : H} {Q : Value → H → Prop} (hl : args.length ≤ 16) (hk : wpc Tryz.prog b_laws_eqImageOut (retw [.tmp 4] Q) (argsFr args) h) : AC Tryz.prog 20 args h Q :=
  AC.of_wpc mixedOrders Tryz.func20 (by kernel_rfl) (by kernel_rfl : prepF Tryz.prog Tryz.f20 = some ⟨16, [.tmp 4], b_laws_eqImageOut⟩) hl hk

abbrev spMImg (o : List (List UInt8) × Int) (k : Int) : List Sp := [.s 1 (mks gStr 1 k o.1.length), .v (i64 o.2)]
theorem img_r {h : H} {o : List (List UInt8) × Int} {cs : List Value} : RepR h (spImg o) cs ↔ ∃ v, cs = [v, i64 o.2] ∧ Sl h v 1 (strs o.1) := by
  simp only [spImg, RepR_i, RepR_s, RepR_nil]
  constructor
  · rintro ⟨v, _, rfl, h1, _, rfl, rfl⟩; exact ⟨v, rfl, h1⟩
  · rintro ⟨v, rfl, h1⟩; exact ⟨v, _, rfl, h1, _, rfl, rfl⟩
theorem img_m {h : H} {o : List (List UInt8) × Int} {cs : List Value} {k : Int} : RepR h (spMImg o k) cs ↔ ∃ v, cs = [v, i64 o.2] ∧ Sl h v 1 (mks gStr 1 k o.1.length) := by
  simp only [spMImg, RepR_i, RepR_s, RepR_nil]
  constructor
  · rintro ⟨v, _, rfl, h1, _, rfl, rfl⟩; exact ⟨v, rfl, h1⟩
  · rintro ⟨v, rfl, h1⟩; exact ⟨v, _, rfl, h1, _, rfl, rfl⟩
theorem eqImageOut_pc {h : H} {c1 c2 : List Value} {a b : List (List UInt8) × Int} (ha : RepR h (spImg a) c1) (hb : RepR h (spImg b) c2) (hn : a.1.length ≤ maxLen) : PC Tryz.prog 20 [.agg c1.toArray, .agg c2.toArray] h (.bool (decide (a = b))) := by
  obtain ⟨v1, rfl, p1⟩ := img_r.1 ha
  obtain ⟨u1, rfl, q1⟩ := img_r.1 hb
  obtain ⟨x1, x2⟩ := a
  obtain ⟨w1, w2⟩ := b
  refine PC_of ?_
  refine w_laws_eqImageOut (by simp) ?_
  unfold b_laws_eqImageOut
  simp -implicitDefEqProofs only [go_sem]
  intro b1 hb_b1 n_b1
  simp -implicitDefEqProofs only [go_sem, hb_b1]
  intro b2 hb_b2 m0_b2
  obtain ⟨z_b2_b1, y_b2_b1, n_b2⟩ := fne m0_b2
  simp only [H.set_base] at hb_b2
  simp -implicitDefEqProofs only [go_sem, hb_b1, hb_b2, z_b2_b1, y_b2_b1]
  refine (eqStringS_pc (p1.ext (((Ext.refl _).set' n_b1 _).set' n_b2 _)) (q1.ext (((Ext.refl _).set' n_b1 _).set' n_b2 _)) hn).use ?_
  simp -implicitDefEqProofs only [go_sem, hb_b1, hb_b2, z_b2_b1, y_b2_b1]
  repeat' first | (refine Br.of (fun hc => ?_) (fun hc => ?_) <;> simp -implicitDefEqProofs only [go_sem, hc, hb_b1, hb_b2, z_b2_b1, y_b2_b1])
  all_goals exact ⟨(((Ext.refl _).set' n_b1 _).set' n_b2 _), by simp_all⟩
/-- laws.markImageOut -/
def b_laws_markImageOut : C := (.seq (.ops [⟨(some 2), none, .box (.t 0)⟩, q 4 (.mv (.c (i64 0)))])
 (.seq (.ops [q 5 (.fld 0 (.t 2)), q 6 (.ld false 1 (.t 5)), q 7 (.mv (.t 1)), ⟨(some 8), none, .call (.c (.func (.func 55) #[] #[])) [(.t 6), (.t 7)]⟩, q 1 (.mv (.t 8))])
 (.seq (.ops [q 9 (.mv (.t 1)), q 4 (.mv (.t 9))])
 .ret)))
theorem w_laws_markImageOut {args : List Value} {h : H} {Q : Value → H → Prop} (hl : args.length ≤ 10) (hk : wpc Tryz.prog b_laws_markImageOut (retw [.tmp 4] Q) (argsFr args) h) : AC Tryz.prog 21 args h Q :=
  AC.of_wpc mixedOrders Tryz.func21 (by kernel_rfl) (by kernel_rfl : prepF Tryz.prog Tryz.f21 = some ⟨10, [.tmp 4], b_laws_markImageOut⟩) hl hk

theorem markImageOut_ac {h0 h : H} {o : List (List UInt8) × Int} {cs : List Value} {k0 : Int} (hv : RepF h0 h (spImg o) cs) (hs : o.1.length ≤ 1048576) (hk : 1 ≤ k0 ∧ k0 ≤ 2097152) :
    AC Tryz.prog 21 [.agg cs.toArray, i64 k0] h fun r h' => r = i64 (k0 + o.1.length) ∧ Keep (blks cs) h h' ∧ RepR h' (spMImg o k0) cs := by
  obtain ⟨v, rfl, f1⟩ := img_f.1 hv
  refine w_laws_markImageOut (by simp) ?_
  unfold b_laws_markImageOut
  simp -implicitDefEqProofs only [go_sem]
  intro b1 hb_b1 n_b1
  simp -implicitDefEqProofs only [go_sem, hb_b1]
  refine AC_of (markStringS_ac (f1.ext ((Ext.refl _).set' n_b1 _)) (by omega) (by omega)) ?_
  rintro r h1 - ⟨rfl, k1, m1⟩
  simp -implicitDefEqProofs only [go_sem, hb_b1]
  exact ⟨((((Ext.refl _).set' n_b1 _)).keep _).trans (k1.mono fun b hb => ⟨v, by simp, hb⟩), img_m.2 ⟨v, rfl, m1.sl⟩⟩
/-- laws.heldImageOut -/
def b_laws_heldImageOut : C := (.seq (.ops [⟨(some 2), none, .box (.t 0)⟩, q 4 (.mv (.c (i64 0)))])
 (.seq (.ops [q 5 (.fld 0 (.t 2)), q 6 (.ld false 1 (.t 5)), q 7 (.mv (.t 1)), ⟨(some 8), none, .call (.c (.func (.func 56) #[] #[])) [(.t 6), (.t 7)]⟩, q 1 (.mv (.t 8))])
 (.seq (.seq (.ops [q 9 (.mv (.t 1)), q 10 (.bin .lss (.t 9) (.c (i64 0)))])
 (.cond (.t 10) (.seq (.ops [q 4 (.mv (.c (i64 (-1))))])
 .ret) .skip))
 (.seq (.ops [q 11 (.mv (.t 1)), q 4 (.mv (.t 11))])
 .ret))))
theorem w_laws_heldImageOut {args : List Value} {h : H} {Q : Value → H → Prop} (hl : args.length ≤ 12) (hk : wpc Tryz.prog b_laws_heldImageOut (retw [.tmp 4] Q) (argsFr args) h) : AC Tryz.prog 22 args h Q :=
  AC.of_wpc mixedOrders Tryz.func22 (by kernel_rfl) (by kernel_rfl : prepF Tryz.prog Tryz.f22 = some ⟨12, [.tmp 4], b_laws_heldImageOut⟩) hl hk

theorem heldImageOut_pc {h : H} {o : List (List UInt8) × Int} {cs : List Value} {k0 : Int} (hv : RepR h (spMImg o k0) cs) (hs : o.1.length ≤ 1048576) (hk : 1 ≤ k0 ∧ k0 ≤ 2097152) :
    PC Tryz.prog 22 [.agg cs.toArray, i64 k0] h (i64 (k0 + o.1.length)) := by
  obtain ⟨v, rfl, f1⟩ := img_m.1 hv
  refine PC_of ?_
  refine w_laws_heldImageOut (by simp) ?_
  unfold b_laws_heldImageOut
  simp -implicitDefEqProofs only [go_sem]
  intro b1 hb_b1 n_b1
  simp -implicitDefEqProofs only [go_sem, hb_b1]
  refine (heldStringS_pc (f1.ext ((Ext.refl _).set' n_b1 _)) (by omega) (by omega)).use ?_
  simp -implicitDefEqProofs only [go_sem, show ¬ (k0 + (o.1.length : Int) < 0) by omega, hb_b1]
  exact ((Ext.refl _).set' n_b1 _)
end Go.Proofs.YtiokibikhanfcaaGreat

set_option linter.unusedVariables false
set_option linter.unusedSimpArgs false
set_option maxRecDepth 100000
namespace Go.Proofs.YtiokibikhanfcaaGreat
open Go.KH

/-! ## Marks of moves; plans out -/
end Go.Proofs.YtiokibikhanfcaaGreat
