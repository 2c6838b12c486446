/- A helper of this seat's claims (contracts of the functions): what it shows is shown for every input that its statements name, on no other condition. -/
import Derived.Test.YtiokibikhanfcaaGreatCG
set_option linter.unusedVariables false
set_option linter.unusedSimpArgs false
set_option maxRecDepth 100000
namespace Go.Proofs.YtiokibikhanfcaaGreat
open Go.KH

/-! ## Marks of machines -/
def flN (f : UFlash) : Int := f.sec.length + (2 * f.dirty.length : Nat)
def FlM (h : H) (f : UFlash) (k : Int) (vs vd : Value) : Prop := Sl h vs 1 (mks gStr 1 k f.sec.length) ∧ Sl h vd 2 (mks gDirty 2 (k + f.sec.length) f.dirty.length)
theorem FlM.ext {h h' : H} {f : UFlash} {k : Int} {vs vd : Value} (r : FlM h f k vs vd) (e : Ext h h') : FlM h' f k vs vd := ⟨r.1.ext e, r.2.ext e⟩
abbrev spMMach (m : UMach) (k : Int) : List Sp := [.v (i64 m.blocks), .s 1 (mks gStr 1 k m.flash.sec.length), .s 2 (mks gDirty 2 (k + m.flash.sec.length) m.flash.dirty.length)]
abbrev spMMachO (o : UMach × Int) (k : Int) : List Sp := [.v (i64 o.1.blocks), .s 1 (mks gStr 1 k o.1.flash.sec.length), .s 2 (mks gDirty 2 (k + o.1.flash.sec.length) o.1.flash.dirty.length), .v (i64 o.2)]
theorem mach_m {h : H} {m : UMach} {cs : List Value} {k : Int} : RepR h (spMMach m k) cs ↔ ∃ vs vd, cs = [i64 m.blocks, vs, vd] ∧ FlM h m.flash k vs vd := by
  simp only [spMMach, RepR_i, RepR_s, RepR_nil, FlM]
  constructor
  · rintro ⟨_, rfl, vs, _, rfl, h1, vd, _, rfl, h2, rfl⟩; exact ⟨vs, vd, rfl, h1, h2⟩
  · rintro ⟨vs, vd, rfl, h1, h2⟩; exact ⟨_, rfl, vs, _, rfl, h1, vd, _, rfl, h2, rfl⟩
theorem machO_m {h : H} {o : UMach × Int} {cs : List Value} {k : Int} : RepR h (spMMachO o k) cs ↔ ∃ vs vd, cs = [i64 o.1.blocks, vs, vd, i64 o.2] ∧ FlM h o.1.flash k vs vd := by
  simp only [spMMachO, RepR_i, RepR_s, RepR_nil, FlM]
  constructor
  · rintro ⟨_, rfl, vs, _, rfl, h1, vd, _, rfl, h2, _, rfl, rfl⟩; exact ⟨vs, vd, rfl, h1, h2⟩
  · rintro ⟨vs, vd, rfl, h1, h2⟩; exact ⟨_, rfl, vs, _, rfl, h1, vd, _, rfl, h2, _, rfl, rfl⟩
theorem flN_le {f : UFlash} (hs : f.fin1) : 0 ≤ flN f ∧ flN f ≤ 4194304 := by
  unfold UFlash.fin1 at hs
  unfold flN; omega
/-- laws.markFlash -/
def b_laws_markFlash : C := (.seq (.ops [⟨(some 2), none, .box (.t 0)⟩, q 4 (.mv (.c (i64 0)))])
 (.seq (.ops [q 5 (.fld 0 (.t 2)), q 6 (.ld false 1 (.t 5)), q 7 (.mv (.t 1)), ⟨(some 8), none, .call (.c (.func (.func 55) #[] #[])) [(.t 6), (.t 7)]⟩, q 1 (.mv (.t 8))])
 (.seq (.ops [q 9 (.fld 1 (.t 2)), q 10 (.ld false 1 (.t 9)), q 11 (.mv (.t 1)), ⟨(some 12), none, .call (.c (.func (.func 92) #[] #[])) [(.t 10), (.t 11)]⟩, q 1 (.mv (.t 12))])
 (.seq (.ops [q 13 (.mv (.t 1)), q 4 (.mv (.t 13))])
 .ret))))
theorem w_laws_markFlash {args : List Value} {h : H} {Q : Value → H → Prop} (hl : args.length ≤ 14) (hk : wpc Tryz.prog b_laws_markFlash (retw [.tmp 4] Q) (argsFr args) h) : AC Tryz.prog 48 args h Q :=
  AC.of_wpc mixedOrders Tryz.func48 (by kernel_rfl) (by kernel_rfl : prepF Tryz.prog Tryz.f48 = some ⟨14, [.tmp 4], b_laws_markFlash⟩) hl hk

theorem markFlash_ac {h0 h : H} {f : UFlash} {vs vd : Value} {k0 : Int} (r : FlF h0 h f vs vd) (hs : f.fin1) (hk : 1 ≤ k0 ∧ k0 ≤ 8388608) :
    AC Tryz.prog 48 [.agg #[vs, vd], i64 k0] h fun r h' => r = i64 (k0 + flN f) ∧ Keep (blks [vs, vd]) h h' ∧ FlM h' f k0 vs vd := by
  obtain ⟨f1, f2, d⟩ := r
  obtain ⟨hs1, hs2⟩ := hs
  have o1 := f1.sl.one
  have o2 := f2.sl.one
  skip
  refine w_laws_markFlash (by simp) ?_
  unfold b_laws_markFlash
  simp -implicitDefEqProofs only [go_sem, o1, o2]
  intro b1 hb_b1 n_b1
  simp -implicitDefEqProofs only [go_sem, o1, o2, hb_b1]
  refine AC_of (markStringS_ac (f1.ext ((Ext.refl _).set' n_b1 _)) (by omega) (by omega)) ?_
  rintro r h1 - ⟨rfl, k1, m1⟩
  have nb : ∀ b, blk vs = some b → ¬ b = b1 := fun b hb e => by subst e; exact absurd (f1.known b hb) (by rw [n_b1]; simp)
  have g1 := k1.2.1 b1 _ (fun e => nb _ e rfl) (by simp -implicitDefEqProofs only [go_sem, o1, o2, hb_b1]; rfl)
  simp -implicitDefEqProofs only [go_sem, ldc_get g1, o1, o2, hb_b1]
  refine AC_of (markDirtyS_ac ((f2.ext ((Ext.refl _).set' n_b1 _)).keep k1 (fun b hb e => d b e hb)) (by omega) (by omega)) ?_
  rintro r h2 - ⟨rfl, k2, m2⟩
  simp -implicitDefEqProofs only [go_sem, o1, o2, hb_b1]
  refine ⟨by rw [Int.add_assoc]; rfl, ((((Ext.refl _).set' n_b1 _)).keep _).trans ((k1.mono fun b hb => ⟨vs, by simp, hb⟩).trans (k2.mono fun b hb => ⟨vd, by simp, hb⟩)), (m1.keep k2 fun b hb => d b hb).sl, m2.sl⟩
/-- laws.heldFlash -/
def b_laws_heldFlash : C := (.seq (.ops [⟨(some 2), none, .box (.t 0)⟩, q 4 (.mv (.c (i64 0)))])
 (.seq (.ops [q 5 (.fld 0 (.t 2)), q 6 (.ld false 1 (.t 5)), q 7 (.mv (.t 1)), ⟨(some 8), none, .call (.c (.func (.func 56) #[] #[])) [(.t 6), (.t 7)]⟩, q 1 (.mv (.t 8))])
 (.seq (.seq (.ops [q 9 (.mv (.t 1)), q 10 (.bin .lss (.t 9) (.c (i64 0)))])
 (.cond (.t 10) (.seq (.ops [q 4 (.mv (.c (i64 (-1))))])
 .ret) .skip))
 (.seq (.ops [q 11 (.fld 1 (.t 2)), q 12 (.ld false 1 (.t 11)), q 13 (.mv (.t 1)), ⟨(some 14), none, .call (.c (.func (.func 185) #[] #[])) [(.t 12), (.t 13)]⟩, q 1 (.mv (.t 14))])
 (.seq (.seq (.ops [q 15 (.mv (.t 1)), q 16 (.bin .lss (.t 15) (.c (i64 0)))])
 (.cond (.t 16) (.seq (.ops [q 4 (.mv (.c (i64 (-1))))])
 .ret) .skip))
 (.seq (.ops [q 17 (.mv (.t 1)), q 4 (.mv (.t 17))])
 .ret))))))
theorem w_laws_heldFlash {args : List Value} {h : H} {Q : Value → H → Prop} (hl : args.length ≤ 18) (hk : wpc Tryz.prog b_laws_heldFlash (retw [.tmp 4] Q) (argsFr args) h) : AC Tryz.prog 120 args h Q :=
  AC.of_wpc mixedOrders Tryz.func120 (by kernel_rfl) (by kernel_rfl : prepF Tryz.prog Tryz.f120 = some ⟨18, [.tmp 4], b_laws_heldFlash⟩) hl hk

theorem heldFlash_pc {h : H} {f : UFlash} {vs vd : Value} {k0 : Int} (r : FlM h f k0 vs vd) (hs : f.fin1) (hk : 1 ≤ k0 ∧ k0 ≤ 8388608) :
    PC Tryz.prog 120 [.agg #[vs, vd], i64 k0] h (i64 (k0 + flN f)) := by
  obtain ⟨f1, f2⟩ := r
  obtain ⟨hs1, hs2⟩ := hs
  have o1 := f1.one
  have o2 := f2.one
  skip
  refine PC_of ?_
  refine w_laws_heldFlash (by simp) ?_
  unfold b_laws_heldFlash
  simp -implicitDefEqProofs only [go_sem, o1, o2]
  intro b1 hb_b1 n_b1
  simp -implicitDefEqProofs only [go_sem, o1, o2, hb_b1]
  refine (heldStringS_pc (f1.ext ((Ext.refl _).set' n_b1 _)) (by omega) (by omega)).use ?_
  simp -implicitDefEqProofs only [go_sem, show ¬ (k0 + (f.sec.length : Int) < 0) by omega, o1, o2, hb_b1]
  refine (heldDirtyS_pc (f2.ext ((Ext.refl _).set' n_b1 _)) (by omega) (by omega)).use ?_
  simp -implicitDefEqProofs only [go_sem, show ¬ (k0 + (f.sec.length : Int) + ((2 * f.dirty.length : Nat) : Int) < 0) by omega, o1, o2, hb_b1]
  exact ⟨((Ext.refl _).set' n_b1 _), by unfold flN; rw [Int.add_assoc]⟩
/-- laws.markMachine -/
def b_laws_markMachine : C := (.seq (.ops [⟨(some 2), none, .box (.t 0)⟩, q 4 (.mv (.c (i64 0)))])
 (.seq (.ops [q 5 (.fld 1 (.t 2)), q 6 (.ld true 2 (.t 5)), q 7 (.mv (.t 1)), ⟨(some 8), none, .call (.c (.func (.func 48) #[] #[])) [(.t 6), (.t 7)]⟩, q 1 (.mv (.t 8))])
 (.seq (.ops [q 9 (.mv (.t 1)), q 4 (.mv (.t 9))])
 .ret)))
theorem w_laws_markMachine {args : List Value} {h : H} {Q : Value → H → Prop} (hl : args.length ≤ 10) (hk : wpc Tryz.prog b_laws_markMachine (retw [.tmp 4] Q) (argsFr args) h) : AC Tryz.prog 15 args h Q :=
  AC.of_wpc mixedOrders Tryz.func15 (by kernel_rfl) (by kernel_rfl : prepF Tryz.prog Tryz.f15 = some ⟨10, [.tmp 4], b_laws_markMachine⟩) hl hk

theorem markMachine_ac {h0 h : H} {m : UMach} {cs : List Value} {k0 : Int} (hv : RepF h0 h (spMach m) cs) (hs : m.flash.fin1) (hk : 1 ≤ k0 ∧ k0 ≤ 8388608) :
    AC Tryz.prog 15 [.agg cs.toArray, i64 k0] h fun r h' => r = i64 (k0 + flN m.flash) ∧ Keep (blks cs) h h' ∧ RepR h' (spMMach m k0) cs := by
  obtain ⟨vs, vd, rfl, r⟩ := mach_f.1 hv
  have o1 := r.1.sl.one
  have o2 := r.2.1.sl.one
  skip
  refine w_laws_markMachine (by simp) ?_
  unfold b_laws_markMachine
  simp -implicitDefEqProofs only [go_sem, o1, o2]
  intro b1 hb_b1 n_b1
  simp -implicitDefEqProofs only [go_sem, o1, o2, hb_b1]
  refine AC_of (markFlash_ac (r.ext ((Ext.refl _).set' n_b1 _)) hs hk) ?_
  rintro _ h1 - ⟨rfl, k1, m1⟩
  simp -implicitDefEqProofs only [go_sem, o1, o2, hb_b1]
  exact ⟨((((Ext.refl _).set' n_b1 _)).keep _).trans (k1.mono fun b ⟨v, hv, e⟩ => ⟨v, List.mem_cons_of_mem _ hv, e⟩), mach_m.2 ⟨vs, vd, rfl, m1⟩⟩
/-- laws.heldMachine -/
def b_laws_heldMachine : C := (.seq (.ops [⟨(some 2), none, .box (.t 0)⟩, q 4 (.mv (.c (i64 0)))])
 (.seq (.ops [q 5 (.fld 1 (.t 2)), q 6 (.ld true 2 (.t 5)), q 7 (.mv (.t 1)), ⟨(some 8), none, .call (.c (.func (.func 120) #[] #[])) [(.t 6), (.t 7)]⟩, q 1 (.mv (.t 8))])
 (.seq (.seq (.ops [q 9 (.mv (.t 1)), q 10 (.bin .lss (.t 9) (.c (i64 0)))])
 (.cond (.t 10) (.seq (.ops [q 4 (.mv (.c (i64 (-1))))])
 .ret) .skip))
 (.seq (.ops [q 11 (.mv (.t 1)), q 4 (.mv (.t 11))])
 .ret))))
theorem w_laws_heldMachine {args : List Value} {h : H} {Q : Value → H → Prop} (hl : args.length ≤ 12) (hk : wpc Tryz.prog b_laws_heldMachine (retw [.tmp 4] Q) (argsFr args) h) : AC Tryz.prog 61 args h Q :=
  AC.of_wpc mixedOrders Tryz.func61 (by kernel_rfl) (by kernel_rfl : prepF Tryz.prog Tryz.f61 = some ⟨12, [.tmp 4], b_laws_heldMachine⟩) hl hk

theorem heldMachine_pc {h : H} {f : UFlash} {n : Int} {vs vd : Value} {k0 : Int} (r : FlM h f k0 vs vd) (hs : f.fin1) (hk : 1 ≤ k0 ∧ k0 ≤ 8388608) :
    PC Tryz.prog 61 [.agg #[i64 n, vs, vd], i64 k0] h (i64 (k0 + flN f)) := by
  have hn := flN_le hs
  have o1 := r.1.one
  have o2 := r.2.one
  skip
  refine PC_of ?_
  refine w_laws_heldMachine (by simp) ?_
  unfold b_laws_heldMachine
  simp -implicitDefEqProofs only [go_sem, o1, o2]
  intro b1 hb_b1 n_b1
  simp -implicitDefEqProofs only [go_sem, o1, o2, hb_b1]
  refine (heldFlash_pc (r.ext ((Ext.refl _).set' n_b1 _)) hs hk).use ?_
  simp -implicitDefEqProofs only [go_sem, show ¬ (k0 + flN f < 0) by omega, o1, o2, hb_b1]
  exact ((Ext.refl _).set' n_b1 _)
/-- laws.eqMachineOut -/
def b_laws_eqMachineOut : C := (.seq (.ops [⟨(some 2), none, .box (.t 0)⟩, ⟨(some 3), none, .box (.t 1)⟩, q 4 (.mv (.c (.bool false)))])
 (.seq (.seq (.ops [q 5 (.fld 0 (.t 2)), q 6 (.ld true 3 (.t 5)), q 7 (.fld 0 (.t 3)), q 8 (.ld true 3 (.t 7)), ⟨(some 9), none, .call (.c (.func (.func 14) #[] #[])) [(.t 6), (.t 8)]⟩, q 10 (.un .not (.t 9))])
 (.cond (.t 10) (.seq (.ops [q 4 (.mv (.c (.bool false)))])
 .ret) .skip))
 (.seq (.seq (.ops [q 11 (.fld 3 (.t 2)), q 12 (.ld false 1 (.t 11)), q 13 (.fld 3 (.t 3)), q 14 (.ld false 1 (.t 13)), q 15 (.bin .neq (.t 12) (.t 14))])
 (.cond (.t 15) (.seq (.ops [q 4 (.mv (.c (.bool false)))])
 .ret) .skip))
 (.seq (.ops [q 4 (.mv (.c (.bool true)))])
 .ret))))
theorem w_laws_eqMachineOut {args : List Value} {h : H} {Q : Value → H → Prop} (hl : args.length ≤ 16) (hk : wpc Tryz.prog b_laws_eqMachineOut (retw [.tmp 4] Q) (argsFr args) h) : AC Tryz.prog 25 args h Q :=
  AC.of_wpc mixedOrders Tryz.func25 (by kernel_rfl) (by kernel_rfl : prepF Tryz.prog Tryz.f25 = some ⟨16, [.tmp 4], b_laws_eqMachineOut⟩) hl hk

theorem eqMachineOut_pc {h : H} {c1 c2 : List Value} {a b : UMach × Int} (ha : RepR h (spMachO a) c1) (hb : RepR h (spMachO b) c2) (hn : a.1.flash.fin) : PC Tryz.prog 25 [.agg c1.toArray, .agg c2.toArray] h (.bool (decide (a = b))) := by
  obtain ⟨vs, vd, rfl, r1⟩ := machO_r.1 ha
  obtain ⟨us, ud, rfl, r2⟩ := machO_r.1 hb
  have o1 := r1.1.one
  have o2 := r1.2.one
  have o3 := r2.1.one
  have o4 := r2.2.one
  obtain ⟨x1, x2⟩ := a
  obtain ⟨w1, w2⟩ := b
  refine PC_of ?_
  skip
  refine w_laws_eqMachineOut (by simp) ?_
  unfold b_laws_eqMachineOut
  simp -implicitDefEqProofs only [go_sem, o1, o2, o3, o4]
  intro b1 hb_b1 n_b1
  simp -implicitDefEqProofs only [go_sem, o1, o2, o3, o4, hb_b1]
  intro b2 hb_b2 m0_b2
  obtain ⟨z_b2_b1, y_b2_b1, n_b2⟩ := fne m0_b2
  simp only [H.set_base] at hb_b2
  simp -implicitDefEqProofs only [go_sem, o1, o2, o3, o4, hb_b1, hb_b2, z_b2_b1, y_b2_b1]
  refine (eqMachine_pc (mach_r.2 ⟨vs, vd, rfl, r1.ext (((Ext.refl _).set' n_b1 _).set' n_b2 _)⟩) (mach_r.2 ⟨us, ud, rfl, r2.ext (((Ext.refl _).set' n_b1 _).set' n_b2 _)⟩) hn).use ?_
  simp -implicitDefEqProofs only [go_sem, o1, o2, o3, o4, hb_b1, hb_b2, z_b2_b1, y_b2_b1]
  repeat' first | (refine Br.of (fun hc => ?_) (fun hc => ?_) <;> simp -implicitDefEqProofs only [go_sem, hc, o1, o2, o3, o4, hb_b1, hb_b2, z_b2_b1, y_b2_b1])
  all_goals exact ⟨(((Ext.refl _).set' n_b1 _).set' n_b2 _), by simp_all⟩
/-- laws.markMachineOut -/
def b_laws_markMachineOut : C := (.seq (.ops [⟨(some 2), none, .box (.t 0)⟩, q 4 (.mv (.c (i64 0)))])
 (.seq (.ops [q 5 (.fld 0 (.t 2)), q 6 (.ld true 3 (.t 5)), q 7 (.mv (.t 1)), ⟨(some 8), none, .call (.c (.func (.func 15) #[] #[])) [(.t 6), (.t 7)]⟩, q 1 (.mv (.t 8))])
 (.seq (.ops [q 9 (.mv (.t 1)), q 4 (.mv (.t 9))])
 .ret)))
theorem w_laws_markMachineOut {args : List Value} {h : H} {Q : Value → H → Prop} (hl : args.length ≤ 10) (hk : wpc Tryz.prog b_laws_markMachineOut (retw [.tmp 4] Q) (argsFr args) h) : AC Tryz.prog 26 args h Q :=
  AC.of_wpc mixedOrders Tryz.func26 (by kernel_rfl) (by kernel_rfl : prepF Tryz.prog Tryz.f26 = some ⟨10, [.tmp 4], b_laws_markMachineOut⟩) hl hk

theorem markMachineOut_ac {h0 h : H} {o : UMach × Int} {cs : List Value} {k0 : Int} (hv : RepF h0 h (spMachO o) cs) (hs : o.1.flash.fin1) (hk : 1 ≤ k0 ∧ k0 ≤ 4194304) :
    AC Tryz.prog 26 [.agg cs.toArray, i64 k0] h fun r h' => r = i64 (k0 + flN o.1.flash) ∧ Keep (blks cs) h h' ∧ RepR h' (spMMachO o k0) cs := by
  obtain ⟨vs, vd, rfl, r⟩ := machO_f.1 hv
  have o1 := r.1.sl.one
  have o2 := r.2.1.sl.one
  skip
  refine w_laws_markMachineOut (by simp) ?_
  unfold b_laws_markMachineOut
  simp -implicitDefEqProofs only [go_sem, o1, o2]
  intro b1 hb_b1 n_b1
  simp -implicitDefEqProofs only [go_sem, o1, o2, hb_b1]
  refine AC_of (markMachine_ac (m := o.1) (mach_f.2 ⟨vs, vd, rfl, r.ext ((Ext.refl _).set' n_b1 _)⟩) hs (by omega)) ?_
  rintro _ h1 - ⟨rfl, k1, m1⟩
  obtain ⟨us, ud, e, m2⟩ := mach_m.1 m1
  simp only [List.cons.injEq, and_true, true_and] at e
  obtain ⟨rfl, rfl⟩ := e
  simp -implicitDefEqProofs only [go_sem, o1, o2, hb_b1]
  refine ⟨((((Ext.refl _).set' n_b1 _)).keep _).trans (k1.mono fun b ⟨v, hv, e⟩ => ⟨v, ?_, e⟩), machO_m.2 ⟨vs, vd, rfl, m2⟩⟩
  simp only [List.mem_cons, List.not_mem_nil, or_false] at hv ⊢
  rcases hv with rfl | rfl | rfl <;> simp
/-- laws.heldMachineOut -/
def b_laws_heldMachineOut : C := (.seq (.ops [⟨(some 2), none, .box (.t 0)⟩, q 4 (.mv (.c (i64 0)))])
 (.seq (.ops [q 5 (.fld 0 (.t 2)), q 6 (.ld true 3 (.t 5)), q 7 (.mv (.t 1)), ⟨(some 8), none, .call (.c (.func (.func 61) #[] #[])) [(.t 6), (.t 7)]⟩, q 1 (.mv (.t 8))])
 (.seq (.seq (.ops [q 9 (.mv (.t 1)), q 10 (.bin .lss (.t 9) (.c (i64 0)))])
 (.cond (.t 10) (.seq (.ops [q 4 (.mv (.c (i64 (-1))))])
 .ret) .skip))
 (.seq (.ops [q 11 (.mv (.t 1)), q 4 (.mv (.t 11))])
 .ret))))
theorem w_laws_heldMachineOut {args : List Value} {h : H} {Q : Value → H → Prop} (hl : args.length ≤ 12) (hk : wpc Tryz.prog b_laws_heldMachineOut (retw [.tmp 4] Q) (argsFr args) h) : AC Tryz.prog 27 args h Q :=
  AC.of_wpc mixedOrders Tryz.func27 (by kernel_rfl) (by kernel_rfl : prepF Tryz.prog Tryz.f27 = some ⟨12, [.tmp 4], b_laws_heldMachineOut⟩) hl hk

theorem heldMachineOut_pc {h : H} {o : UMach × Int} {cs : List Value} {k0 : Int} (hv : RepR h (spMMachO o k0) cs) (hs : o.1.flash.fin1) (hk : 1 ≤ k0 ∧ k0 ≤ 4194304) :
    PC Tryz.prog 27 [.agg cs.toArray, i64 k0] h (i64 (k0 + flN o.1.flash)) := by
  obtain ⟨vs, vd, rfl, r⟩ := machO_m.1 hv
  have hn := flN_le hs
  have o1 := r.1.one
  have o2 := r.2.one
  skip
  refine PC_of ?_
  refine w_laws_heldMachineOut (by simp) ?_
  unfold b_laws_heldMachineOut
  simp -implicitDefEqProofs only [go_sem, o1, o2]
  intro b1 hb_b1 n_b1
  simp -implicitDefEqProofs only [go_sem, o1, o2, hb_b1]
  refine (heldMachine_pc (r.ext ((Ext.refl _).set' n_b1 _)) hs (by omega)).use ?_
  simp -implicitDefEqProofs only [go_sem, show ¬ (k0 + flN o.1.flash < 0) by omega, o1, o2, hb_b1]
  exact ((Ext.refl _).set' n_b1 _)
end Go.Proofs.YtiokibikhanfcaaGreat
