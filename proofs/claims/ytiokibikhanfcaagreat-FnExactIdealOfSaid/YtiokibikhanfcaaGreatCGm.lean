/- A helper of this seat's claims (contracts of the functions): what it shows is shown for every input that its statements name, on no other condition. -/
import Derived.Test.YtiokibikhanfcaaGreatCG
set_option linter.unusedVariables false
set_option linter.unusedSimpArgs false
set_option maxRecDepth 100000
namespace Go.Proofs.YtiokibikhanfcaaGreat
open Go.KH

/-! ## Marks of machines -/
def flN (f : UFlash) : Int := f.sec.length + (2 * f.dirty.length : Nat)
def FlM (h : H) (f : UFlash) (k : Int) (vs vd : Value) : Prop := Sl h vs 1 (mks gStr 1 k f.sec.length) ∧ Sl h vd 2 (mks gDirty 2 (k + f.sec.length) f.dirty.length)
theorem FlM.ext {h h' : H} {f : UFlash} {k : Int} {vs vd : Value} (r : FlM h f k vs vd) (e : Ext h h') : FlM h' f k vs vd := ⟨r.1.ext e, r.2.ext e⟩
abbrev spMMach (m : UMach) (k : Int) : List Sp := [.v (i64 m.blocks), .s 1 (mks gStr 1 k m.flash.sec.length), .s 2 (mks gDirty 2 (k + m.flash.sec.length) m.flash.dirty.length)]
theorem mach_m {h : H} {m : UMach} {cs : List Value} {k : Int} : RepR h (spMMach m k) cs ↔ ∃ vs vd, cs = [i64 m.blocks, vs, vd] ∧ FlM h m.flash k vs vd := by
  simp only [spMMach, RepR_i, RepR_s, RepR_nil, FlM]
  constructor
  · rintro ⟨_, rfl, vs, _, rfl, h1, vd, _, rfl, h2, rfl⟩; exact ⟨vs, vd, rfl, h1, h2⟩
  · rintro ⟨vs, vd, rfl, h1, h2⟩; exact ⟨_, rfl, vs, _, rfl, h1, vd, _, rfl, h2, rfl⟩
theorem flN_le {f : UFlash} (hs : f.fin1) : 0 ≤ flN f ∧ flN f ≤ 4194304 := by
  unfold UFlash.fin1 at hs
  unfold flN; omega
/-- laws.markFlash -/
def b_laws_markFlash : C := (.seq (.ops [⟨(some 2), none, .box (.t 0)⟩, q 4 (.mv (.c (i64 0)))])
 (.seq (.ops [q 5 (.fld 0 (.t 2)), q 6 (.ld false 1 (.t 5)), q 7 (.mv (.t 1)), ⟨(some 8), none, .call (.c (.func (.func 55) #[] #[])) [(.t 6), (.t 7)]⟩, q 1 (.mv (.t 8))])
 (.seq (.ops [q 9 (.fld 1 (.t 2)), q 10 (.ld false 1 (.t 9)), q 11 (.mv (.t 1)), ⟨(some 12), none, .call (.c (.func (.func 92) #[] #[])) [(.t 10), (.t 11)]⟩, q 1 (.mv (.t 12))])
 (.seq (.ops [q 13 (.mv (.t 1)), q 4 (.mv (.t 13))])
 .ret))))
theorem w_laws_markFlash {args : List Value} {h : H} {Q : Value → H → Prop} (hl : args.length ≤ 14) (hk : wpc Tryz.prog b_laws_markFlash (retw [.tmp 4] Q) (argsFr args) h) : AC Tryz.prog 48 args h Q :=
  AC.of_wpc mixedOrders Tryz.func48 (by kernel_rfl) (by kernel_rfl : prepF Tryz.prog Tryz.f48 = some ⟨14, [.tmp 4], b_laws_markFlash⟩) hl hk

theorem markFlash_ac {h0 h : H} {f : UFlash} {vs vd : Value} {k0 : Int} (r : FlF h0 h f vs vd) (hs : f.fin1) (hk : 1 ≤ k0 ∧ k0 ≤ 8388608) :
    AC Tryz.prog 48 [.agg #[vs, vd], i64 k0] h fun r h' => r = i64 (k0 + flN f) ∧ Keep (blks [vs, vd]) h h' ∧ FlM h' f k0 vs vd := by
  obtain ⟨f1, f2, d⟩ := r
  obtain ⟨hs1, hs2⟩ := hs
  have o1 := f1.sl.one
  have o2 := f2.sl.one
  skip
  refine w_laws_markFlash (by simp) ?_
  unfold b_laws_markFlash
  simp -implicitDefEqProofs only [go_sem, o1, o2]
  intro b1 hb_b1 n_b1
  simp -implicitDefEqProofs only [go_sem, o1, o2, hb_b1]
  refine AC_of (markStringS_ac (f1.ext ((Ext.refl _).set' n_b1 _)) (by omega) (by omega)) ?_
  rintro r h1 - ⟨rfl, k1, m1⟩
  have nb : ∀ b, blk vs = some b → ¬ b = b1 := fun b hb e => by subst e; exact absurd (f1.known b hb) (by rw [n_b1]; simp)
  have g1 := k1.2.1 b1 _ (fun e => nb _ e rfl) (by simp -implicitDefEqProofs only [go_sem, o1, o2, hb_b1]; rfl)
  simp -implicitDefEqProofs only [go_sem, ldc_get g1, o1, o2, hb_b1]
  refine AC_of (markDirtyS_ac ((f2.ext ((Ext.refl _).set' n_b1 _)).keep k1 (fun b hb e => d b e hb)) (by omega) (by omega)) ?_
  rintro r h2 - ⟨rfl, k2, m2⟩
  simp -implicitDefEqProofs only [go_sem, o1, o2, hb_b1]
  refine ⟨by rw [Int.add_assoc]; rfl, ((((Ext.refl _).set' n_b1 _)).keep _).trans ((k1.mono fun b hb => ⟨vs, by simp, hb⟩).trans (k2.mono fun b hb => ⟨vd, by simp, hb⟩)), (m1.keep k2 fun b hb => d b hb).sl, m2.sl⟩
/-- laws.markMachine -/
def b_laws_markMachine : C := (.seq (.ops [⟨(some 2), none, .box (.t 0)⟩, q 4 (.mv (.c (i64 0)))])
 (.seq (.ops [q 5 (.fld 1 (.t 2)), q 6 (.ld true 2 (.t 5)), q 7 (.mv (.t 1)), ⟨(some 8), none, .call (.c (.func (.func 48) #[] #[])) [(.t 6), (.t 7)]⟩, q 1 (.mv (.t 8))])
 (.seq (.ops [q 9 (.mv (.t 1)), q 4 (.mv (.t 9))])
 .ret)))
theorem w_laws_markMachine {args : List Value} {h : H} {Q : Value → H → Prop} (hl : args.length ≤ 10) (hk : wpc Tryz.prog b_laws_markMachine (retw [.tmp 4] Q) (argsFr args) h) : AC Tryz.prog 15 args h Q :=
  AC.of_wpc mixedOrders Tryz.func15 (by kernel_rfl) (by kernel_rfl : prepF Tryz.prog Tryz.f15 = some ⟨10, [.tmp 4], b_laws_markMachine⟩) hl hk

theorem markMachine_ac {h0 h : H} {m : UMach} {cs : List Value} {k0 : Int} (hv : RepF h0 h (spMach m) cs) (hs : m.flash.fin1) (hk : 1 ≤ k0 ∧ k0 ≤ 8388608) :
    AC Tryz.prog 15 [.agg cs.toArray, i64 k0] h fun r h' => r = i64 (k0 + flN m.flash) ∧ Keep (blks cs) h h' ∧ RepR h' (spMMach m k0) cs := by
  obtain ⟨vs, vd, rfl, r⟩ := mach_f.1 hv
  have o1 := r.1.sl.one
  have o2 := r.2.1.sl.one
  skip
  refine w_laws_markMachine (by simp) ?_
  unfold b_laws_markMachine
  simp -implicitDefEqProofs only [go_sem, o1, o2]
  intro b1 hb_b1 n_b1
  simp -implicitDefEqProofs only [go_sem, o1, o2, hb_b1]
  refine AC_of (markFlash_ac (r.ext ((Ext.refl _).set' n_b1 _)) hs hk) ?_
  rintro _ h1 - ⟨rfl, k1, m1⟩
  simp -implicitDefEqProofs only [go_sem, o1, o2, hb_b1]
  exact ⟨((((Ext.refl _).set' n_b1 _)).keep _).trans (k1.mono fun b ⟨v, hv, e⟩ => ⟨v, List.mem_cons_of_mem _ hv, e⟩), mach_m.2 ⟨vs, vd, rfl, m1⟩⟩
end Go.Proofs.YtiokibikhanfcaaGreat
