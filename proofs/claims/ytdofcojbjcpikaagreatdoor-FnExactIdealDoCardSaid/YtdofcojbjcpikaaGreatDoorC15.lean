/- A helper of this seat's claims (contracts of the functions): what it shows is shown for every input that its statements name, on no other condition. -/
import Derived.Test.YtdofcojbjcpikaaGreatDoorC07
import Derived.Test.YtdofcojbjcpikaaGreatDoorCB
set_option linter.unusedVariables false
set_option linter.unusedSimpArgs false
set_option maxRecDepth 100000
namespace Go.Proofs.YtdofcojbjcpikaaGreatDoor
open Go.KH

/-! ## Ideals -/
structure UIdeal where
  phase : Int
  tries : Int
  need : Int
  stash : Int
  held : Int
  left : Int
  digest : List UInt8
  base : List (List UInt8)
  steps : List UStep
deriving DecidableEq
structure UIdealOut where
  ideal : UIdeal
  text : List UInt8
  reply : List Int
  code : Int
deriving DecidableEq
abbrev UIdeal.cells (i : UIdeal) (vb vs : Value) : List Value := [i64 i.phase, i64 i.tries, i64 i.need, i64 i.stash, i64 i.held, i64 i.left, str i.digest, vb, vs]
abbrev UIdealOut.cells (o : UIdealOut) (vb vs vr : Value) : List Value := [i64 o.ideal.phase, i64 o.ideal.tries, i64 o.ideal.need, i64 o.ideal.stash, i64 o.ideal.held, i64 o.ideal.left, str o.ideal.digest, vb, vs, str o.text, vr, i64 o.code]
abbrev spIdeal (i : UIdeal) : List Sp := [.v (i64 i.phase), .v (i64 i.tries), .v (i64 i.need), .v (i64 i.stash), .v (i64 i.held), .v (i64 i.left), .v (str i.digest), .s 1 (strs i.base), .s 4 (i.steps.map UStep.cells)]
abbrev spIdealOut (o : UIdealOut) : List Sp := [.v (i64 o.ideal.phase), .v (i64 o.ideal.tries), .v (i64 o.ideal.need), .v (i64 o.ideal.stash), .v (i64 o.ideal.held), .v (i64 o.ideal.left), .v (str o.ideal.digest), .s 1 (strs o.ideal.base), .s 4 (o.ideal.steps.map UStep.cells), .v (str o.text), .s 1 (ints o.reply), .v (i64 o.code)]
abbrev spMIdealOut (o : UIdealOut) (k : Int) : List Sp := [.v (i64 o.ideal.phase), .v (i64 o.ideal.tries), .v (i64 o.ideal.need), .v (i64 o.ideal.stash), .v (i64 o.ideal.held), .v (i64 o.ideal.left), .v (str o.ideal.digest), .s 1 (mks gStr 1 k o.ideal.base.length), .s 4 (mks gStep 4 (k + o.ideal.base.length) o.ideal.steps.length), .v (str o.text), .s 1 (mks gInt 1 (k + o.ideal.base.length + (4 * o.ideal.steps.length : Nat)) o.reply.length), .v (i64 o.code)]
theorem ideal_r {h : H} {i : UIdeal} {cs : List Value} : RepR h (spIdeal i) cs ↔ ∃ vb vs, cs = i.cells vb vs ∧ Sl h vb 1 (strs i.base) ∧ Sl h vs 4 (i.steps.map UStep.cells) := by
  simp only [spIdeal, RepR_i, RepR_str, RepR_s, RepR_nil]
  constructor
  · rintro ⟨_, rfl, _, rfl, _, rfl, _, rfl, _, rfl, _, rfl, _, rfl, vb, _, rfl, h1, vs, _, rfl, h2, rfl⟩; exact ⟨vb, vs, rfl, h1, h2⟩
  · rintro ⟨vb, vs, rfl, h1, h2⟩; exact ⟨_, rfl, _, rfl, _, rfl, _, rfl, _, rfl, _, rfl, _, rfl, vb, _, rfl, h1, vs, _, rfl, h2, rfl⟩
theorem idealOut_r {h : H} {o : UIdealOut} {cs : List Value} : RepR h (spIdealOut o) cs ↔ ∃ vb vs vr, cs = o.cells vb vs vr ∧ Sl h vb 1 (strs o.ideal.base) ∧ Sl h vs 4 (o.ideal.steps.map UStep.cells) ∧ Sl h vr 1 (ints o.reply) := by
  simp only [spIdealOut, RepR_i, RepR_str, RepR_s, RepR_nil]
  constructor
  · rintro ⟨_, rfl, _, rfl, _, rfl, _, rfl, _, rfl, _, rfl, _, rfl, vb, _, rfl, h1, vs, _, rfl, h2, _, rfl, vr, _, rfl, h3, _, rfl, rfl⟩; exact ⟨vb, vs, vr, rfl, h1, h2, h3⟩
  · rintro ⟨vb, vs, vr, rfl, h1, h2, h3⟩; exact ⟨_, rfl, _, rfl, _, rfl, _, rfl, _, rfl, _, rfl, _, rfl, vb, _, rfl, h1, vs, _, rfl, h2, _, rfl, vr, _, rfl, h3, _, rfl, rfl⟩
theorem idealOut_m {h : H} {o : UIdealOut} {cs : List Value} {k : Int} : RepR h (spMIdealOut o k) cs ↔ ∃ vb vs vr, cs = o.cells vb vs vr ∧ Sl h vb 1 (mks gStr 1 k o.ideal.base.length) ∧ Sl h vs 4 (mks gStep 4 (k + o.ideal.base.length) o.ideal.steps.length) ∧ Sl h vr 1 (mks gInt 1 (k + o.ideal.base.length + (4 * o.ideal.steps.length : Nat)) o.reply.length) := by
  simp only [spMIdealOut, RepR_i, RepR_str, RepR_s, RepR_nil]
  constructor
  · rintro ⟨_, rfl, _, rfl, _, rfl, _, rfl, _, rfl, _, rfl, _, rfl, vb, _, rfl, h1, vs, _, rfl, h2, _, rfl, vr, _, rfl, h3, _, rfl, rfl⟩; exact ⟨vb, vs, vr, rfl, h1, h2, h3⟩
  · rintro ⟨vb, vs, vr, rfl, h1, h2, h3⟩; exact ⟨_, rfl, _, rfl, _, rfl, _, rfl, _, rfl, _, rfl, _, rfl, vb, _, rfl, h1, vs, _, rfl, h2, _, rfl, vr, _, rfl, h3, _, rfl, rfl⟩
theorem idealOut_f {h0 h : H} {o : UIdealOut} {cs : List Value} : RepF h0 h (spIdealOut o) cs ↔ ∃ vb vs vr, cs = o.cells vb vs vr ∧ Fre h0 h vb 1 (strs o.ideal.base) ∧ Fre h0 h vs 4 (o.ideal.steps.map UStep.cells) ∧ Fre h0 h vr 1 (ints o.reply) ∧ Dj vb vs ∧ Dj vb vr ∧ Dj vs vr := by
  simp only [spIdealOut, RepF_i, RepF_str, RepF_s, RepF_nil]
  constructor
  · rintro ⟨_, rfl, _, rfl, _, rfl, _, rfl, _, rfl, _, rfl, _, rfl, vb, _, rfl, h1, d1, vs, _, rfl, h2, d2, _, rfl, vr, _, rfl, h3, d3, _, rfl, rfl⟩
    exact ⟨vb, vs, vr, rfl, h1, h2, h3, d1 vs (by simp), d1 vr (by simp), d2 vr (by simp)⟩
  · rintro ⟨vb, vs, vr, rfl, h1, h2, h3, d1, d2, d3⟩
    refine ⟨_, rfl, _, rfl, _, rfl, _, rfl, _, rfl, _, rfl, _, rfl, vb, _, rfl, h1, ?_, vs, _, rfl, h2, ?_, _, rfl, vr, _, rfl, h3, ?_, _, rfl, rfl⟩
    · intro d hd
      simp only [List.mem_cons, List.not_mem_nil, or_false] at hd
      rcases hd with rfl | rfl | rfl | rfl <;> first | exact d1 | exact d2 | exact Dj.nb rfl
    · intro d hd
      simp only [List.mem_cons, List.not_mem_nil, or_false] at hd
      rcases hd with rfl | rfl | rfl <;> first | exact d3 | exact Dj.nb rfl
    · intro d hd
      simp only [List.mem_cons, List.not_mem_nil, or_false] at hd
      subst hd; exact Dj.nb rfl
def UIdeal.fin (i : UIdeal) : Prop := i.base.length ≤ maxLen ∧ i.steps.length ≤ maxLen
def UIdealOut.fin (o : UIdealOut) : Prop := o.ideal.fin ∧ o.reply.length ≤ maxLen
def UIdeal.small (i : UIdeal) : Prop := i.base.length ≤ 1048576 ∧ i.steps.length ≤ 1048576
def UIdealOut.small (o : UIdealOut) : Prop := o.ideal.small ∧ o.reply.length ≤ 1048576
def mkNIdealOut (o : UIdealOut) : Int := o.ideal.base.length + (4 * o.ideal.steps.length : Nat) + o.reply.length
/-- laws.eqIdeal -/
def b_laws_eqIdeal : C := (.seq (.ops [⟨(some 2), none, .box (.t 0)⟩, ⟨(some 3), none, .box (.t 1)⟩, q 4 (.mv (.c (.bool false)))])
 (.seq (.seq (.ops [q 5 (.fld 0 (.t 2)), q 6 (.ld false 1 (.t 5)), q 7 (.fld 0 (.t 3)), q 8 (.ld false 1 (.t 7)), q 9 (.bin .neq (.t 6) (.t 8))])
 (.cond (.t 9) (.seq (.ops [q 4 (.mv (.c (.bool false)))])
 .ret) .skip))
 (.seq (.seq (.ops [q 10 (.fld 1 (.t 2)), q 11 (.ld false 1 (.t 10)), q 12 (.fld 1 (.t 3)), q 13 (.ld false 1 (.t 12)), q 14 (.bin .neq (.t 11) (.t 13))])
 (.cond (.t 14) (.seq (.ops [q 4 (.mv (.c (.bool false)))])
 .ret) .skip))
 (.seq (.seq (.ops [q 15 (.fld 2 (.t 2)), q 16 (.ld false 1 (.t 15)), q 17 (.fld 2 (.t 3)), q 18 (.ld false 1 (.t 17)), q 19 (.bin .neq (.t 16) (.t 18))])
 (.cond (.t 19) (.seq (.ops [q 4 (.mv (.c (.bool false)))])
 .ret) .skip))
 (.seq (.seq (.ops [q 20 (.fld 3 (.t 2)), q 21 (.ld false 1 (.t 20)), q 22 (.fld 3 (.t 3)), q 23 (.ld false 1 (.t 22)), q 24 (.bin .neq (.t 21) (.t 23))])
 (.cond (.t 24) (.seq (.ops [q 4 (.mv (.c (.bool false)))])
 .ret) .skip))
 (.seq (.seq (.ops [q 25 (.fld 4 (.t 2)), q 26 (.ld false 1 (.t 25)), q 27 (.fld 4 (.t 3)), q 28 (.ld false 1 (.t 27)), q 29 (.bin .neq (.t 26) (.t 28))])
 (.cond (.t 29) (.seq (.ops [q 4 (.mv (.c (.bool false)))])
 .ret) .skip))
 (.seq (.seq (.ops [q 30 (.fld 5 (.t 2)), q 31 (.ld false 1 (.t 30)), q 32 (.fld 5 (.t 3)), q 33 (.ld false 1 (.t 32)), q 34 (.bin .neq (.t 31) (.t 33))])
 (.cond (.t 34) (.seq (.ops [q 4 (.mv (.c (.bool false)))])
 .ret) .skip))
 (.seq (.seq (.ops [q 35 (.fld 6 (.t 2)), q 36 (.ld false 1 (.t 35)), q 37 (.fld 6 (.t 3)), q 38 (.ld false 1 (.t 37)), q 39 (.bin .neq (.t 36) (.t 38))])
 (.cond (.t 39) (.seq (.ops [q 4 (.mv (.c (.bool false)))])
 .ret) .skip))
 (.seq (.seq (.ops [q 40 (.fld 7 (.t 2)), q 41 (.ld false 1 (.t 40)), q 42 (.fld 7 (.t 3)), q 43 (.ld false 1 (.t 42)), ⟨(some 44), none, .call (.c (.func (.func 60) #[] #[])) [(.t 41), (.t 43)]⟩, q 45 (.un .not (.t 44))])
 (.cond (.t 45) (.seq (.ops [q 4 (.mv (.c (.bool false)))])
 .ret) .skip))
 (.seq (.seq (.ops [q 46 (.fld 8 (.t 2)), q 47 (.ld false 1 (.t 46)), q 48 (.fld 8 (.t 3)), q 49 (.ld false 1 (.t 48)), ⟨(some 50), none, .call (.c (.func (.func 61) #[] #[])) [(.t 47), (.t 49)]⟩, q 51 (.un .not (.t 50))])
 (.cond (.t 51) (.seq (.ops [q 4 (.mv (.c (.bool false)))])
 .ret) .skip))
 (.seq (.ops [q 4 (.mv (.c (.bool true)))])
 .ret)))))))))))
theorem w_laws_eqIdeal {args : List Value} {h : H} {Q : Value → H → Prop} (hl : args.length ≤ 52) (hk : wpc Tryz.prog b_laws_eqIdeal (retw [.tmp 4] Q) (argsFr args) h) : AC Tryz.prog 14 args h Q :=
  AC.of_wpc mixedOrders Tryz.func14 (by kernel_rfl) (by kernel_rfl : prepF Tryz.prog Tryz.f14 = some ⟨52, [.tmp 4], b_laws_eqIdeal⟩) hl hk

theorem eqIdeal_pc {h : H} {c1 c2 : List Value} {a b : UIdeal} (ha : RepR h (spIdeal a) c1) (hb : RepR h (spIdeal b) c2) (hn : a.fin) : PC Tryz.prog 14 [.agg c1.toArray, .agg c2.toArray] h (.bool (decide (a = b))) := by
  obtain ⟨v1, v2, rfl, p1, p2⟩ := ideal_r.1 ha
  obtain ⟨u1, u2, rfl, q1, q2⟩ := ideal_r.1 hb
  obtain ⟨x1, x2, x3, x4, x5, x6, x7, x8, x9⟩ := a
  obtain ⟨w1, w2, w3, w4, w5, w6, w7, w8, w9⟩ := b
  obtain ⟨n1, n2⟩ := hn
  refine PC_of ?_
  refine w_laws_eqIdeal (by simp) ?_
  unfold b_laws_eqIdeal
  simp -implicitDefEqProofs only [go_sem]
  intro b1 hb_b1 n_b1
  simp -implicitDefEqProofs only [go_sem, hb_b1]
  intro b2 hb_b2 m0_b2
  obtain ⟨z_b2_b1, y_b2_b1, n_b2⟩ := fne m0_b2
  simp only [H.set_base] at hb_b2
  simp -implicitDefEqProofs only [go_sem, hb_b1, hb_b2, z_b2_b1, y_b2_b1]
  repeat' first | (refine Br.of (fun hc => ?_) (fun hc => ?_) <;> simp -implicitDefEqProofs only [go_sem, hc, hb_b1, hb_b2, z_b2_b1, y_b2_b1]) | (refine PC.use (eqStringS_pc (p1.ext (((Ext.refl _).set' n_b1 _).set' n_b2 _)) (q1.ext (((Ext.refl _).set' n_b1 _).set' n_b2 _)) n1) ?_; simp -implicitDefEqProofs only [go_sem, hc, hb_b1, hb_b2, z_b2_b1, y_b2_b1]) | (refine PC.use (eqStepS_pc (p2.ext (((Ext.refl _).set' n_b1 _).set' n_b2 _)) (q2.ext (((Ext.refl _).set' n_b1 _).set' n_b2 _)) n2) ?_; simp -implicitDefEqProofs only [go_sem, hc, hb_b1, hb_b2, z_b2_b1, y_b2_b1])
  all_goals exact ⟨(((Ext.refl _).set' n_b1 _).set' n_b2 _), by simp_all⟩
/-- laws.eqIdealOut -/
def b_laws_eqIdealOut : C := (.seq (.ops [⟨(some 2), none, .box (.t 0)⟩, ⟨(some 3), none, .box (.t 1)⟩, q 4 (.mv (.c (.bool false)))])
 (.seq (.seq (.ops [q 5 (.fld 0 (.t 2)), q 6 (.ld true 9 (.t 5)), q 7 (.fld 0 (.t 3)), q 8 (.ld true 9 (.t 7)), ⟨(some 9), none, .call (.c (.func (.func 14) #[] #[])) [(.t 6), (.t 8)]⟩, q 10 (.un .not (.t 9))])
 (.cond (.t 10) (.seq (.ops [q 4 (.mv (.c (.bool false)))])
 .ret) .skip))
 (.seq (.seq (.ops [q 11 (.fld 9 (.t 2)), q 12 (.ld false 1 (.t 11)), q 13 (.fld 9 (.t 3)), q 14 (.ld false 1 (.t 13)), q 15 (.bin .neq (.t 12) (.t 14))])
 (.cond (.t 15) (.seq (.ops [q 4 (.mv (.c (.bool false)))])
 .ret) .skip))
 (.seq (.seq (.ops [q 16 (.fld 10 (.t 2)), q 17 (.ld false 1 (.t 16)), q 18 (.fld 10 (.t 3)), q 19 (.ld false 1 (.t 18)), ⟨(some 20), none, .call (.c (.func (.func 59) #[] #[])) [(.t 17), (.t 19)]⟩, q 21 (.un .not (.t 20))])
 (.cond (.t 21) (.seq (.ops [q 4 (.mv (.c (.bool false)))])
 .ret) .skip))
 (.seq (.seq (.ops [q 22 (.fld 11 (.t 2)), q 23 (.ld false 1 (.t 22)), q 24 (.fld 11 (.t 3)), q 25 (.ld false 1 (.t 24)), q 26 (.bin .neq (.t 23) (.t 25))])
 (.cond (.t 26) (.seq (.ops [q 4 (.mv (.c (.bool false)))])
 .ret) .skip))
 (.seq (.ops [q 4 (.mv (.c (.bool true)))])
 .ret))))))
theorem w_laws_eqIdealOut {args : List Value} {h : H} {Q : Value → H → Prop} (hl : args.length ≤ 27) (hk : wpc Tryz.prog b_laws_eqIdealOut (retw [.tmp 4] Q) (argsFr args) h) : AC Tryz.prog 13 args h Q :=
  AC.of_wpc mixedOrders Tryz.func13 (by kernel_rfl) (by kernel_rfl : prepF Tryz.prog Tryz.f13 = some ⟨27, [.tmp 4], b_laws_eqIdealOut⟩) hl hk

theorem eqIdealOut_pc {h : H} {c1 c2 : List Value} {a b : UIdealOut} (ha : RepR h (spIdealOut a) c1) (hb : RepR h (spIdealOut b) c2) (hn : a.fin) : PC Tryz.prog 13 [.agg c1.toArray, .agg c2.toArray] h (.bool (decide (a = b))) := by
  obtain ⟨v1, v2, v3, rfl, p1, p2, p3⟩ := idealOut_r.1 ha
  obtain ⟨u1, u2, u3, rfl, q1, q2, q3⟩ := idealOut_r.1 hb
  obtain ⟨x1, x2, x3, x4⟩ := a
  obtain ⟨w1, w2, w3, w4⟩ := b
  refine PC_of ?_
  refine w_laws_eqIdealOut (by simp) ?_
  unfold b_laws_eqIdealOut
  simp -implicitDefEqProofs only [go_sem]
  intro b1 hb_b1 n_b1
  simp -implicitDefEqProofs only [go_sem, hb_b1]
  intro b2 hb_b2 m0_b2
  obtain ⟨z_b2_b1, y_b2_b1, n_b2⟩ := fne m0_b2
  simp only [H.set_base] at hb_b2
  simp -implicitDefEqProofs only [go_sem, hb_b1, hb_b2, z_b2_b1, y_b2_b1]
  refine (eqIdeal_pc (ideal_r.2 ⟨v1, v2, rfl, p1.ext (((Ext.refl _).set' n_b1 _).set' n_b2 _), p2.ext (((Ext.refl _).set' n_b1 _).set' n_b2 _)⟩) (ideal_r.2 ⟨u1, u2, rfl, q1.ext (((Ext.refl _).set' n_b1 _).set' n_b2 _), q2.ext (((Ext.refl _).set' n_b1 _).set' n_b2 _)⟩) hn.1).use ?_
  simp -implicitDefEqProofs only [go_sem, hb_b1, hb_b2, z_b2_b1, y_b2_b1]
  repeat' first | (refine Br.of (fun hc => ?_) (fun hc => ?_) <;> simp -implicitDefEqProofs only [go_sem, hc, hb_b1, hb_b2, z_b2_b1, y_b2_b1]) | (refine PC.use (eqInt64S_pc (p3.ext (((Ext.refl _).set' n_b1 _).set' n_b2 _)) (q3.ext (((Ext.refl _).set' n_b1 _).set' n_b2 _)) hn.2) ?_; simp -implicitDefEqProofs only [go_sem, hc, hb_b1, hb_b2, z_b2_b1, y_b2_b1])
  all_goals exact ⟨(((Ext.refl _).set' n_b1 _).set' n_b2 _), by simp_all⟩
/-- laws.markIdeal -/
def b_laws_markIdeal : C := (.seq (.ops [⟨(some 2), none, .box (.t 0)⟩, q 4 (.mv (.c (i64 0)))])
 (.seq (.ops [q 5 (.fld 7 (.t 2)), q 6 (.ld false 1 (.t 5)), q 7 (.mv (.t 1)), ⟨(some 8), none, .call (.c (.func (.func 62) #[] #[])) [(.t 6), (.t 7)]⟩, q 1 (.mv (.t 8))])
 (.seq (.ops [q 9 (.fld 8 (.t 2)), q 10 (.ld false 1 (.t 9)), q 11 (.mv (.t 1)), ⟨(some 12), none, .call (.c (.func (.func 63) #[] #[])) [(.t 10), (.t 11)]⟩, q 1 (.mv (.t 12))])
 (.seq (.ops [q 13 (.mv (.t 1)), q 4 (.mv (.t 13))])
 .ret))))
theorem w_laws_markIdeal {args : List Value} {h : H} {Q : Value → H → Prop} (hl : args.length ≤ 14) (hk : wpc Tryz.prog b_laws_markIdeal (retw [.tmp 4] Q) (argsFr args) h) : AC Tryz.prog 15 args h Q :=
  AC.of_wpc mixedOrders Tryz.func15 (by kernel_rfl) (by kernel_rfl : prepF Tryz.prog Tryz.f15 = some ⟨14, [.tmp 4], b_laws_markIdeal⟩) hl hk

theorem markIdeal_ac {h0 h : H} {i : UIdeal} {vb vs : Value} {k0 : Int} (f1 : Fre h0 h vb 1 (strs i.base)) (f2 : Fre h0 h vs 4 (i.steps.map UStep.cells)) (d : Dj vb vs) (hs : i.small) (hk : 1 ≤ k0 ∧ k0 ≤ 8388608) :
    AC Tryz.prog 15 [.agg (i.cells vb vs).toArray, i64 k0] h fun r h' => r = i64 (k0 + i.base.length + (4 * i.steps.length : Nat)) ∧ Keep (blks [vb, vs]) h h' ∧ Sl h' vb 1 (mks gStr 1 k0 i.base.length) ∧ Sl h' vs 4 (mks gStep 4 (k0 + i.base.length) i.steps.length) := by
  obtain ⟨hs1, hs2⟩ := hs
  refine w_laws_markIdeal (by simp) ?_
  unfold b_laws_markIdeal
  simp -implicitDefEqProofs only [go_sem]
  intro b1 hb_b1 n_b1
  simp -implicitDefEqProofs only [go_sem, hb_b1]
  refine AC_of (markStringS_ac (f1.ext ((Ext.refl _).set' n_b1 _)) (by omega) (by omega)) ?_
  rintro r h1 - ⟨rfl, k1, m1⟩
  have nb : ∀ b, blk vb = some b → ¬ b = b1 := fun b hb e => by subst e; exact absurd (f1.known b hb) (by rw [n_b1]; simp)
  have g1 := k1.2.1 b1 _ (fun e => nb _ e rfl) (by simp -implicitDefEqProofs only [go_sem, hb_b1]; rfl)
  simp -implicitDefEqProofs only [go_sem, ldc_get g1, hb_b1]
  refine AC_of (markStepS_ac ((f2.ext ((Ext.refl _).set' n_b1 _)).keep k1 (fun b hb e => d b e hb)) (by omega) (by omega)) ?_
  rintro r h2 - ⟨rfl, k2, m2⟩
  simp -implicitDefEqProofs only [go_sem, hb_b1]
  exact ⟨((((Ext.refl _).set' n_b1 _)).keep _).trans ((k1.mono fun b hb => ⟨vb, by simp, hb⟩).trans (k2.mono fun b hb => ⟨vs, by simp, hb⟩)), (m1.keep k2 fun b hb => d b hb).sl, m2.sl⟩
/-- laws.heldIdeal -/
def b_laws_heldIdeal : C := (.seq (.ops [⟨(some 2), none, .box (.t 0)⟩, q 4 (.mv (.c (i64 0)))])
 (.seq (.ops [q 5 (.fld 7 (.t 2)), q 6 (.ld false 1 (.t 5)), q 7 (.mv (.t 1)), ⟨(some 8), none, .call (.c (.func (.func 144) #[] #[])) [(.t 6), (.t 7)]⟩, q 1 (.mv (.t 8))])
 (.seq (.seq (.ops [q 9 (.mv (.t 1)), q 10 (.bin .lss (.t 9) (.c (i64 0)))])
 (.cond (.t 10) (.seq (.ops [q 4 (.mv (.c (i64 (-1))))])
 .ret) .skip))
 (.seq (.ops [q 11 (.fld 8 (.t 2)), q 12 (.ld false 1 (.t 11)), q 13 (.mv (.t 1)), ⟨(some 14), none, .call (.c (.func (.func 145) #[] #[])) [(.t 12), (.t 13)]⟩, q 1 (.mv (.t 14))])
 (.seq (.seq (.ops [q 15 (.mv (.t 1)), q 16 (.bin .lss (.t 15) (.c (i64 0)))])
 (.cond (.t 16) (.seq (.ops [q 4 (.mv (.c (i64 (-1))))])
 .ret) .skip))
 (.seq (.ops [q 17 (.mv (.t 1)), q 4 (.mv (.t 17))])
 .ret))))))
theorem w_laws_heldIdeal {args : List Value} {h : H} {Q : Value → H → Prop} (hl : args.length ≤ 18) (hk : wpc Tryz.prog b_laws_heldIdeal (retw [.tmp 4] Q) (argsFr args) h) : AC Tryz.prog 65 args h Q :=
  AC.of_wpc mixedOrders Tryz.func65 (by kernel_rfl) (by kernel_rfl : prepF Tryz.prog Tryz.f65 = some ⟨18, [.tmp 4], b_laws_heldIdeal⟩) hl hk

theorem heldIdeal_pc {h : H} {i : UIdeal} {vb vs : Value} {k0 : Int} (f1 : Sl h vb 1 (mks gStr 1 k0 i.base.length)) (f2 : Sl h vs 4 (mks gStep 4 (k0 + i.base.length) i.steps.length)) (hs : i.small) (hk : 1 ≤ k0 ∧ k0 ≤ 8388608) :
    PC Tryz.prog 65 [.agg (i.cells vb vs).toArray, i64 k0] h (i64 (k0 + i.base.length + (4 * i.steps.length : Nat))) := by
  obtain ⟨hs1, hs2⟩ := hs
  refine PC_of ?_
  refine w_laws_heldIdeal (by simp) ?_
  unfold b_laws_heldIdeal
  simp -implicitDefEqProofs only [go_sem]
  intro b1 hb_b1 n_b1
  simp -implicitDefEqProofs only [go_sem, hb_b1]
  refine (heldStringS_pc (f1.ext ((Ext.refl _).set' n_b1 _)) (by omega) (by omega)).use ?_
  simp -implicitDefEqProofs only [go_sem, show ¬ (k0 + (i.base.length : Int) < 0) by omega, hb_b1]
  refine (heldStepS_pc (f2.ext ((Ext.refl _).set' n_b1 _)) (by omega) (by omega)).use ?_
  simp -implicitDefEqProofs only [go_sem, show ¬ (k0 + (i.base.length : Int) + ((4 * i.steps.length : Nat) : Int) < 0) by omega, hb_b1]
  first | with_reducible exact ((Ext.refl _).set' n_b1 _) | ((with_reducible refine ⟨((Ext.refl _).set' n_b1 _), ?_⟩); first | rfl | (trivial))
/-- laws.markIdealOut -/
def b_laws_markIdealOut : C := (.seq (.ops [⟨(some 2), none, .box (.t 0)⟩, q 4 (.mv (.c (i64 0)))])
 (.seq (.ops [q 5 (.fld 0 (.t 2)), q 6 (.ld true 9 (.t 5)), q 7 (.mv (.t 1)), ⟨(some 8), none, .call (.c (.func (.func 15) #[] #[])) [(.t 6), (.t 7)]⟩, q 1 (.mv (.t 8))])
 (.seq (.ops [q 9 (.fld 10 (.t 2)), q 10 (.ld false 1 (.t 9)), q 11 (.mv (.t 1)), ⟨(some 12), none, .call (.c (.func (.func 64) #[] #[])) [(.t 10), (.t 11)]⟩, q 1 (.mv (.t 12))])
 (.seq (.ops [q 13 (.mv (.t 1)), q 4 (.mv (.t 13))])
 .ret))))
theorem w_laws_markIdealOut {args : List Value} {h : H} {Q : Value → H → Prop} (hl : args.length ≤ 14) (hk : wpc Tryz.prog b_laws_markIdealOut (retw [.tmp 4] Q) (argsFr args) h) : AC Tryz.prog 16 args h Q :=
  AC.of_wpc mixedOrders Tryz.func16 (by kernel_rfl) (by kernel_rfl : prepF Tryz.prog Tryz.f16 = some ⟨14, [.tmp 4], b_laws_markIdealOut⟩) hl hk

theorem markIdealOut_ac {h0 h : H} {o : UIdealOut} {cs : List Value} {k0 : Int} (hv : RepF h0 h (spIdealOut o) cs) (hs : o.small) (hk : 1 ≤ k0 ∧ k0 ≤ 2097152) :
    AC Tryz.prog 16 [.agg cs.toArray, i64 k0] h fun r h' => r = i64 (k0 + mkNIdealOut o) ∧ Keep (blks cs) h h' ∧ RepR h' (spMIdealOut o k0) cs := by
  obtain ⟨vb, vs, vr, rfl, f1, f2, f3, d1, d2, d3⟩ := idealOut_f.1 hv
  obtain ⟨hs1, hs2⟩ := hs
  have hs3 := hs1.1
  have hs4 := hs1.2
  refine w_laws_markIdealOut (by simp) ?_
  unfold b_laws_markIdealOut
  simp -implicitDefEqProofs only [go_sem]
  intro b1 hb_b1 n_b1
  simp -implicitDefEqProofs only [go_sem, hb_b1]
  refine AC_of (markIdeal_ac (i := o.ideal) (f1.ext ((Ext.refl _).set' n_b1 _)) (f2.ext ((Ext.refl _).set' n_b1 _)) d1 hs1 (by omega)) ?_
  rintro r h1 - ⟨rfl, k1, m1, m2⟩
  have nb : ¬ blks [vb, vs] b1 := fun ⟨v, hv, e⟩ => by
    simp only [List.mem_cons, List.not_mem_nil, or_false] at hv
    rcases hv with rfl | rfl
    · exact absurd (f1.known b1 e) (by rw [n_b1]; simp)
    · exact absurd (f2.known b1 e) (by rw [n_b1]; simp)
  have g1 := k1.2.1 b1 _ nb (by simp -implicitDefEqProofs only [go_sem, hb_b1]; rfl)
  simp -implicitDefEqProofs only [go_sem, ldc_get g1, hb_b1]
  have nr : ∀ b, blk vr = some b → ¬ blks [vb, vs] b := fun b hb ⟨v, hv, e⟩ => by
    simp only [List.mem_cons, List.not_mem_nil, or_false] at hv
    rcases hv with rfl | rfl
    · exact d2 b e hb
    · exact d3 b e hb
  refine AC_of (markInt64S_ac ((f3.ext ((Ext.refl _).set' n_b1 _)).keep k1 nr) (by omega) (by omega)) ?_
  rintro r h2 - ⟨rfl, k2, m3⟩
  simp -implicitDefEqProofs only [go_sem, hb_b1]
  refine ⟨by unfold mkNIdealOut; rw [Int.add_assoc, Int.add_assoc, Int.add_assoc], ((((Ext.refl _).set' n_b1 _)).keep _).trans ((k1.mono ?_).trans (k2.mono fun b hb => ⟨vr, by simp, hb⟩)), idealOut_m.2 ⟨vb, vs, vr, rfl, m1.keep k2 fun b hb => d2 b hb, m2.keep k2 fun b hb => d3 b hb, m3.sl⟩⟩
  rintro b ⟨v, hv, e⟩
  simp only [List.mem_cons, List.not_mem_nil, or_false] at hv
  rcases hv with rfl | rfl
  · exact ⟨v, by simp, e⟩
  · exact ⟨v, by simp, e⟩
/-- laws.heldIdealOut -/
def b_laws_heldIdealOut : C := (.seq (.ops [⟨(some 2), none, .box (.t 0)⟩, q 4 (.mv (.c (i64 0)))])
 (.seq (.ops [q 5 (.fld 0 (.t 2)), q 6 (.ld true 9 (.t 5)), q 7 (.mv (.t 1)), ⟨(some 8), none, .call (.c (.func (.func 65) #[] #[])) [(.t 6), (.t 7)]⟩, q 1 (.mv (.t 8))])
 (.seq (.seq (.ops [q 9 (.mv (.t 1)), q 10 (.bin .lss (.t 9) (.c (i64 0)))])
 (.cond (.t 10) (.seq (.ops [q 4 (.mv (.c (i64 (-1))))])
 .ret) .skip))
 (.seq (.ops [q 11 (.fld 10 (.t 2)), q 12 (.ld false 1 (.t 11)), q 13 (.mv (.t 1)), ⟨(some 14), none, .call (.c (.func (.func 66) #[] #[])) [(.t 12), (.t 13)]⟩, q 1 (.mv (.t 14))])
 (.seq (.seq (.ops [q 15 (.mv (.t 1)), q 16 (.bin .lss (.t 15) (.c (i64 0)))])
 (.cond (.t 16) (.seq (.ops [q 4 (.mv (.c (i64 (-1))))])
 .ret) .skip))
 (.seq (.ops [q 17 (.mv (.t 1)), q 4 (.mv (.t 17))])
 .ret))))))
theorem w_laws_heldIdealOut {args : List Value} {h : H} {Q : Value → H → Prop} (hl : args.length ≤ 18) (hk : wpc Tryz.prog b_laws_heldIdealOut (retw [.tmp 4] Q) (argsFr args) h) : AC Tryz.prog 17 args h Q :=
  AC.of_wpc mixedOrders Tryz.func17 (by kernel_rfl) (by kernel_rfl : prepF Tryz.prog Tryz.f17 = some ⟨18, [.tmp 4], b_laws_heldIdealOut⟩) hl hk

theorem heldIdealOut_pc {h : H} {o : UIdealOut} {cs : List Value} {k0 : Int} (hv : RepR h (spMIdealOut o k0) cs) (hs : o.small) (hk : 1 ≤ k0 ∧ k0 ≤ 2097152) :
    PC Tryz.prog 17 [.agg cs.toArray, i64 k0] h (i64 (k0 + mkNIdealOut o)) := by
  obtain ⟨vb, vs, vr, rfl, f1, f2, f3⟩ := idealOut_m.1 hv
  obtain ⟨hs1, hs2⟩ := hs
  have hs3 := hs1.1
  have hs4 := hs1.2
  refine PC_of ?_
  refine w_laws_heldIdealOut (by simp) ?_
  unfold b_laws_heldIdealOut
  simp -implicitDefEqProofs only [go_sem]
  intro b1 hb_b1 n_b1
  simp -implicitDefEqProofs only [go_sem, hb_b1]
  refine (heldIdeal_pc (i := o.ideal) (f1.ext ((Ext.refl _).set' n_b1 _)) (f2.ext ((Ext.refl _).set' n_b1 _)) hs1 (by omega)).use ?_
  simp -implicitDefEqProofs only [go_sem, show ¬ (k0 + (o.ideal.base.length : Int) + ((4 * o.ideal.steps.length : Nat) : Int) < 0) by omega, hb_b1]
  refine (heldInt64S_pc (f3.ext ((Ext.refl _).set' n_b1 _)) (by omega) (by omega)).use ?_
  simp -implicitDefEqProofs only [go_sem, show ¬ (k0 + (o.ideal.base.length : Int) + ((4 * o.ideal.steps.length : Nat) : Int) + (o.reply.length : Int) < 0) by omega, hb_b1]
  first | with_reducible exact ((Ext.refl _).set' n_b1 _) | ((with_reducible refine ⟨((Ext.refl _).set' n_b1 _), ?_⟩); first | rfl | (unfold mkNIdealOut; rw [Int.add_assoc, Int.add_assoc, Int.add_assoc]))
def ideal0 : UIdeal := ⟨0, 0, 0, 0, 0, 0, [], [], []⟩
def illOut (c : Int) : UIdealOut := ⟨ideal0, [], [], c⟩
def idealNew (l : List (List UInt8)) : UIdealOut := if 400 < l.length then illOut 2 else if imageOk l then ⟨⟨1, 0, 0, 0, 0, 0, [], l, []⟩, [], [], 0⟩ else illOut 1
theorem ill_f (h0 h : H) (c : Int) : RepF h0 h (spIdealOut (illOut c)) ((illOut c).cells nils nils nils) :=
  idealOut_f.2 ⟨nils, nils, nils, rfl, .inl ⟨none, 0, rfl, rfl⟩, .inl ⟨none, 0, rfl, rfl⟩, .inl ⟨none, 0, rfl, rfl⟩, Dj.nb rfl, Dj.nb rfl, Dj.nb rfl⟩
theorem new_f {h0 h : H} {v : Value} {l : List (List UInt8)} (f : Fre h0 h v 1 (strs l)) : RepF h0 h (spIdealOut ⟨⟨1, 0, 0, 0, 0, 0, [], l, []⟩, [], [], 0⟩) [i64 1, i64 0, i64 0, i64 0, i64 0, i64 0, str [], v, nils, str [], nils, i64 0] :=
  idealOut_f.2 ⟨v, nils, nils, rfl, f, .inl ⟨none, 0, rfl, rfl⟩, .inl ⟨none, 0, rfl, rfl⟩, Dj.nb rfl, Dj.nb rfl, Dj.nb rfl⟩
/-- spec.l15Ill -/
def b_spec_l15Ill : C := (.seq (.ops [⟨(some 2), none, .alloc [(i64 0), (i64 0), (i64 0), (i64 0), (i64 0), (i64 0), (str []), nils, nils, (str []), nils, (i64 0)]⟩])
 (.seq (.ops [q 3 (.mv (.t 0)), q 4 (.build [(i64 0), (i64 0), (i64 0), (i64 0), (i64 0), (i64 0), (str []), nils, nils, (str []), nils, (i64 0)] [(11, 1, (.t 3))]), ⟨none, none, .st 12 (.t 2) (.t 4)⟩])
 .ret))
theorem w_spec_l15Ill {args : List Value} {h : H} {Q : Value → H → Prop} (hl : args.length ≤ 5) (hk : wpc Tryz.prog b_spec_l15Ill (retw [.cell 2 true 12] Q) (argsFr args) h) : AC Tryz.prog 50 args h Q :=
  AC.of_wpc mixedOrders Tryz.func50 (by kernel_rfl) (by kernel_rfl : prepF Tryz.prog Tryz.f50 = some ⟨5, [.cell 2 true 12], b_spec_l15Ill⟩) hl hk

theorem l15Ill_pc (h : H) (c : Int) : PC Tryz.prog 50 [i64 c] h (.agg ((illOut c).cells nils nils nils).toArray) := by
  refine PC_of ?_
  refine w_spec_l15Ill (by simp) ?_
  unfold b_spec_l15Ill
  simp -implicitDefEqProofs only [go_sem]
  intro b2 hb_b2 n_b2
  simp -implicitDefEqProofs only [go_sem, hb_b2]
  first | with_reducible exact ((Ext.refl _).set' n_b2 _) | ((with_reducible refine ⟨((Ext.refl _).set' n_b2 _), ?_⟩); first | rfl | (trivial))
end Go.Proofs.YtdofcojbjcpikaaGreatDoor
