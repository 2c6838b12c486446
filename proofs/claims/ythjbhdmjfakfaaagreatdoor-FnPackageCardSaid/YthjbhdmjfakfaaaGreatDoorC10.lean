/- A helper of this seat's claims (contracts of the functions): what it shows is shown for every input that its statements name, on no other condition. -/
import Derived.Test.YthjbhdmjfakfaaaGreatDoorMC0
set_option linter.unusedVariables false
set_option linter.unusedSimpArgs false
set_option maxRecDepth 100000
namespace Go.Proofs.YthjbhdmjfakfaaaGreatDoor
open Go.KH

/-! ## Snapshot reads -/
def isTouch (block : Int) (s : UStep) : Bool := decide (¬ s.kind = 5 ∧ s.dst = block)
def touch (l : List UStep) (block : Int) : Int := firstAt (isTouch block) l
def touches (l : List UStep) (block : Int) : Int := if l.length ≤ 20 then touch l block else -1
/-- slices.IndexFunc[[]impl.Step,impl.Step] -/
def b_slices_IndexFunc_impl_Step_impl_Step : C := (.seq (.ops [q 4 (.mv (.c (i64 0)))])
 (.seq (.seq (.ops [q 6 (.mv (.t 0)), q 7 (.len (.t 6)), q 8 (.mv (.c (i64 0)))])
 (.block 0 (.loop (.seq (.ops [q 9 (.bin .lss (.t 8) (.t 7))])
 (.seq (.cond (.t 9) .skip (.exit 0))
 (.seq (.block 1 (.seq (.ops [q 10 (.mv (.t 8)), q 5 (.mv (.t 10))])
 (.seq (.ops [q 11 (.mv (.t 1)), q 12 (.mv (.t 0)), q 13 (.mv (.t 5)), q 14 (.idx 4 (.t 12) (.t 13)), q 15 (.ld true 4 (.t 14)), ⟨(some 16), none, .call (.t 11) [(.t 15)]⟩])
 (.cond (.t 16) (.seq (.ops [q 17 (.mv (.t 5)), q 4 (.mv (.t 17))])
 .ret) .skip))))
 (.ops [q 18 (.bin .add (.t 8) (.c (i64 1))), q 8 (.mv (.t 18))])))))))
 (.seq (.ops [q 4 (.mv (.c (i64 (-1))))])
 .ret)))
theorem w_slices_IndexFunc_impl_Step_impl_Step {args : List Value} {h : H} {Q : Value → H → Prop} (hl : args.length ≤ 19) (hk : wpc Tryz.prog b_slices_IndexFunc_impl_Step_impl_Step (retw [.tmp 4] Q) (argsFr args) h) : AC Tryz.prog 191 args h Q :=
  AC.of_wpc mixedOrders Tryz.func191 (by kernel_rfl) (by kernel_rfl : prepF Tryz.prog Tryz.f191 = some ⟨19, [.tmp 4], b_slices_IndexFunc_impl_Step_impl_Step⟩) hl hk

/-- impl.touches$1 -/
def b_impl_touches_1 : C := (.seq (.ops [⟨(some 2), none, .box (.t 0)⟩, q 3 (.mv (.c (.bool false)))])
 (.seq (.ops [q 4 (.fld 0 (.t 2)), q 5 (.ld false 1 (.t 4)), q 6 (.bin .neq (.t 5) (.c (i64 5))), q 7 (.mv (.t 6)), qg 8 7 true (.fld 1 (.t 2)), qg 9 7 true (.ld false 1 (.t 8)), qg 10 7 true (.ld false 1 (.t 1)), qg 11 7 true (.bin .eql (.t 9) (.t 10)), q 12 (.pick (.t 7) (.t 11) (.c (.bool false))), q 3 (.mv (.t 12))])
 .ret))
theorem w_impl_touches_1 {args : List Value} {h : H} {Q : Value → H → Prop} (hl : args.length ≤ 13) (hk : wpc Tryz.prog b_impl_touches_1 (retw [.tmp 3] Q) (argsFr args) h) : AC Tryz.prog 192 args h Q :=
  AC.of_wpc mixedOrders Tryz.func192 (by kernel_rfl) (by kernel_rfl : prepF Tryz.prog Tryz.f192 = some ⟨13, [.tmp 3], b_impl_touches_1⟩) hl hk

/-- impl.touches -/
def b_impl_touches : C := (.seq (.ops [⟨(some 3), none, .box (.t 1)⟩, q 4 (.mv (.c (i64 0)))])
 (.seq (.ops [q 5 (.mv (.t 0)), q 6 (.mkf 192 [(.t 3)]), ⟨(some 7), none, .call (.c (.func (.func 191) #[] #[])) [(.t 5), (.t 6)]⟩, q 4 (.mv (.t 7))])
 .ret))
theorem w_impl_touches {args : List Value} {h : H} {Q : Value → H → Prop} (hl : args.length ≤ 8) (hk : wpc Tryz.prog b_impl_touches (retw [.tmp 4] Q) (argsFr args) h) : AC Tryz.prog 123 args h Q :=
  AC.of_wpc mixedOrders Tryz.func123 (by kernel_rfl) (by kernel_rfl : prepF Tryz.prog Tryz.f123 = some ⟨8, [.tmp 4], b_impl_touches⟩) hl hk

theorem touches1_pc {h : H} {s : UStep} {b : Nat} {block : Int} (hb : ldc h b 0 1 = some [i64 block]) : PC Tryz.prog 192 [.agg s.cells.toArray, ptr b 0] h (.bool (isTouch block s)) := by
  refine PC_of ?_
  unfold isTouch
  refine w_impl_touches_1 (by simp) ?_
  unfold b_impl_touches_1
  simp -implicitDefEqProofs only [go_sem]
  intro b1 hb_b1 n_b1
  have e1 : ldc (h.set b1 ⟨s.cells, 4⟩) b 0 1 = some [i64 block] := ldc_sub (Sub.set (Sub.refl h) n_b1 _) hb
  simp -implicitDefEqProofs only [go_sem, e1, hb_b1]
  repeat' (refine Br.of (fun hc => ?_) (fun hc => ?_) <;> simp -implicitDefEqProofs only [go_sem, hc, e1, hb_b1])
  all_goals first | exact ((Ext.refl _).set' n_b1 _) | exact ⟨((Ext.refl _).set' n_b1 _), by simp_all⟩
theorem touches_pc {h : H} {v : Value} {l : List UStep} {block : Int} (hv : Sl h v 4 (l.map UStep.cells)) (hb : l.length ≤ 1048576) : PC Tryz.prog 123 [v, i64 block] h (i64 (touch l block)) := by
  refine PC_of ?_
  refine w_impl_touches (by simp) ?_
  unfold b_impl_touches
  simp -implicitDefEqProofs only [go_sem]
  intro b1 hb_b1 n_b1
  simp -implicitDefEqProofs only [go_sem, hb_b1]
  have e1 : ldc (h.set b1 ⟨[i64 block], 1⟩) b1 0 1 = some [i64 block] := by simp -implicitDefEqProofs only [go_sem, hb_b1]
  have this := (w_slices_IndexFunc_impl_Step_impl_Step (by simp) (if_wpc (p := isTouch block) (n := 192) (caps := [ptr b1 0]) (hv.sub (Sub.set (Sub.refl h) n_b1 _)) hb (fun x _ => touches1_pc e1) ⟨rfl, rfl⟩) : PC Tryz.prog 191 [v, .func (.func 192) #[] #[ptr b1 0]] (h.set b1 ⟨[i64 block], 1⟩) (i64 (touch l block)))
  refine PC.use this ?_
  simp -implicitDefEqProofs only [go_sem, hb_b1]
  exact ((Ext.refl _).set' n_b1 _)
end Go.Proofs.YthjbhdmjfakfaaaGreatDoor
