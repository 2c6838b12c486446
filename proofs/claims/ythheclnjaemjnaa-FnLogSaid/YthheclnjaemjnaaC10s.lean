/- A helper of this seat's claims (contracts of the functions): what it shows is shown for every input that its statements name, on no other condition. -/
import Derived.Test.YthheclnjaemjnaaC07m
import Derived.Test.YthheclnjaemjnaaC10
import Derived.Test.YthheclnjaemjnaaKD
set_option linter.unusedVariables false
set_option linter.unusedSimpArgs false
set_option maxRecDepth 100000
namespace Go.Proofs.Ythheclnjaemjnaa
open Go.KH

/-! ## Images changed by steps -/
theorem stepsW (l : List UStep) : Wid 4 (l.map UStep.cells) := Wid.map fun _ => rfl
theorem steps_one (l : List UStep) : (l.map UStep.cells).flatten.all Value.oneCell' = true := by
  induction l with
  | nil => rfl
  | cons s l ih => rw [List.map_cons, List.flatten_cons, List.all_append, ih]; rfl
def fl (l : List UStep) : List Value := (l.map UStep.cells).flatten
theorem fl_app (a b : List UStep) : fl (a ++ b) = fl a ++ fl b := by simp [fl]
theorem fl_cons (s : UStep) (l : List UStep) : fl (s :: l) = s.cells ++ fl l := by simp [fl]
theorem fl_len (l : List UStep) : (fl l).length = l.length * 4 := by rw [fl, flat_length (stepsW l), List.length_map]
/-- slices.Clone[[]impl.Step,impl.Step] -/
def b_slices_Clone_impl_Step_impl_Step : C := (.seq (.ops [q 2 (.mv (.c nils))])
 (.seq (.seq (.ops [q 3 (.mv (.t 0)), q 4 (.eqs false (.t 3) (.c nils))])
 (.cond (.t 4) (.seq (.ops [q 2 (.mv (.c nils))])
 .ret) .skip))
 (.seq (.ops [⟨(some 5), none, .bsl 0 [] []⟩, q 6 (.mv (.t 0)), ⟨(some 7), none, .app 4 40 (.t 5) (.t 6)⟩, q 2 (.mv (.t 7))])
 .ret)))
theorem w_slices_Clone_impl_Step_impl_Step {args : List Value} {h : H} {Q : Value → H → Prop} (hl : args.length ≤ 8) (hk : wpc Try.prog b_slices_Clone_impl_Step_impl_Step (retw [.tmp 2] Q) (argsFr args) h) : AC Try.prog 165 args h Q :=
  AC.of_wpc mixedOrders Try.func165 (by kernel_rfl) (by kernel_rfl : prepF Try.prog Try.f165 = some ⟨8, [.tmp 2], b_slices_Clone_impl_Step_impl_Step⟩) hl hk

theorem cloneSteps_ac {h : H} {v : Value} {l : List UStep} (hv : Sl h v 4 (l.map UStep.cells)) (hb : l.length ≤ 1048576) : AC Try.prog 165 [v] h fun v' h' => Ext h h' ∧ Fre h h' v' 4 (l.map UStep.cells) := by
  obtain ⟨a, c, rfl⟩ := hv.shape
  have hl : (l.map UStep.cells).length = l.length := by simp
  refine w_slices_Clone_impl_Step_impl_Step (by simp) ?_
  unfold b_slices_Clone_impl_Step_impl_Step
  simp -implicitDefEqProofs only [go_sem]
  cases a with
  | none =>
    simp -implicitDefEqProofs only [go_sem, Option.isNone_none]
    exact ⟨Ext.refl _, .inl ⟨none, 0, rfl, hv.none⟩⟩
  | some a =>
    simp -implicitDefEqProofs only [go_sem, Option.isNone_some]
    intro b1 hb1 hn1
    have hsrc := src0 hn1 hv (stepsW l) (by decide)
    simp -implicitDefEqProofs only [go_sem, hsrc]
    refine app0 hb1 hn1 rfl (stepsW l) (steps_one l) (by rw [hl]; omega) ?_
    intro v' h' e o
    simp -implicitDefEqProofs only [go_sem]
    exact ⟨e, o.fre⟩
/-- impl.writes$1 -/
def b_impl_writes_1 : C := (.seq (.ops [⟨(some 1), none, .box (.t 0)⟩, q 2 (.mv (.c (.bool false)))])
 (.seq (.ops [q 3 (.fld 0 (.t 1)), q 4 (.ld false 1 (.t 3)), q 5 (.bin .eql (.t 4) (.c (i64 5))), q 2 (.mv (.t 5))])
 .ret))
theorem w_impl_writes_1 {args : List Value} {h : H} {Q : Value → H → Prop} (hl : args.length ≤ 6) (hk : wpc Try.prog b_impl_writes_1 (retw [.tmp 2] Q) (argsFr args) h) : AC Try.prog 245 args h Q :=
  AC.of_wpc mixedOrders Try.func245 (by kernel_rfl) (by kernel_rfl : prepF Try.prog Try.f245 = some ⟨6, [.tmp 2], b_impl_writes_1⟩) hl hk

theorem writes1_pc (h : H) (s : UStep) : PC Try.prog 245 [.agg s.cells.toArray] h (.bool (!isW s)) := by
  refine PC_of ?_
  unfold isW
  refine w_impl_writes_1 (by simp) ?_
  unfold b_impl_writes_1
  simp -implicitDefEqProofs only [go_sem]
  intro b1 hb_b1 n_b1
  simp -implicitDefEqProofs only [go_sem, hb_b1]
  exact ⟨((Ext.refl _).set' n_b1 _), by simp⟩
/-- slices.DeleteFunc[[]impl.Step,impl.Step] -/
def b_slices_DeleteFunc_impl_Step_impl_Step : C := (.seq (.ops [q 4 (.mv (.c nils))])
 (.seq (.ops [q 8 (.mv (.t 0)), q 9 (.mv (.t 1)), ⟨(some 10), none, .call (.c (.func (.func 242) #[] #[])) [(.t 8), (.t 9)]⟩, q 5 (.mv (.t 10))])
 (.seq (.seq (.ops [q 11 (.mv (.t 5)), q 12 (.bin .eql (.t 11) (.c (i64 (-1))))])
 (.cond (.t 12) (.seq (.ops [q 13 (.mv (.t 0)), q 4 (.mv (.t 13))])
 .ret) .skip))
 (.seq (.seq (.ops [q 14 (.mv (.t 5)), q 15 (.bin .add (.t 14) (.c (i64 1))), q 6 (.mv (.t 15))])
 (.block 0 (.loop (.seq (.seq (.ops [q 16 (.mv (.t 6)), q 17 (.mv (.t 0)), q 18 (.len (.t 17)), q 19 (.bin .lss (.t 16) (.t 18))])
 (.cond (.t 19) .skip (.exit 0)))
 (.seq (.block 1 (.seq (.ops [q 22 (.mv (.t 0)), q 23 (.mv (.t 6)), q 24 (.idx 4 (.t 22) (.t 23)), q 25 (.ld true 4 (.t 24)), ⟨(some 7), none, .alloc [(i64 0), (i64 0), (i64 0), (str [])]⟩, ⟨none, none, .st 4 (.t 7) (.t 25)⟩])
 (.seq (.ops [q 26 (.mv (.t 1)), q 27 (.ld true 4 (.t 7)), ⟨(some 28), none, .call (.t 26) [(.t 27)]⟩, q 29 (.un .not (.t 28))])
 (.cond (.t 29) (.seq (.ops [q 30 (.mv (.t 0)), q 31 (.mv (.t 5)), q 32 (.ld true 4 (.t 7)), q 33 (.idx 4 (.t 30) (.t 31)), ⟨none, none, .st 4 (.t 33) (.t 32)⟩])
 (.ops [q 34 (.mv (.t 5)), q 35 (.bin .add (.t 34) (.c (i64 1))), q 5 (.mv (.t 35))])) .skip))))
 (.ops [q 20 (.mv (.t 6)), q 21 (.bin .add (.t 20) (.c (i64 1))), q 6 (.mv (.t 21))]))))))
 (.seq (.ops [q 36 (.mv (.t 0)), q 37 (.mv (.t 5)), q 38 (.lsl 4 (.t 36) (some (.t 37)) none), ⟨none, none, .clr 4 [(i64 0), (i64 0), (i64 0), (str [])] (.t 38)⟩])
 (.seq (.ops [q 39 (.mv (.t 0)), q 40 (.mv (.t 5)), q 41 (.lsl 4 (.t 39) none (some (.t 40))), q 4 (.mv (.t 41))])
 .ret))))))
theorem w_slices_DeleteFunc_impl_Step_impl_Step {args : List Value} {h : H} {Q : Value → H → Prop} (hl : args.length ≤ 42) (hk : wpc Try.prog b_slices_DeleteFunc_impl_Step_impl_Step (retw [.tmp 4] Q) (argsFr args) h) : AC Try.prog 244 args h Q :=
  AC.of_wpc mixedOrders Try.func244 (by kernel_rfl) (by kernel_rfl : prepF Try.prog Try.f244 = some ⟨42, [.tmp 4], b_slices_DeleteFunc_impl_Step_impl_Step⟩) hl hk

theorem filter_take {α : Type} (p : α → Bool) (l : List α) (k : Nat) (hk : k < l.length) : (l.take (k + 1)).filter p = if p l[k] then (l.take k).filter p ++ [l[k]] else (l.take k).filter p := by
  rw [List.take_succ_eq_append_getElem hk, List.filter_append]
  by_cases h : p l[k] <;> simp [h]
theorem deleteFunc_ac {h0 h : H} {v : Value} {l : List UStep} (hv : Fre h0 h v 4 (l.map UStep.cells)) (hb : l.length ≤ 1048576) : AC Try.prog 244 [v, .func (.func 245) #[] #[]] h fun r h' =>
    Keep (fun b => blk v = some b) h h' ∧ Fre h0 h' r 4 ((l.filter isW).map UStep.cells) := by
  have hif := (w_slices_IndexFunc_impl_Step_impl_Step (by simp) (if_wpc (p := fun s => !isW s) (n := 245) (caps := []) hv.sl hb (fun x _ => writes1_pc h x) ⟨rfl, rfl⟩) : PC Try.prog 242 [v, .func (.func 245) #[] #[]] h (i64 (firstAt (fun s => !isW s) l)))
  have hl : (l.map UStep.cells).length = l.length := by simp
  by_cases hf : firstAt (fun s => !isW s) l = -1
  · have hall : l.filter isW = l := by
      rw [List.filter_eq_self]
      intro s hs
      obtain ⟨i, hi, rfl⟩ := List.getElem_of_mem hs
      cases hw : isW l[i] with
      | true => rfl
      | false =>
        exfalso
        have : (fun s => !isW s) l[i] = true := by simp [hw]
        unfold firstAt at hf
        split at hf
        · omega
        · rename_i hn
          rw [List.findIdx?_eq_none_iff] at hn
          have := hn _ (List.getElem_mem hi)
          simp [hw] at this
    refine w_slices_DeleteFunc_impl_Step_impl_Step (by simp) ?_
    unfold b_slices_DeleteFunc_impl_Step_impl_Step
    simp -implicitDefEqProofs only [go_sem]
    refine PC.use hif ?_
    rw [hf]
    simp -implicitDefEqProofs only [go_sem]
    rw [hall]
    exact ⟨Keep.refl _ _, hv⟩
  obtain ⟨k0, hk0, e0, p0, n0⟩ := firstAt_get (p := fun s => !isW s) (l := l) (by have := firstAt_le (fun s => !isW s) l; omega)
  have hpre : (l.take k0).filter isW = l.take k0 := by
    rw [List.filter_eq_self]
    intro s hs
    obtain ⟨i, hi, rfl⟩ := List.getElem_of_mem hs
    rw [List.length_take] at hi
    rw [List.getElem_take]
    have := n0 i (by omega)
    simpa using this
  rcases hv with ⟨a, c, rfl, e⟩ | ⟨b, c, ob, rfl, hlc, hbb, h0b, hg, hp, hw⟩
  · have : l = [] := by simpa using e
    subst this; simp at hk0
  rw [hl] at *
  obtain ⟨oc, oz⟩ := ob
  obtain ⟨R, rfl⟩ := hp
  refine w_slices_DeleteFunc_impl_Step_impl_Step (by simp) ?_
  unfold b_slices_DeleteFunc_impl_Step_impl_Step
  simp -implicitDefEqProofs only [go_sem]
  refine PC.use hif ?_
  rw [e0]
  simp -implicitDefEqProofs only [go_sem, show ¬ ((k0 : Int) = -1) by omega, wrap_i64 (show -(9223372036854775808 : Int) ≤ ((k0 : Int) + 1) by omega) (show ((k0 : Int) + 1) < 9223372036854775808 by omega)]
  have pk0 : isW l[k0] = false := by simpa using p0
  have hstart : (l.take (k0 + 1)).filter isW = l.take k0 := by rw [filter_take _ _ _ hk0, if_neg (by simp [pk0]), hpre]
  refine loopW_of (fun m f h' => ∃ (j : Nat) (M : List Value) (z : Nat), m + j = l.length ∧ Keep (fun x => x = b) h h' ∧ h'.get b = some ⟨fl ((l.take j).filter isW) ++ (M ++ (fl (l.drop j) ++ R)), z⟩ ∧ M.length = (j - ((l.take j).filter isW).length) * 4 ∧
      ((l.take j).filter isW).length < j ∧ j ≤ l.length ∧
      f 0 = sl b 0 l.length c ∧ f 1 = .func (.func 245) #[] #[] ∧ f 5 = i64 ((l.take j).filter isW).length ∧ f 6 = i64 j) (l.length - (k0 + 1))
    ⟨k0 + 1, (l[k0]).cells, oz, by omega, Keep.refl _ _, ?_, ?_, ?_, by omega, by simp -implicitDefEqProofs only [go_sem], by simp -implicitDefEqProofs only [go_sem], ?_, by simp -implicitDefEqProofs only [go_sem]; rfl⟩ ?_
  · rw [hg, hstart]
    have e1 : fl l = fl (l.take k0) ++ ((l[k0]).cells ++ fl (l.drop (k0 + 1))) := by
      conv => lhs; rw [← List.take_append_drop k0 l, List.drop_eq_getElem_cons hk0]
      rw [fl_app, fl_cons]
    show some (Ob.mk (fl l ++ R) oz) = _
    rw [e1]; simp only [List.append_assoc]
  · rw [hstart, List.length_take]; simp; omega
  · rw [hstart, List.length_take]; omega
  · simp -implicitDefEqProofs only [go_sem, hstart, List.length_take, Nat.min_eq_left (show k0 ≤ l.length by omega)]
  rintro m f h' ⟨j, M, z, hm, hk, hg', hM, hij, hjl, f0, f1, f5, f6⟩
  have hb1 := hk.1
  have hlk := fl_len ((l.take j).filter isW)
  obtain ⟨i, hi⟩ : ∃ i, i = ((l.take j).filter isW).length := ⟨_, rfl⟩
  rw [← hi] at hM hij f5 hlk
  skip
  by_cases hj : j < l.length
  · have hdr : fl (l.drop j) = (l[j]).cells ++ fl (l.drop (j + 1)) := by rw [List.drop_eq_getElem_cons hj, fl_cons]
    have hA : (fl ((l.take j).filter isW) ++ M).length = j * 4 := by rw [List.length_append, hlk, hM]; omega
    have e1 : ldc h' b (j * 4) 4 = some (l[j]).cells := by
      rw [ldc_get hg', hdr, if_pos (by simp only [List.length_append] at hA ⊢; simp; omega), ← List.append_assoc, ← hA, List.drop_left, List.append_assoc]
      rfl
    have hft := filter_take isW l j hj
    simp -implicitDefEqProofs only [go_sem, hj, e1, f0, f1, f5, f6, hl, Int.ofNat_lt, Int.natCast_nonneg, hbb, hb1]
    intro b7 hb7 n7
    rw [hb1] at hb7
    have y7 : (b = b7) = False := eq_false fun e => by rw [e, n7] at hg'; cases hg'
    simp -implicitDefEqProofs only [go_sem, hb7, y7, f0, f1, f5, f6, hl, Int.ofNat_lt, Int.natCast_nonneg, hbb, hb1]
    refine (writes1_pc _ l[j]).use ?_
    cases hw : isW l[j] with
    | false =>
      rw [hw, if_neg (by simp)] at hft
      simp -implicitDefEqProofs only [go_sem, hw, y7, wrap_i64 (show -(9223372036854775808 : Int) ≤ ((j : Int) + 1) by omega) (show ((j : Int) + 1) < 9223372036854775808 by omega), f0, f1, f5, f6, hl, Int.ofNat_lt, Int.natCast_nonneg, hbb, hb1]
      refine ⟨m - 1, by omega, _, Ext.refl _, j + 1, M ++ (l[j]).cells, z, by omega, ?_, ?_, ?_, by rw [hft, ← hi]; omega, by omega, by rw [hft, hi], rfl⟩
      · exact hk.set (.inr (by cases hq : h.get b7 with | none => rfl | some o => exact absurd n7 (hk.2.2.2 b7 (by rw [hq]; simp)))) _
      · rw [H.set_get_ne _ _ _ _ (of_eq_false y7), hg', hft, hdr]; simp only [List.append_assoc]
      · rw [hft, ← hi, List.length_append, hM]; simp; omega
    | true =>
      rw [hw, if_pos rfl] at hft
      have e2 : ∀ x, stc (h'.set b7 x) b (i * 4) (l[j]).cells 4 = some ((h'.set b7 x).set b ⟨fl ((l.take j).filter isW) ++ ((l[j]).cells ++ (((M ++ (l[j]).cells).drop 4) ++ (fl (l.drop (j + 1)) ++ R))), z⟩) := by
        intro x
        have hM2 : 4 ≤ (M ++ (l[j]).cells).length := by simp
        rw [stc_get (ob := ⟨fl ((l.take j).filter isW) ++ ((M ++ (l[j]).cells) ++ (fl (l.drop (j + 1)) ++ R)), z⟩) (by rw [H.set_get_ne _ _ _ _ (of_eq_false y7), hg', hdr]; simp only [List.append_assoc]), if_pos ⟨rfl, by simp only [List.length_append, hlk]; simp; omega, rfl⟩,
          splice_app _ _ _ 0 (by omega), splice_z, List.drop_append_of_le_length (by exact hM2)]
        rfl
      simp -implicitDefEqProofs only [go_sem, hw, y7, e2, wrap_i64 (show -(9223372036854775808 : Int) ≤ ((j : Int) + 1) by omega) (show ((j : Int) + 1) < 9223372036854775808 by omega), wrap_i64 (show -(9223372036854775808 : Int) ≤ ((i : Int) + 1) by omega) (show ((i : Int) + 1) < 9223372036854775808 by omega), show (i < l.length) by omega, f0, f1, f5, f6, hl, Int.ofNat_lt, Int.natCast_nonneg, hbb, hb1]
      have n7' : h.get b7 = none := by cases hq : h.get b7 with | none => rfl | some o => exact absurd n7 (hk.2.2.2 b7 (by rw [hq]; simp))
      have hlen : ((l.take j).filter isW ++ [l[j]]).length = i + 1 := by rw [List.length_append, ← hi]; rfl
      refine ⟨m - 1, by omega, _, Ext.refl _, j + 1, (M ++ (l[j]).cells).drop 4, z, by omega, ?_, ?_, ?_, by rw [hft, hlen]; omega, by omega, by rw [hft, hlen]; rfl, rfl⟩
      · exact (hk.set (.inr n7') _).set (.inl rfl) _
      · rw [H.set_get_same, hft, fl_app]; try simp [fl]
      · rw [hft, hlen, List.length_drop, List.length_append, hM]; simp <;> omega
  · have e : j = l.length := by omega
    subst e
    rw [List.take_length] at *
    rw [List.drop_length] at hg'
    have hil : i ≤ l.length := by omega
    obtain ⟨d, hd⟩ : ∃ d, l.length - i = d + 1 := ⟨l.length - i - 1, by omega⟩
    have hci : ¬ c = i := by omega
    have e3 : ∀ q, q.length = (d + 1) * 4 → q.all Value.oneCell' = true → ∃ cs, fl (l.filter isW) <+: cs ∧ stc h' b (i * 4) q ((d + 1) * 4) = some (h'.set b ⟨cs, z⟩) := by
      intro q hq1 hq2
      refine ⟨fl (l.filter isW) ++ splice (M ++ (fl [] ++ R)) 0 q, List.prefix_append _ _, ?_⟩
      rw [stc_get hg', if_pos ⟨hq1, by simp only [List.length_append, hlk, hM]; simp; omega, hq2⟩, splice_app _ _ _ 0 (by omega)]
    obtain ⟨cs, hpc, hst⟩ := e3 (List.replicate (d + 1) [i64 0, i64 0, i64 0, str []]).flatten (by rw [flat_length (w := 4) (Wid.rep (z := [i64 0, i64 0, i64 0, str []]) rfl _), List.length_replicate]) (by
      rw [List.all_eq_true]
      intro x hx
      obtain ⟨r, hr, hx⟩ := List.mem_flatten.1 hx
      rw [(List.mem_replicate.1 hr).2] at hx
      simp only [List.mem_cons, List.not_mem_nil, or_false] at hx
      rcases hx with rfl | rfl | rfl | rfl <;> rfl)
    have hic : (i : Int) ≤ (l.length : Int) := by omega
    have hic2 : (i : Int) ≤ (c : Int) := by omega
    simp -implicitDefEqProofs only [go_sem, Nat.lt_irrefl, hil, hic, hic2, hd, hci, hst, f0, f1, f5, f6, hl, Int.ofNat_lt, Int.natCast_nonneg, hbb, hb1]
    have hblk : blk (sl b 0 l.length c) = some b := by rw [show l.length = (l.length - 1) + 1 by omega]; rfl
    refine ⟨Keep.set (hk.mono fun x hx => ?_) (.inl hblk) _, .inr ⟨b, c, _, ?_, ?_, by rw [H.set_base, hb1]; exact hbb, h0b, H.set_get_same _ _ _, hpc, stepsW _⟩⟩
    · subst hx; exact hblk
    · rw [List.length_map, ← hi]
    · rw [List.length_map, ← hi]; omega
/-- impl.writes -/
def b_impl_writes : C := (.seq (.ops [q 2 (.mv (.c nils))])
 (.seq (.ops [q 3 (.mv (.t 0)), ⟨(some 4), none, .call (.c (.func (.func 165) #[] #[])) [(.t 3)]⟩, ⟨(some 5), none, .call (.c (.func (.func 244) #[] #[])) [(.t 4), (.c (.func (.func 245) #[] #[]))]⟩, q 2 (.mv (.t 5))])
 .ret))
theorem w_impl_writes {args : List Value} {h : H} {Q : Value → H → Prop} (hl : args.length ≤ 6) (hk : wpc Try.prog b_impl_writes (retw [.tmp 2] Q) (argsFr args) h) : AC Try.prog 212 args h Q :=
  AC.of_wpc mixedOrders Try.func212 (by kernel_rfl) (by kernel_rfl : prepF Try.prog Try.f212 = some ⟨6, [.tmp 2], b_impl_writes⟩) hl hk

theorem writes_ac {h : H} {v : Value} {l : List UStep} (hv : Sl h v 4 (l.map UStep.cells)) (hb : l.length ≤ 1048576) : AC Try.prog 212 [v] h fun v' h' => Ext h h' ∧ Fre h h' v' 4 ((l.filter isW).map UStep.cells) := by
  refine w_impl_writes (by simp) ?_
  unfold b_impl_writes
  simp -implicitDefEqProofs only [go_sem]
  refine AC_of (cloneSteps_ac hv hb) ?_
  rintro v1 h1 - ⟨e1, f1⟩
  obtain ⟨a1, c1, rfl⟩ := f1.shape
  simp -implicitDefEqProofs only [go_sem]
  refine AC_of (deleteFunc_ac f1 hb) ?_
  rintro v2 h2 - ⟨k2, f2⟩
  obtain ⟨a2, c2, rfl⟩ := f2.shape
  simp -implicitDefEqProofs only [go_sem]
  exact ⟨k2.ext e1 (fun b hb => f1.new b hb), f2⟩
theorem splice_left (A B r : List Value) (o : Nat) (h : o + r.length ≤ A.length) : splice (A ++ B) o r = splice A o r ++ B := by
  unfold splice
  rw [List.take_append_of_le_length (by omega), List.drop_append_of_le_length (by omega)]
  simp
theorem Fre.put {h0 h : H} {v : Value} {w : Nat} {rows : List (List Value)} (f : Fre h0 h v w rows) {k : Nat} (hk : k < rows.length) {r : List Value} (hr : r.length = w) (h1 : r.all Value.oneCell' = true) :
    ∃ b c ob, v = sl b 0 rows.length c ∧ h.base ≤ b ∧ h0.get b = none ∧ h.get b = some ob ∧ stc h b (k * w) r w = some (h.set b ⟨splice ob.cells (k * w) r, ob.size⟩) ∧ Fre h0 (h.set b ⟨splice ob.cells (k * w) r, ob.size⟩) v w (rows.set k r) := by
  rcases f with ⟨a, c, rfl, rfl⟩ | ⟨b, c, ob, rfl, hlc, hb, h0b, hg, hp, hw⟩
  · simp at hk
  obtain ⟨oc, oz⟩ := ob
  obtain ⟨R, rfl⟩ := hp
  have hl := flat_length hw
  have h2 : k * w + w ≤ rows.length * w := by rw [show k * w + w = (k + 1) * w by rw [Nat.add_mul]; omega]; exact Nat.mul_le_mul_right _ hk
  refine ⟨b, c, _, rfl, hb, h0b, hg, ?_, .inr ⟨b, c, _, by rw [List.length_set], by rw [List.length_set]; exact hlc, by rw [H.set_base]; exact hb, h0b, H.set_get_same _ _ _, ?_, hw.set k hr⟩⟩
  · rw [stc_get hg, if_pos ⟨hr, by simp only [List.length_append, hl]; omega, h1⟩]
  · simp only
    rw [splice_left _ _ _ _ (by rw [hl, hr]; exact h2), flat_splice hw k hk hr]
    exact List.prefix_append _ _
theorem code_zero {l : List UStep} {b : Int} (h : codeOf l b = 0) : stepsOk l b ∧ ¬ twice l ∧ risingFrom (-1) l = true := by
  unfold codeOf at h
  split at h
  · rename_i h1
    split at h
    · simp at h
    · rename_i h2
      split at h
      · rename_i h3; exact ⟨h1, h2, h3⟩
      · simp at h
  · simp at h
open Classical in
/-- What ImageApply and SnapAll answer. -/
noncomputable def imgOut (im : List (List UInt8)) (l : List UStep) : List (List UInt8) × Int :=
  if 400 < im.length ∨ 400 < l.length then ([], 2) else if imageOk im then (if codeOf l im.length = 0 then (applyB im l, 0) else ([], codeOf l im.length)) else ([], 1)
open Classical in
noncomputable def snapOut (im : List (List UInt8)) (l : List UStep) (block : Int) : List UInt8 × Int :=
  if 400 < im.length ∨ 400 < l.length then ([], 2) else if imageOk im then (if codeOf l im.length = 0 then (if 0 ≤ block ∧ block ≤ im.length - 1 then (at8 (applyB im l) block, 0) else ([], 8)) else ([], codeOf l im.length)) else ([], 1)
theorem code_in (l : List UStep) (b : Int) : 0 ≤ codeOf l b ∧ codeOf l b ≤ 12 := by
  unfold codeOf
  split
  · split
    · omega
    · split <;> omega
  · omega
abbrev spImg (o : List (List UInt8) × Int) : List Sp := [.s 1 (strs o.1), .v (i64 o.2)]
theorem img_f {h0 h : H} {o : List (List UInt8) × Int} {cs : List Value} : RepF h0 h (spImg o) cs ↔ ∃ v, cs = [v, i64 o.2] ∧ Fre h0 h v 1 (strs o.1) := by
  simp only [spImg, RepF_i, RepF_s, RepF_nil]
  constructor
  · rintro ⟨v, _, rfl, h1, _, _, rfl, rfl⟩; exact ⟨v, rfl, h1⟩
  · rintro ⟨v, rfl, h1⟩; exact ⟨v, _, rfl, h1, fun d hd => by simp only [List.mem_singleton] at hd; subst hd; exact Dj.nb rfl, _, rfl, rfl⟩
theorem img_none {h0 h : H} {c : Int} : RepF h0 h (spImg ([], c)) [nils, i64 c] := img_f.2 ⟨nils, rfl, .inl ⟨none, 0, rfl, rfl⟩⟩
end Go.Proofs.Ythheclnjaemjnaa
