/- A helper of this seat's claims (contracts of the functions): what it shows is shown for every input that its statements name, on no other condition. -/
import Derived.Test.YthjbhdmjfakfaaaGreatDoorMC14y
import Derived.Test.YthjbhdmjfakfaaaGreatDoorMC09r
import Derived.Test.YthjbhdmjfakfaaaGreatDoorKD
set_option linter.unusedVariables false
set_option linter.unusedSimpArgs false
set_option maxRecDepth 100000
namespace Go.Proofs.YthjbhdmjfakfaaaGreatDoor
open Go.KH

theorem stepsW (l : List UStep) : Wid 4 (l.map UStep.cells) := Wid.map fun _ => rfl
theorem steps_one (l : List UStep) : (l.map UStep.cells).flatten.all Value.oneCell' = true := by
 induction l with
 | nil => rfl
 | cons s l ih => rw [List.map_cons, List.flatten_cons, List.all_append, ih]; rfl
def fl (l : List UStep) : List Value := (l.map UStep.cells).flatten
theorem fl_app (a b : List UStep) : fl (a ++ b) = fl a ++ fl b := by simp [fl]
theorem fl_cons (s : UStep) (l : List UStep) : fl (s :: l) = s.cells ++ fl l := by simp [fl]
theorem fl_len (l : List UStep) : (fl l).length = l.length * 4 := by rw [fl, flat_length (stepsW l), List.length_map]
def b_slices_Clone_impl_Step_impl_Step : C := (jo [q 2 (.mv (.c nils))]
 (.seq (jo [jm 3 0, q 4 (.eqs false (.t 3) (.c nils))]
 (.cond (.t 4) (jo [q 2 (.mv (.c nils))]
 .ret) .skip))
 (jo [⟨(some 5), none, .bsl 0 [] []⟩, jm 6 0, ⟨(some 7), none, .app 4 40 (.t 5) (.t 6)⟩, jm 2 7]
 .ret)))
theorem w_slices_Clone_impl_Step_impl_Step : Wk Tryz.prog 194 8 [.tmp 2] b_slices_Clone_impl_Step_impl_Step := Wk.of mixedOrders Tryz.func194 (by kernel_rfl) (by kernel_rfl)

theorem cloneSteps_ac {h : H} {v : Value} {l : List UStep} (hv : Sl h v 4 (l.map UStep.cells)) (hb : l.length ≤ 1048576) : AC Tryz.prog 194 [v] h fun v' h' => Ext h h' ∧ Fre h h' v' 4 (l.map UStep.cells) := by
 obtain ⟨a, c, rfl⟩ := hv.shape
 have hl : (l.map UStep.cells).length = l.length := by simp
 refine w_slices_Clone_impl_Step_impl_Step (by simp) ?_
 unfold b_slices_Clone_impl_Step_impl_Step
 simp -implicitDefEqProofs only [go_sem]
 cases a with
 | none =>
  simp -implicitDefEqProofs only [go_sem, Option.isNone_none]
  exact ⟨Ext.refl _, .inl ⟨none, 0, rfl, hv.none⟩⟩
 | some a =>
  simp -implicitDefEqProofs only [go_sem, Option.isNone_some]
  intro b1 hb1 hn1
  have hsrc := src0 hn1 hv (stepsW l) (by decide)
  simp -implicitDefEqProofs only [go_sem, hsrc]
  refine app0 hb1 hn1 rfl (stepsW l) (steps_one l) (by rw [hl]; omega) ?_
  intro v' h' e o
  simp -implicitDefEqProofs only [go_sem]
  exact ⟨e, o.fre⟩
def b_impl_writes_1 : C := (jo [⟨(some 1), none, .box (.t 0)⟩, q 2 (.mv (.c (.bool false)))]
 (jo [jf 3 0 1, jl 4 3, jk 5 .eql 4 5, jm 2 5]
 .ret))
theorem w_impl_writes_1 : Wk Tryz.prog 195 6 [.tmp 2] b_impl_writes_1 := Wk.of mixedOrders Tryz.func195 (by kernel_rfl) (by kernel_rfl)

theorem writes1_pc (h : H) (s : UStep) : PC Tryz.prog 195 [.agg s.cells.toArray] h (.bool (!isW s)) := by
 refine PC_of ?_
 unfold isW
 refine w_impl_writes_1 (by simp) ?_
 unfold b_impl_writes_1
 simp -implicitDefEqProofs only [go_sem]
 intro b1 hb_b1 n_b1
 simp -implicitDefEqProofs only [go_sem, hb_b1]
 exact ⟨((Ext.refl _).set' n_b1 _), by simp⟩
def b_slices_DeleteFunc_impl_Step_impl_Step : C := (jo [q 4 (.mv (.c nils))]
 (jo [jm 8 0, jm 9 1, jc 10 191 [(.t 8), (.t 9)], jm 5 10]
 (.seq (jo [jm 11 5, q 12 (.bin .eql (.t 11) (.c (i64 (-1))))]
 (.cond (.t 12) (jo [jm 13 0, jm 4 13]
 .ret) .skip))
 (.seq (jo [jm 14 5, jk 15 .add 14 1, jm 6 15]
 (.block 0 (.loop (.seq (jo [jm 16 6, jm 17 0, q 18 (.len (.t 17)), jb 19 .lss 16 18]
 (.cond (.t 19) .skip (.exit 0)))
 (.seq (.block 1 (jo [jm 22 0, jm 23 6, q 24 (.idx 4 (.t 22) (.t 23)), jd 25 4 24, ⟨(some 7), none, .alloc [(i64 0), (i64 0), (i64 0), (str [])]⟩, js 4 7 25]
 (jo [jm 26 1, jd 27 4 7, ⟨(some 28), none, .call (.t 26) [(.t 27)]⟩, q 29 (.un .not (.t 28))]
 (.cond (.t 29) (jo [jm 30 0, jm 31 5, jd 32 4 7, q 33 (.idx 4 (.t 30) (.t 31)), js 4 33 32]
 (.ops [jm 34 5, jk 35 .add 34 1, jm 5 35])) .skip))))
 (.ops [jm 20 6, jk 21 .add 20 1, jm 6 21]))))))
 (jo [jm 36 0, jm 37 5, q 38 (.lsl 4 (.t 36) (some (.t 37)) none), ⟨none, none, .clr 4 [(i64 0), (i64 0), (i64 0), (str [])] (.t 38)⟩]
 (jo [jm 39 0, jm 40 5, q 41 (.lsl 4 (.t 39) none (some (.t 40))), jm 4 41]
 .ret))))))
theorem w_slices_DeleteFunc_impl_Step_impl_Step : Wk Tryz.prog 193 42 [.tmp 4] b_slices_DeleteFunc_impl_Step_impl_Step := Wk.of mixedOrders Tryz.func193 (by kernel_rfl) (by kernel_rfl)

theorem filter_take {α : Type} (p : α → Bool) (l : List α) (k : Nat) (hk : k < l.length) : (l.take (k + 1)).filter p = if p l[k] then (l.take k).filter p ++ [l[k]] else (l.take k).filter p := by
 rw [List.take_succ_eq_append_getElem hk, List.filter_append]
 by_cases h : p l[k] <;> simp [h]
theorem deleteFunc_ac {h0 h : H} {v : Value} {l : List UStep} (hv : Fre h0 h v 4 (l.map UStep.cells)) (hb : l.length ≤ 1048576) : AC Tryz.prog 193 [v, .func (.func 195) #[] #[]] h fun r h' =>
  Keep (fun b => blk v = some b) h h' ∧ Fre h0 h' r 4 ((l.filter isW).map UStep.cells) := by
 have hif := (w_slices_IndexFunc_impl_Step_impl_Step (by simp) (if_wpc (p := fun s => !isW s) (n := 195) (caps := []) hv.sl hb (fun x _ => writes1_pc h x) ⟨rfl, rfl⟩) : PC Tryz.prog 191 [v, .func (.func 195) #[] #[]] h (i64 (firstAt (fun s => !isW s) l)))
 have hl : (l.map UStep.cells).length = l.length := by simp
 by_cases hf : firstAt (fun s => !isW s) l = -1
 ·have hall : l.filter isW = l := by
   rw [List.filter_eq_self]
   intro s hs
   obtain ⟨i, hi, rfl⟩ := List.getElem_of_mem hs
   cases hw : isW l[i] with
   | true => rfl
   | false =>
    exfalso
    have : (fun s => !isW s) l[i] = true := by simp [hw]
    unfold firstAt at hf
    split at hf
    ·omega
    ·rename_i hn
     rw [List.findIdx?_eq_none_iff] at hn
     have := hn _ (List.getElem_mem hi)
     simp [hw] at this
  refine w_slices_DeleteFunc_impl_Step_impl_Step (by simp) ?_
  unfold b_slices_DeleteFunc_impl_Step_impl_Step
  simp -implicitDefEqProofs only [go_sem]
  refine PC.use hif ?_
  rw [hf]
  simp -implicitDefEqProofs only [go_sem]
  rw [hall]
  exact ⟨Keep.refl _ _, hv⟩
 obtain ⟨k0, hk0, e0, p0, n0⟩ := firstAt_get (p := fun s => !isW s) (l := l) (by have := firstAt_le (fun s => !isW s) l; omega)
 have hpre : (l.take k0).filter isW = l.take k0 := by
  rw [List.filter_eq_self]
  intro s hs
  obtain ⟨i, hi, rfl⟩ := List.getElem_of_mem hs
  rw [List.length_take] at hi
  rw [List.getElem_take]
  have := n0 i (by omega)
  simpa using this
 rcases hv with ⟨a, c, rfl, e⟩ | ⟨b, c, ob, rfl, hlc, hbb, h0b, hg, hp, hw⟩
 ·have : l = [] := by simpa using e
  subst this; simp at hk0
 rw [hl] at *
 obtain ⟨oc, oz⟩ := ob
 obtain ⟨R, rfl⟩ := hp
 refine w_slices_DeleteFunc_impl_Step_impl_Step (by simp) ?_
 unfold b_slices_DeleteFunc_impl_Step_impl_Step
 simp -implicitDefEqProofs only [go_sem]
 refine PC.use hif ?_
 rw [e0]
 simp -implicitDefEqProofs only [go_sem, show ¬ ((k0 : Int) = -1) by omega, wrap_i64 (show -(9223372036854775808 : Int) ≤ ((k0 : Int) + 1) by omega) (show ((k0 : Int) + 1) < 9223372036854775808 by omega)]
 have pk0 : isW l[k0] = false := by simpa using p0
 have hstart : (l.take (k0 + 1)).filter isW = l.take k0 := by rw [filter_take _ _ _ hk0, if_neg (by simp [pk0]), hpre]
 refine loopW_of (fun m f h' => ∃ (j : Nat) (M : List Value) (z : Nat), m + j = l.length ∧ Keep (fun x => x = b) h h' ∧ h'.get b = some ⟨fl ((l.take j).filter isW) ++ (M ++ (fl (l.drop j) ++ R)), z⟩ ∧ M.length = (j - ((l.take j).filter isW).length) * 4 ∧
   ((l.take j).filter isW).length < j ∧ j ≤ l.length ∧
   f 0 = sl b 0 l.length c ∧ f 1 = .func (.func 195) #[] #[] ∧ f 5 = i64 ((l.take j).filter isW).length ∧ f 6 = i64 j) (l.length - (k0 + 1))
  ⟨k0 + 1, (l[k0]).cells, oz, by omega, Keep.refl _ _, ?_, ?_, ?_, by omega, by simp -implicitDefEqProofs only [go_sem], by simp -implicitDefEqProofs only [go_sem], ?_, by simp -implicitDefEqProofs only [go_sem]; rfl⟩ ?_
 ·rw [hg, hstart]
  have e1 : fl l = fl (l.take k0) ++ ((l[k0]).cells ++ fl (l.drop (k0 + 1))) := by
   conv => lhs; rw [← List.take_append_drop k0 l, List.drop_eq_getElem_cons hk0]
   rw [fl_app, fl_cons]
  show some (Ob.mk (fl l ++ R) oz) = _
  rw [e1]; simp only [List.append_assoc]
 ·rw [hstart, List.length_take]; simp; omega
 ·rw [hstart, List.length_take]; omega
 ·simp -implicitDefEqProofs only [go_sem, hstart, List.length_take, Nat.min_eq_left (show k0 ≤ l.length by omega)]
 rintro m f h' ⟨j, M, z, hm, hk, hg', hM, hij, hjl, f0, f1, f5, f6⟩
 have hb1 := hk.1
 have hlk := fl_len ((l.take j).filter isW)
 obtain ⟨i, hi⟩ : ∃ i, i = ((l.take j).filter isW).length := ⟨_, rfl⟩
 rw [← hi] at hM hij f5 hlk
 skip
 by_cases hj : j < l.length
 ·have hdr : fl (l.drop j) = (l[j]).cells ++ fl (l.drop (j + 1)) := by rw [List.drop_eq_getElem_cons hj, fl_cons]
  have hA : (fl ((l.take j).filter isW) ++ M).length = j * 4 := by rw [List.length_append, hlk, hM]; omega
  have e1 : ldc h' b (j * 4) 4 = some (l[j]).cells := by
   rw [ldc_get hg', hdr, if_pos (by simp only [List.length_append] at hA ⊢; simp; omega), ← List.append_assoc, ← hA, List.drop_left, List.append_assoc]
   rfl
  have hft := filter_take isW l j hj
  simp -implicitDefEqProofs only [go_sem, hj, e1, f0, f1, f5, f6, hl, Int.ofNat_lt, Int.natCast_nonneg, hbb, hb1]
  intro b7 hb7 n7
  rw [hb1] at hb7
  have y7 : (b = b7) = False := eq_false fun e => by rw [e, n7] at hg'; cases hg'
  simp -implicitDefEqProofs only [go_sem, hb7, y7, f0, f1, f5, f6, hl, Int.ofNat_lt, Int.natCast_nonneg, hbb, hb1]
  refine (writes1_pc _ l[j]).use ?_
  cases hw : isW l[j] with
  | false =>
   rw [hw, if_neg (by simp)] at hft
   simp -implicitDefEqProofs only [go_sem, hw, y7, wrap_i64 (show -(9223372036854775808 : Int) ≤ ((j : Int) + 1) by omega) (show ((j : Int) + 1) < 9223372036854775808 by omega), f0, f1, f5, f6, hl, Int.ofNat_lt, Int.natCast_nonneg, hbb, hb1]
   refine ⟨m - 1, by omega, _, Ext.refl _, j + 1, M ++ (l[j]).cells, z, by omega, ?_, ?_, ?_, by rw [hft, ← hi]; omega, by omega, by rw [hft, hi], rfl⟩
   ·exact hk.set (.inr (by cases hq : h.get b7 with | none => rfl | some o => exact absurd n7 (hk.2.2.2 b7 (by rw [hq]; simp)))) _
   ·rw [H.set_get_ne _ _ _ _ (of_eq_false y7), hg', hft, hdr]; simp only [List.append_assoc]
   ·rw [hft, ← hi, List.length_append, hM]; simp; omega
  | true =>
   rw [hw, if_pos rfl] at hft
   have e2 : ∀ x, stc (h'.set b7 x) b (i * 4) (l[j]).cells 4 = some ((h'.set b7 x).set b ⟨fl ((l.take j).filter isW) ++ ((l[j]).cells ++ (((M ++ (l[j]).cells).drop 4) ++ (fl (l.drop (j + 1)) ++ R))), z⟩) := by
    intro x
    have hM2 : 4 ≤ (M ++ (l[j]).cells).length := by simp
    rw [stc_get (ob := ⟨fl ((l.take j).filter isW) ++ ((M ++ (l[j]).cells) ++ (fl (l.drop (j + 1)) ++ R)), z⟩) (by rw [H.set_get_ne _ _ _ _ (of_eq_false y7), hg', hdr]; simp only [List.append_assoc]), if_pos ⟨rfl, by simp only [List.length_append, hlk]; simp; omega, rfl⟩,
     splice_app _ _ _ 0 (by omega), splice_z, List.drop_append_of_le_length (by exact hM2)]
    rfl
   simp -implicitDefEqProofs only [go_sem, hw, y7, e2, wrap_i64 (show -(9223372036854775808 : Int) ≤ ((j : Int) + 1) by omega) (show ((j : Int) + 1) < 9223372036854775808 by omega), wrap_i64 (show -(9223372036854775808 : Int) ≤ ((i : Int) + 1) by omega) (show ((i : Int) + 1) < 9223372036854775808 by omega), show (i < l.length) by omega, f0, f1, f5, f6, hl, Int.ofNat_lt, Int.natCast_nonneg, hbb, hb1]
   have n7' : h.get b7 = none := by cases hq : h.get b7 with | none => rfl | some o => exact absurd n7 (hk.2.2.2 b7 (by rw [hq]; simp))
   have hlen : ((l.take j).filter isW ++ [l[j]]).length = i + 1 := by rw [List.length_append, ← hi]; rfl
   refine ⟨m - 1, by omega, _, Ext.refl _, j + 1, (M ++ (l[j]).cells).drop 4, z, by omega, ?_, ?_, ?_, by rw [hft, hlen]; omega, by omega, by rw [hft, hlen]; rfl, rfl⟩
   ·exact (hk.set (.inr n7') _).set (.inl rfl) _
   ·rw [H.set_get_same, hft, fl_app]; try simp [fl]
   ·rw [hft, hlen, List.length_drop, List.length_append, hM]; simp <;> omega
 ·have e : j = l.length := by omega
  subst e
  rw [List.take_length] at *
  rw [List.drop_length] at hg'
  have hil : i ≤ l.length := by omega
  obtain ⟨d, hd⟩ : ∃ d, l.length - i = d + 1 := ⟨l.length - i - 1, by omega⟩
  have hci : ¬ c = i := by omega
  have e3 : ∀ q, q.length = (d + 1) * 4 → q.all Value.oneCell' = true → ∃ cs, fl (l.filter isW) <+: cs ∧ stc h' b (i * 4) q ((d + 1) * 4) = some (h'.set b ⟨cs, z⟩) := by
   intro q hq1 hq2
   refine ⟨fl (l.filter isW) ++ splice (M ++ (fl [] ++ R)) 0 q, List.prefix_append _ _, ?_⟩
   rw [stc_get hg', if_pos ⟨hq1, by simp only [List.length_append, hlk, hM]; simp; omega, hq2⟩, splice_app _ _ _ 0 (by omega)]
  obtain ⟨cs, hpc, hst⟩ := e3 (List.replicate (d + 1) [i64 0, i64 0, i64 0, str []]).flatten (by rw [flat_length (w := 4) (Wid.rep (z := [i64 0, i64 0, i64 0, str []]) rfl _), List.length_replicate]) (by
   rw [List.all_eq_true]
   intro x hx
   obtain ⟨r, hr, hx⟩ := List.mem_flatten.1 hx
   rw [(List.mem_replicate.1 hr).2] at hx
   simp only [List.mem_cons, List.not_mem_nil, or_false] at hx
   rcases hx with rfl | rfl | rfl | rfl <;> rfl)
  have hic : (i : Int) ≤ (l.length : Int) := by omega
  have hic2 : (i : Int) ≤ (c : Int) := by omega
  simp -implicitDefEqProofs only [go_sem, Nat.lt_irrefl, hil, hic, hic2, hd, hci, hst, f0, f1, f5, f6, hl, Int.ofNat_lt, Int.natCast_nonneg, hbb, hb1]
  have hblk : blk (sl b 0 l.length c) = some b := by rw [show l.length = (l.length - 1) + 1 by omega]; rfl
  refine ⟨Keep.set (hk.mono fun x hx => ?_) (.inl hblk) _, .inr ⟨b, c, _, ?_, ?_, by rw [H.set_base, hb1]; exact hbb, h0b, H.set_get_same _ _ _, hpc, stepsW _⟩⟩
  ·subst hx; exact hblk
  ·rw [List.length_map, ← hi]
  ·rw [List.length_map, ← hi]; omega
def b_impl_writes : C := (jo [q 2 (.mv (.c nils))]
 (jo [jm 3 0, jc 4 194 [(.t 3)], ⟨(some 5), none, .call (.c (.func (.func 193) #[] #[])) [(.t 4), (.c (.func (.func 195) #[] #[]))]⟩, jm 2 5]
 .ret))
theorem w_impl_writes : Wk Tryz.prog 125 6 [.tmp 2] b_impl_writes := Wk.of mixedOrders Tryz.func125 (by kernel_rfl) (by kernel_rfl)

theorem writes_ac {h : H} {v : Value} {l : List UStep} (hv : Sl h v 4 (l.map UStep.cells)) (hb : l.length ≤ 1048576) : AC Tryz.prog 125 [v] h fun v' h' => Ext h h' ∧ Fre h h' v' 4 ((l.filter isW).map UStep.cells) := by
 refine w_impl_writes (by simp) ?_
 unfold b_impl_writes
 simp -implicitDefEqProofs only [go_sem]
 refine AC_of (cloneSteps_ac hv hb) ?_
 rintro v1 h1 - ⟨e1, f1⟩
 obtain ⟨a1, c1, rfl⟩ := f1.shape
 simp -implicitDefEqProofs only [go_sem]
 refine AC_of (deleteFunc_ac f1 hb) ?_
 rintro v2 h2 - ⟨k2, f2⟩
 obtain ⟨a2, c2, rfl⟩ := f2.shape
 simp -implicitDefEqProofs only [go_sem]
 exact ⟨k2.ext e1 (fun b hb => f1.new b hb), f2⟩
theorem splice_left (A B r : List Value) (o : Nat) (h : o + r.length ≤ A.length) : splice (A ++ B) o r = splice A o r ++ B := by
 unfold splice
 rw [List.take_append_of_le_length (by omega), List.drop_append_of_le_length (by omega)]
 simp
theorem Fre.put {h0 h : H} {v : Value} {w : Nat} {rows : List (List Value)} (f : Fre h0 h v w rows) {k : Nat} (hk : k < rows.length) {r : List Value} (hr : r.length = w) (h1 : r.all Value.oneCell' = true) :
  ∃ b c ob, v = sl b 0 rows.length c ∧ h.base ≤ b ∧ h0.get b = none ∧ h.get b = some ob ∧ stc h b (k * w) r w = some (h.set b ⟨splice ob.cells (k * w) r, ob.size⟩) ∧ Fre h0 (h.set b ⟨splice ob.cells (k * w) r, ob.size⟩) v w (rows.set k r) := by
 rcases f with ⟨a, c, rfl, rfl⟩ | ⟨b, c, ob, rfl, hlc, hb, h0b, hg, hp, hw⟩
 ·simp at hk
 obtain ⟨oc, oz⟩ := ob
 obtain ⟨R, rfl⟩ := hp
 have hl := flat_length hw
 have h2 : k * w + w ≤ rows.length * w := by rw [show k * w + w = (k + 1) * w by rw [Nat.add_mul]; omega]; exact Nat.mul_le_mul_right _ hk
 refine ⟨b, c, _, rfl, hb, h0b, hg, ?_, .inr ⟨b, c, _, by rw [List.length_set], by rw [List.length_set]; exact hlc, by rw [H.set_base]; exact hb, h0b, H.set_get_same _ _ _, ?_, hw.set k hr⟩⟩
 ·rw [stc_get hg, if_pos ⟨hr, by simp only [List.length_append, hl]; omega, h1⟩]
 ·simp only
  rw [splice_left _ _ _ _ (by rw [hl, hr]; exact h2), flat_splice hw k hk hr]
  exact List.prefix_append _ _
theorem step_in {s : UStep} {im : List (List UInt8)} (hi : imageOk im) (hs : stepOk s im.length) (h5 : s.kind ≠ 5) : (0 ≤ s.dst ∧ s.dst.toNat < im.length) ∧ (0 ≤ s.src ∧ s.src.toNat < im.length) ∧ makeOk s (at8 im s.src) := by
 obtain ⟨k, hd, hsr, hdt⟩ := hs
 obtain ⟨⟨l1, l2⟩, hb⟩ := hi
 rw [if_neg h5] at hd
 rw [if_neg h5] at hsr
 have h2 : 0 ≤ s.src ∧ s.src.toNat < im.length := by split at hsr <;> omega
 refine ⟨by omega, h2, by omega, fun h4 => ⟨?_, ?_⟩⟩
 ·rw [if_pos (.inr h4)] at hdt; exact hdt
 ·unfold at8
  rw [List.getElem?_eq_getElem h2.2]
  exact hb _ (List.getElem_mem _)
def b_impl_imageApply : C := (jo [q 4 (.mv (.c nils))]
 (jo [jm 8 0, jc 9 124 [(.t 8)], jm 5 9]
 (.seq (jo [jm 10 1, jc 11 125 [(.t 10)], q 12 (.len (.t 11)), q 13 (.mv (.c (i64 0)))]
 (.block 0 (.loop (jo [jb 14 .lss 13 12]
 (.seq (.cond (.t 14) .skip (.exit 0))
 (.seq (.block 1 (jo [q 15 (.idx 4 (.t 11) (.t 13)), jd 16 4 15, ⟨(some 7), none, .alloc [(i64 0), (i64 0), (i64 0), (str [])]⟩, js 4 7 16]
 (.dops true (.tk (jm 17 5) (.tk (jf 18 1 7) (.tk (jl 19 18) (.tk (jd 20 4 7) (.tk (jm 21 0) (.tk (jf 22 2 7) (.tk (jl 23 22) (.tk (q 24 (.idx 1 (.t 21) (.t 23))) (.tk (jl 25 24) (.sq (jc 26 126 [(.t 20), (.t 25)]) (.tk (q 27 (.idx 1 (.t 17) (.t 19))) (.lt (js 1 27 26) .nil)))))))))))))))
 (.ops [jk 28 .add 13 1, jm 13 28])))))))
 (jo [jm 29 5, jm 4 29]
 .ret))))
theorem w_impl_imageApply : Wk Tryz.prog 65 30 [.tmp 4] b_impl_imageApply := Wk.of mixedOrders Tryz.func65 (by kernel_rfl) (by kernel_rfl)

theorem imageApply_ac {h : H} {v u : Value} {im : List (List UInt8)} {l : List UStep} (hv : Sl h v 1 (strs im)) (hu : Sl h u 4 (l.map UStep.cells)) (hi : imageOk im) (hn : l.length ≤ 1048576) (hs : ∀ s ∈ l, stepOk s im.length) :
  AC Tryz.prog 65 [v, u] h fun r h' => Ext h h' ∧ Fre h h' r 1 (strs (applyB im l)) := by
 have hi1 := hi.1
 obtain ⟨av, cv, bv, ov, rfl, hcv, hrv, hlv⟩ := hv
 have hv : Sl h (.slice av (strs im).length cv) 1 (strs im) := ⟨av, cv, bv, ov, rfl, hcv, hrv, hlv⟩
 obtain ⟨au, cu, rfl⟩ := hu.shape
 have hl : (strs im).length = im.length := by simp
 have hlu : (l.map UStep.cells).length = l.length := by simp
 refine w_impl_imageApply (by simp) ?_
 unfold b_impl_imageApply
 simp -implicitDefEqProofs only [go_sem]
 refine AC_of (cloneStrs_ac hv (by omega)) ?_
 rintro vo h1 - ⟨e1, f1⟩
 obtain ⟨bo, co, ob1, rfl, hbo, hno, hgo, -, -⟩ := Fre.put (k := 0) f1 (by rw [hl]; omega) (r := [str []]) rfl rfl
 simp -implicitDefEqProofs only [go_sem]
 refine AC_of (writes_ac (hu.ext e1) hn) ?_
 rintro vw h2 - ⟨e2, f2⟩
 have dj := Dj.of f1.known f2.new
 obtain ⟨w, hw⟩ : ∃ w, w = l.filter isW := ⟨_, rfl⟩
 rw [← hw] at f2
 obtain ⟨aw, cw, bw, ow, rfl, hcw, hrw, hlw⟩ := f2.sl
 have hlw' : (w.map UStep.cells).length = w.length := by simp
 have hwl : w.length ≤ l.length := by rw [hw]; exact List.length_filter_le _ _
 simp only [List.length_map] at hrw hrv
 have hmw : ∀ x ∈ w, x ∈ l ∧ x.kind ≠ 5 := fun x hx => by
  rw [hw] at hx
  obtain ⟨m1, m2⟩ := List.mem_filter.1 hx
  exact ⟨m1, by simpa [isW] using m2⟩
 have f1' := f1.ext e2
 have hE := e1.trans e2
 simp -implicitDefEqProofs only [go_sem]
 refine loopW_of (fun m f h' => ∃ (k : Nat), m + k = w.length ∧ Keep (fun x => blk (sl bo 0 (strs im).length co) = some x) h2 h' ∧ Fre h h' (sl bo 0 (strs im).length co) 1 (strs ((w.take k).foldl (putB im) im)) ∧
   f 0 = .slice av (strs im).length cv ∧ f 5 = sl bo 0 (strs im).length co ∧ f 11 = .slice aw (w.map UStep.cells).length cw ∧ f 12 = i64 w.length ∧ f 13 = i64 k) w.length
  ⟨0, by simp, Keep.refl _ _, f1', by simp -implicitDefEqProofs only [go_sem], by simp -implicitDefEqProofs only [go_sem], by simp -implicitDefEqProofs only [go_sem], by simp -implicitDefEqProofs only [go_sem, hlw'], by simp -implicitDefEqProofs only [go_sem]; rfl⟩ ?_
 rintro m f h' ⟨k, hm, hk, ho, f0, f5, f11, f12, f13⟩
 have hb1 := hk.1
 have hb2 : h'.base = h.base := by rw [hb1, hE.1]
 skip
 by_cases hkw : k < w.length
 ·obtain ⟨hmem, h5⟩ := hmw _ (List.getElem_mem hkw)
  obtain ⟨⟨d1, d2⟩, ⟨s1, s2⟩, hmk⟩ := step_in hi (hs _ hmem) h5
  have hEk : Ext h h' := hk.ext hE (fun b hb => by
   have := f1.new b hb
   exact this)
  have dk : ∀ b, blk (.slice aw (w.map UStep.cells).length cw) = some b → ¬ blk (sl bo 0 (strs im).length co) = some b := fun b h1 h2 => dj b h2 h1
  obtain ⟨aw', cw', bw', ow', q1, q2, q3, q4⟩ := f2.sl.keep hk dk
  have e1 : ldc h' bw (ow + k * 4) 4 = some (w[k]).cells := by
   simp only [Value.slice.injEq] at q1
   obtain ⟨rfl, -, rfl⟩ := q1
   rw [hlw', hrw] at q3
   simp only [Option.some.injEq, Prod.mk.injEq, and_true] at q3
   obtain ⟨rfl, rfl⟩ := q3
   exact q4 k _ (by simp [hkw])
  have hlen := fold_putB_len im (w.take k) im
  have e2 : ldc h' bv (ov + w[k].src.toNat * 1) 1 = some [str (at8 im w[k].src)] := ldc_sub hEk.2 (hlv _ _ (by unfold at8; rw [List.getElem?_map, List.getElem?_eq_getElem s2]; rfl))
  simp -implicitDefEqProofs only [go_sem, hkw, e1, f0, f5, f11, f12, f13, hl, hlw', hrw, hrv, Int.ofNat_lt, Int.natCast_nonneg, hb2]
  intro b7 hb7 n7
  rw [hb2] at hb7
  have e3 := ldc_sub (Sub.set (Sub.refl h') n7 ⟨(w[k]).cells, 4⟩) e2
  obtain ⟨b', c', ob', z1, z2, z3, z4, z5, z6⟩ := Fre.put (k := w[k].dst.toNat) (ho.ext ((Ext.refl _).set n7 ⟨(w[k]).cells, 4⟩)) (by rw [List.length_map, hlen]; exact d2) (r := [str (makeB w[k] (at8 im w[k].src))]) rfl rfl
  simp only [sl, List.length_map, hlen, Value.slice.injEq, Option.some.injEq, Addr.mk.injEq, hl, true_and, and_true] at z1
  obtain ⟨rfl, rfl⟩ := z1
  simp -implicitDefEqProofs only [go_sem, hb7, s1, show w[k].src < (im.length : Int) by omega, e3, f0, f5, f11, f12, f13, hl, hlw', hrw, hrv, Int.ofNat_lt, Int.natCast_nonneg, hb2]
  refine (madeBy_pc _ w[k] hmk).use ?_
  simp only [H.set_base, hb2] at z2
  simp -implicitDefEqProofs only [go_sem, d1, show w[k].dst < (im.length : Int) by omega, z2, z5, wrap_i64 (show -(9223372036854775808 : Int) ≤ ((k : Int) + 1) by omega) (show ((k : Int) + 1) < 9223372036854775808 by omega), f0, f5, f11, f12, f13, hl, hlw', hrw, hrv, Int.ofNat_lt, Int.natCast_nonneg, hb2]
  rw [hl] at hk z6
  have hbk : blk (sl bo 0 im.length co) = some bo := by rw [show im.length = (im.length - 1) + 1 by omega]; rfl
  refine ⟨m - 1, by omega, _, Ext.refl _, k + 1, by omega, ?_, ?_, rfl⟩
  ·exact (hk.set (.inr (by cases hq : h2.get b7 with | none => rfl | some o => exact absurd n7 (hk.2.2.2 b7 (by rw [hq]; simp)))) _).set (.inl hbk) _
  ·rw [foldl_take _ _ _ _ hkw]
   have : strs (putB im ((w.take k).foldl (putB im) im) w[k]) = (strs ((w.take k).foldl (putB im) im)).set w[k].dst.toNat [str (makeB w[k] (at8 im w[k].src))] := by
    exact List.map_set ..
   rw [this]
   exact z6
 ·have e : k = w.length := by omega
  subst e
  rw [List.take_length] at ho
  simp -implicitDefEqProofs only [go_sem, Nat.lt_irrefl, f0, f5, f11, f12, f13, hl, hlw', hrw, hrv, Int.ofNat_lt, Int.natCast_nonneg, hb2]
  refine ⟨hk.ext hE (fun b hb => f1.new b hb), ?_⟩
  rw [hl] at ho
  rw [applyB, ← hw]
  exact ho
theorem code_zero {l : List UStep} {b : Int} (h : codeOf l b = 0) : stepsOk l b ∧ ¬ twice l ∧ risingFrom (-1) l = true := by
 unfold codeOf at h
 split at h
 ·rename_i h1
  split at h
  ·simp at h
  ·rename_i h2
   split at h
   ·rename_i h3; exact ⟨h1, h2, h3⟩
   ·simp at h
 ·simp at h
abbrev spImg (o : List (List UInt8) × Int) : List Sp := [.s 1 (strs o.1), .v (i64 o.2)]
theorem img_f {h0 h : H} {o : List (List UInt8) × Int} {cs : List Value} : RepF h0 h (spImg o) cs ↔ ∃ v, cs = [v, i64 o.2] ∧ Fre h0 h v 1 (strs o.1) := by
 simp only [spImg, RepF_i, RepF_s, RepF_nil]
 constructor
 ·rintro ⟨v, _, rfl, h1, _, _, rfl, rfl⟩; exact ⟨v, rfl, h1⟩
 ·rintro ⟨v, rfl, h1⟩; exact ⟨v, _, rfl, h1, fun d hd => by simp only [List.mem_singleton] at hd; subst hd; exact Dj.nb rfl, _, rfl, rfl⟩
theorem img_none {h0 h : H} {c : Int} : RepF h0 h (spImg ([], c)) [nils, i64 c] := img_f.2 ⟨nils, rfl, .inl ⟨none, 0, rfl, rfl⟩⟩
end Go.Proofs.YthjbhdmjfakfaaaGreatDoor