/- A helper of this seat's claims (contracts of the functions): what it shows is shown for every input that its statements name, on no other condition. -/
import Derived.Test.YtdofcojbjcpikaaGreatDoorC11q
set_option linter.unusedVariables false
set_option linter.unusedSimpArgs false
set_option maxRecDepth 100000
namespace Go.Proofs.YtdofcojbjcpikaaGreatDoor
open Go.KH

/-! ## The reference's plan, whole -/
theorem bools_erase {w : List UStep} {s : PS} (p : PInv w s) {k : Nat} (hk : k < s.left.length) : splice (bools w.length s.left).flatten s.left[k] [.bool false] = (bools w.length (s.left.eraseIdx k)).flatten := by
  rw [bools_flat, bools_flat, bcl_put _ _ (p.bound _ (List.getElem_mem hk))]
  refine bcl_congr fun i _ => ?_
  have := mem_erase p hk i
  by_cases h : i = s.left[k]
  · rw [if_pos h]; exact (decide_eq_false fun q => (this.1 q).2 h).symm
  · rw [if_neg h]; exact decide_eq_decide.2 ⟨fun q => this.2 ⟨q, h⟩, fun q => (this.1 q).1⟩
theorem bcl_next {n k : Nat} (hk : k < n) : splice (bcl n fun i => decide (i < k)) k [.bool true] = bcl n fun i => decide (i < k + 1) := by
  rw [bcl_put _ _ hk]
  refine bcl_congr fun i _ => ?_
  by_cases e : i = k
  · rw [if_pos e]; simp [e]
  · rw [if_neg e]; exact decide_eq_decide.2 (by omega)
theorem stB_add {st : List Int} {d : Int} (hd : 0 ≤ d ∧ d ≤ 7) : splice (stB st).flatten d.toNat [.bool true] = (stB (st ++ [d])).flatten := by
  rw [stB_flat, stB_flat, bcl_put _ _ (by omega)]
  refine bcl_congr fun i _ => ?_
  by_cases h : i = d.toNat
  · rw [if_pos h]; simp [show (i : Int) = d by omega]
  · rw [if_neg h]; simp [show ¬ (i : Int) = d by omega]
/-- spec.l11Plan -/
def b_spec_l11Plan : C := (.seq (.ops [q 2 (.mv (.c nils))])
 (.seq (.ops [q 11 (.mv (.t 0)), ⟨(some 12), none, .call (.c (.func (.func 289) #[] #[])) [(.t 11)]⟩, q 3 (.mv (.t 12))])
 (.seq (.ops [q 13 (.mv (.t 3)), q 14 (.len (.t 13)), ⟨(some 15), none, .mks 1 1 [(.bool false)] (.t 14) (.t 14)⟩, q 4 (.mv (.t 15))])
 (.seq (.seq (.ops [q 5 (.mv (.c (i64 0)))])
 (.block 0 (.loop (.seq (.seq (.ops [q 16 (.mv (.t 5)), q 17 (.mv (.t 3)), q 18 (.len (.t 17)), q 19 (.bin .lss (.t 16) (.t 18))])
 (.cond (.t 19) .skip (.exit 0)))
 (.seq (.block 1 (.ops [q 22 (.mv (.t 4)), q 23 (.mv (.t 5)), q 24 (.idx 1 (.t 22) (.t 23)), ⟨none, none, .st 1 (.t 24) (.c (.bool true))⟩]))
 (.ops [q 20 (.mv (.t 5)), q 21 (.bin .add (.t 20) (.c (i64 1))), q 5 (.mv (.t 21))]))))))
 (.seq (.ops [⟨(some 25), none, .mks 1 1 [(.bool false)] (.c (i64 8)) (.c (i64 8))⟩, q 6 (.mv (.t 25))])
 (.seq (.ops [⟨(some 26), none, .bsl 0 [] []⟩, q 7 (.mv (.t 26))])
 (.seq (.ops [q 8 (.mv (.c (i64 0)))])
 (.block 2 (.loop (.block 3 (.seq (.ops [q 28 (.mv (.t 3)), q 29 (.mv (.t 4)), q 30 (.mv (.t 6)), ⟨(some 31), none, .call (.c (.func (.func 290) #[] #[])) [(.t 28), (.t 29), (.t 30)]⟩, q 27 (.mv (.t 31)), q 32 (.ext 0 (.t 27)), q 33 (.ext 1 (.t 27)), q 9 (.mv (.t 32)), q 10 (.mv (.t 33))])
 (.block 4 (.seq (.ops [q 55 (.mv (.t 10)), q 56 (.bin .lss (.t 55) (.c (i64 0))), q 54 (.mv (.t 56))])
 (.cond (.t 54) (.seq (.ops [q 57 (.mv (.t 7)), q 2 (.mv (.t 57))])
 .ret) (.seq (.ops [q 59 (.mv (.t 9)), q 60 (.bin .geq (.t 59) (.c (i64 0))), q 58 (.mv (.t 60))])
 (.cond (.t 58) (.seq (.ops [q 61 (.mv (.t 7)), q 62 (.mv (.t 9)), q 63 (.mv (.t 3)), q 64 (.mv (.t 9)), q 65 (.idx 4 (.t 63) (.t 64)), q 66 (.fld 1 (.t 65)), q 67 (.ld false 1 (.t 66)), q 68 (.build [(i64 0), (i64 0), (i64 0), (i64 0)] [(0, 1, (.c (i64 2))), (1, 1, (.t 62)), (2, 1, (.t 67))]), ⟨(some 69), none, .bsl 1 [(i64 0), (i64 0), (i64 0), (i64 0)] [(0, 4, (.t 68))]⟩, ⟨(some 70), none, .app 4 32 (.t 61) (.t 69)⟩, q 7 (.mv (.t 70))])
 (.ops [q 71 (.mv (.t 4)), q 72 (.mv (.t 9)), q 73 (.idx 1 (.t 71) (.t 72)), ⟨none, none, .st 1 (.t 73) (.c (.bool false))⟩])) (.seq (.ops [q 34 (.mv (.t 7)), q 35 (.mv (.t 10)), q 36 (.mv (.t 3)), q 37 (.mv (.t 10)), q 38 (.idx 4 (.t 36) (.t 37)), q 39 (.fld 1 (.t 38)), q 40 (.ld false 1 (.t 39)), q 41 (.mv (.t 8)), q 42 (.build [(i64 0), (i64 0), (i64 0), (i64 0)] [(0, 1, (.c (i64 1))), (1, 1, (.t 35)), (2, 1, (.t 40)), (3, 1, (.t 41))]), ⟨(some 43), none, .bsl 1 [(i64 0), (i64 0), (i64 0), (i64 0)] [(0, 4, (.t 42))]⟩, ⟨(some 44), none, .app 4 32 (.t 34) (.t 43)⟩, q 7 (.mv (.t 44))])
 (.seq (.ops [q 45 (.mv (.t 6)), q 46 (.mv (.t 3)), q 47 (.mv (.t 10)), q 48 (.idx 4 (.t 46) (.t 47)), q 49 (.fld 1 (.t 48)), q 50 (.ld false 1 (.t 49)), q 51 (.idx 1 (.t 45) (.t 50)), ⟨none, none, .st 1 (.t 51) (.c (.bool true))⟩])
 (.ops [q 52 (.mv (.t 8)), q 53 (.bin .add (.t 52) (.c (i64 1))), q 8 (.mv (.t 53))])))))))))))))))))))
theorem w_spec_l11Plan {args : List Value} {h : H} {Q : Value → H → Prop} (hl : args.length ≤ 74) (hk : wpc Tryz.prog b_spec_l11Plan (retw [.tmp 2] Q) (argsFr args) h) : AC Tryz.prog 276 args h Q :=
  AC.of_wpc mixedOrders Tryz.func276 (by kernel_rfl) (by kernel_rfl : prepF Tryz.prog Tryz.f276 = some ⟨74, [.tmp 2], b_spec_l11Plan⟩) hl hk

theorem l11Plan_ac {h : H} {v : Value} {l : List UStep} (hv : Sl h v 4 (l.map UStep.cells)) (hn : l.length ≤ 20) (hd : ∀ s ∈ l.filter isW, 0 ≤ s.dst ∧ s.dst ≤ 7) : AC Tryz.prog 276 [v] h fun r h' => Ext h h' ∧ Own h h' r 4 ((planB (l.filter isW)).map UMove.cells) := by
  obtain ⟨a, c, rfl⟩ := hv.shape
  refine w_spec_l11Plan (by simp) ?_
  unfold b_spec_l11Plan
  simp -implicitDefEqProofs only [go_sem]
  refine AC_of (specWrites_ac hv hn) ?_
  rintro v1 h1 - ⟨e1, f1⟩
  generalize hw : l.filter isW = w at *
  have hwn : w.length ≤ 20 := by rw [← hw]; have := List.length_filter_le isW l; omega
  obtain ⟨aw, cw, bw, ow, rfl, hcw, sw2, sw3⟩ := f1.sl
  have sw : Sl h1 (.slice aw (w.map UStep.cells).length cw) 4 (w.map UStep.cells) := ⟨aw, cw, bw, ow, rfl, hcw, sw2, sw3⟩
  rw [List.length_map] at sw
  simp only [List.length_map] at sw2
  have hlm : (w.map UStep.cells).length = w.length := by simp
  skip
  simp -implicitDefEqProofs only [go_sem, hlm]
  simp -implicitDefEqProofs only [go_sem, Int.natCast_nonneg, Int.le_refl, show (w.length : Int) < 1099511627776 by omega, show ((1 : Nat) : Int) * (w.length : Int) ≤ 140737488355328 by omega, hlm]
  intro bl hb_bl n_bl
  simp -implicitDefEqProofs only [go_sem, hlm, hb_bl]
  have hb0 : (List.replicate w.length [Value.bool false]).flatten = bcl w.length (fun i => decide (i < 0)) := by simp only [bcl, List.flatten_replicate_singleton, Nat.not_lt_zero, decide_false]; exact (List.eq_replicate_iff.2 ⟨by simp, by simp⟩).symm
  refine loopW_of (fun m f h' => ∃ k, m + k = w.length ∧ h' = h1.set bl ⟨bcl w.length fun i => decide (i < k), w.length⟩ ∧ f 3 = .slice aw w.length cw ∧ f 4 = sl bl 0 w.length w.length ∧ f 5 = i64 k) w.length
    ⟨0, by simp, by rw [← hb0]; simp, by simp -implicitDefEqProofs only [go_sem, hlm, hb_bl], by simp -implicitDefEqProofs only [go_sem, hlm, hb_bl], by simp -implicitDefEqProofs only [go_sem, hlm, hb_bl]; rfl⟩ ?_
  rintro m f h' ⟨k, hm, rfl, f3, f4, f5⟩
  skip
  by_cases hk : k < w.length
  · have hp := bcl_next hk
    simp -implicitDefEqProofs only [go_sem, hk, hp, bcl_len, Nat.mul_one, show k + 1 ≤ w.length by omega, wrap_i64 (show -(9223372036854775808 : Int) ≤ ((k : Int) + 1) by omega) (show ((k : Int) + 1) < 9223372036854775808 by omega), hlm, hb_bl, f3, f4, f5, Int.ofNat_lt, Int.natCast_nonneg]
    exact ⟨m - 1, by omega, _, Ext.refl _, k + 1, by omega, rfl, rfl⟩
  have e : k = w.length := by omega
  subst e
  clear hk hm
  simp -implicitDefEqProofs only [go_sem, Nat.lt_irrefl, Int.reduceToNat, hlm, hb_bl, f3, f4, f5, Int.ofNat_lt, Int.natCast_nonneg]
  refine Req.of (by decide) ?_
  simp -implicitDefEqProofs only [go_sem, Int.reduceToNat, hlm, hb_bl, f3, f4, f5, Int.ofNat_lt, Int.natCast_nonneg]
  intro bs hb_bs n_bs
  have z1 : (bs = bl) = False := eq_false fun e => by subst e; rw [H.set_get_same] at n_bs; cases n_bs
  simp -implicitDefEqProofs only [go_sem, hlm, hb_bl, f3, f4, f5, Int.ofNat_lt, Int.natCast_nonneg, hb_bs]
  intro bo hb_bo n_bo
  have z2 : (bo = bs) = False := eq_false fun e => by subst e; rw [H.set_get_same] at n_bo; cases n_bo
  have y1 : bs ≠ bl := of_eq_false z1
  have y2 : bo ≠ bs := of_eq_false z2
  have z3 : (bo = bl) = False := eq_false fun e => by rw [e, H.set_get_ne _ _ _ _ y1.symm, H.set_get_same] at n_bo; cases n_bo
  simp -implicitDefEqProofs only [go_sem, hlm, hb_bl, f3, f4, f5, Int.ofNat_lt, Int.natCast_nonneg, hb_bs, hb_bo]
  have y3 : bo ≠ bl := of_eq_false z3
  have hst0 : (List.replicate 8 [Value.bool false]).flatten = (stB []).flatten := by rw [stB_flat, List.flatten_replicate_singleton]; simp only [bcl, List.not_mem_nil, decide_false]; exact (List.eq_replicate_iff.2 ⟨by simp, by simp⟩).symm
  have hbl0 : bcl w.length (fun i => decide (i < w.length)) = (bools w.length (List.range w.length)).flatten := by
    rw [bools_flat]; exact bcl_congr fun i hi => decide_eq_decide.2 (by simp)
  rw [hst0, hbl0]
  have n1 : h1.get bs = none := by rw [H.set_get_ne _ _ _ _ (of_eq_false z1)] at n_bs; exact n_bs
  have n2 : h1.get bo = none := by rw [H.set_get_ne _ _ _ _ (of_eq_false z2), H.set_get_ne _ _ _ _ (of_eq_false z3)] at n_bo; exact n_bo
  generalize hhB : (h1.set bl ⟨(bools w.length (List.range w.length)).flatten, w.length⟩).set bs ⟨(stB []).flatten, 8⟩ = hB
  have gB1 : hB.get bl = some ⟨(bools w.length (List.range w.length)).flatten, w.length⟩ := by rw [← hhB, H.set_get_ne _ _ _ _ y1.symm, H.set_get_same]
  have gB2 : hB.get bs = some ⟨(stB []).flatten, 8⟩ := by rw [← hhB, H.set_get_same]
  have eB : Ext h1 hB := by rw [← hhB]; exact ((Ext.refl _).set' n_bl _).set' n1 _
  have bB : hB.base = h1.base := eB.1
  have nB : hB.get bo = none := by
    rw [← hhB, H.set_get_ne _ _ _ _ (of_eq_false z2), H.set_get_ne _ _ _ _ (of_eq_false z3)]; exact n2
  refine loopW_of (fun m f h' => ∃ (s : PS) (u : Value), meas w s = m ∧ PInv w s ∧ plan w s = planB w ∧ f 3 = .slice aw w.length cw ∧ f 4 = sl bl 0 w.length w.length ∧ f 6 = sl bs 0 8 8 ∧ f 7 = u ∧ f 8 = i64 s.st.length ∧ Ext h1 h' ∧
      h'.get bl = some ⟨(bools w.length s.left).flatten, w.length⟩ ∧ h'.get bs = some ⟨(stB s.st).flatten, 8⟩ ∧ (∀ b, h'.get b = none → hB.get b = none) ∧ Own hB h' u 4 (s.mv.map UMove.cells)) (meas w (ps0 w))
    ⟨ps0 w, sl bo 0 0 0, rfl, pinv0 w, rfl, by simp -implicitDefEqProofs only [go_sem, hlm, hb_bl, f3, f4, f5, Int.ofNat_lt, Int.natCast_nonneg, hb_bs, hb_bo], by simp -implicitDefEqProofs only [go_sem, hlm, hb_bl, f3, f4, f5, Int.ofNat_lt, Int.natCast_nonneg, hb_bs, hb_bo], by simp -implicitDefEqProofs only [go_sem, hlm, hb_bl, f3, f4, f5, Int.ofNat_lt, Int.natCast_nonneg, hb_bs, hb_bo], by simp -implicitDefEqProofs only [go_sem, hlm, hb_bl, f3, f4, f5, Int.ofNat_lt, Int.natCast_nonneg, hb_bs, hb_bo], by simp -implicitDefEqProofs only [go_sem, hlm, hb_bl, f3, f4, f5, Int.ofNat_lt, Int.natCast_nonneg, hb_bs, hb_bo]; rfl, eB.set' n2 _, ?_, ?_, ?_, ?_⟩ ?_
  · rw [H.set_get_ne _ _ _ _ y3.symm]; exact gB1
  · rw [H.set_get_ne _ _ _ _ y2.symm]; exact gB2
  · exact none_set (fun _ e => e) _ _
  · exact .inr ⟨bo, 0, 0, rfl, Nat.le_refl _, by rw [H.set_base, bB]; have := hb_bo; simp only [H.set_base] at this; exact this, nB, H.set_get_same _ _ _, by simp, Wid.nil 4⟩
  rintro m f h' ⟨s, u, hm, pi, hp, f3, f4, f6, f7, f8, he, g1, g2, hno, ho⟩
  obtain ⟨au, cu, rfl⟩ := ho.shape
  rw [List.length_map] at ho f7
  skip
  skip
  have sw' := sw.ext he
  have sl1 : Sl h' (sl bl 0 w.length w.length) 1 (bools w.length s.left) := by have := Sl.of_get g1 (c := w.length) (by rw [bools_len]; exact Nat.le_refl _) (bools_wid _ _); rw [bools_len] at this; exact this
  have sl2 : Sl h' (sl bs 0 8 8) 1 (stB s.st) := Sl.of_get g2 (c := 8) (by simp [stB]) (stB_wid _)
  simp -implicitDefEqProofs only [go_sem, hlm, hb_bl, f3, f4, f5, Int.ofNat_lt, Int.natCast_nonneg, f3, f4, f6, f7, f8, Int.ofNat_lt, Int.natCast_nonneg]
  refine (l11Next_pc sw' sl1 sl2 hd pi.bound (by omega)).use ?_
  rw [fst_free pi]
  simp -implicitDefEqProofs only [go_sem, hlm, hb_bl, f3, f4, f5, Int.ofNat_lt, Int.natCast_nonneg, f3, f4, f6, f7, f8, Int.ofNat_lt, Int.natCast_nonneg]
  by_cases hl : s.left = []
  · rw [fst_nil hl]
    simp -implicitDefEqProofs only [go_sem, hlm, hb_bl, f3, f4, f5, Int.ofNat_lt, Int.natCast_nonneg, f3, f4, f6, f7, f8, Int.ofNat_lt, Int.natCast_nonneg]
    rw [← hp, plan_done hl]
    exact ⟨e1.trans he, ho.back (e1.trans eB)⟩
  rw [fst_left pi hl]
  have hlt := planStep_lt (w := w) hl
  have pi' := pinv_step pi hl
  have hp' : plan w (planStep w s) = planB w := by rw [← plan_next hl]; exact hp
  have hns : ¬ (((s.left.headD 0 : Nat) : Int) < 0) := by omega
  have hmv := pi.mv
  have hs8 := pinv_st pi hd
  have nl : hB.get bl ≠ none := by rw [gB1]; simp
  have nst : hB.get bs ≠ none := by rw [gB2]; simp
  cases hf : s.left.findIdx? (freeB w s.left s.st) with
  | some k =>
    obtain ⟨hk, _, _⟩ := List.findIdx?_eq_some_iff_getElem.1 hf
    have hj := pi.bound _ (List.getElem_mem hk)
    have hps : planStep w s = ⟨s.left.eraseIdx k, s.st, s.mv ++ [⟨2, s.left[k], w[s.left[k]].dst, 0⟩]⟩ := by
      unfold planStep
      rw [hf]
      simp only [List.getElem?_eq_getElem hk, Option.getD_some, stAt_get hj]
    rw [hps] at hlt pi' hp'
    have e4 := ldc_part (ldc_sub he.2 (sw3 s.left[k] (w[s.left[k]]).cells (by simp [hj]))) 1 1 (by omega)
    simp -implicitDefEqProofs only [go_sem, hns, List.getElem?_eq_getElem hk, Option.getD_some, sw2, hj, e4, hlm, hb_bl, f3, f4, f5, Int.ofNat_lt, Int.natCast_nonneg, f3, f4, f6, f7, f8, Int.ofNat_lt, Int.natCast_nonneg]
    intro bx hb_bx n_bx
    simp -implicitDefEqProofs only [go_sem, hlm, hb_bl, f3, f4, f5, Int.ofNat_lt, Int.natCast_nonneg, f3, f4, f6, f7, f8, Int.ofNat_lt, Int.natCast_nonneg, hb_bx]
    refine appW_keep (h0 := hB) (rows := s.mv.map UMove.cells) (new := [UMove.cells ⟨2, s.left[k], w[s.left[k]].dst, 0⟩]) (none_set hno _ _) (ho.ext ((Ext.refl _).set n_bx _)) (by simp -implicitDefEqProofs only [go_sem, hlm, hb_bl, f3, f4, f5, Int.ofNat_lt, Int.natCast_nonneg, f3, f4, f6, f7, f8, Int.ofNat_lt, Int.natCast_nonneg, hb_bx]; rfl) (by intro r hr; simp at hr; subst hr; rfl) rfl (by simp; omega) ?_
    intro v' h2 k2 o2
    have z1 : bl ≠ bx := fun e => by rw [← e, g1] at n_bx; cases n_bx
    have z2 : bs ≠ bx := fun e => by rw [← e, g2] at n_bx; cases n_bx
    have g1' := k2.2.1 bl _ nl (by rw [H.set_get_ne _ _ _ _ z1]; exact g1)
    have g2' := k2.2.1 bs _ nst (by rw [H.set_get_ne _ _ _ _ z2]; exact g2)
    have hb2 : h2.base ≤ bl := by rw [k2.1, H.set_base, he.1]; exact hb_bl
    have hbe := bools_erase pi hk
    simp -implicitDefEqProofs only [go_sem, List.getElem?_eq_getElem hk, Option.getD_some, stc_get g1', hj, hb2, bools_flat, bcl_len, Nat.mul_one, show s.left[k] + 1 ≤ w.length by omega, hlm, hb_bl, f3, f4, f5, Int.ofNat_lt, Int.natCast_nonneg, f3, f4, f6, f7, f8, Int.ofNat_lt, Int.natCast_nonneg, hb_bx]
    rw [← bools_flat, hbe]
    exact ⟨_, by rw [← hm]; exact hlt, _, Ext.refl _, _, v', rfl, pi', hp', rfl, rfl, (k2.ext (he.set n_bx _) (fun b hb => eB.none hb) (fun _ h => h.elim)).set' n_bl _, (H.set_get_same _ _ _).trans (by rw [bools_flat]), by rw [H.set_get_ne _ _ _ _ y1]; exact g2', none_set (fun b hb => none_set hno _ _ b (k2.none hb)) _ _, by simpa using Own.set0 o2 nl _⟩
  | none =>
    have hmem : s.left.headD 0 ∈ s.left := by rw [headD_0 _ (List.length_pos_iff.2 hl)]; exact List.getElem_mem _
    have hj := pi.bound _ hmem
    have hdj := hd _ (List.getElem_mem hj)
    have hps : planStep w s = ⟨s.left, s.st ++ [w[s.left.headD 0].dst], s.mv ++ [⟨1, s.left.headD 0, w[s.left.headD 0].dst, s.st.length⟩]⟩ := by
      unfold planStep
      rw [hf]
      simp only [stAt_get hj]
    rw [hps] at hlt pi' hp'
    generalize s.left.headD 0 = j at *
    have e4 := ldc_part (ldc_sub he.2 (sw3 j (w[j]).cells (by simp [hj]))) 1 1 (by omega)
    skip
    simp -implicitDefEqProofs only [go_sem, hns, show ¬ ((0 : Int) ≤ -1) by decide, sw2, hj, e4, hlm, hb_bl, f3, f4, f5, Int.ofNat_lt, Int.natCast_nonneg, f3, f4, f6, f7, f8, Int.ofNat_lt, Int.natCast_nonneg]
    intro bx hb_bx n_bx
    simp -implicitDefEqProofs only [go_sem, hlm, hb_bl, f3, f4, f5, Int.ofNat_lt, Int.natCast_nonneg, f3, f4, f6, f7, f8, Int.ofNat_lt, Int.natCast_nonneg, hb_bx]
    refine appW_keep (h0 := hB) (rows := s.mv.map UMove.cells) (new := [UMove.cells ⟨1, j, w[j].dst, s.st.length⟩]) (none_set hno _ _) (ho.ext ((Ext.refl _).set n_bx _)) (by simp -implicitDefEqProofs only [go_sem, hlm, hb_bl, f3, f4, f5, Int.ofNat_lt, Int.natCast_nonneg, f3, f4, f6, f7, f8, Int.ofNat_lt, Int.natCast_nonneg, hb_bx]; rfl) (by intro r hr; simp at hr; subst hr; rfl) rfl (by simp; omega) ?_
    intro v' h2 k2 o2
    have z1 : bl ≠ bx := fun e => by rw [← e, g1] at n_bx; cases n_bx
    have z2 : bs ≠ bx := fun e => by rw [← e, g2] at n_bx; cases n_bx
    have g1' := k2.2.1 bl _ nl (by rw [H.set_get_ne _ _ _ _ z1]; exact g1)
    have g2' := k2.2.1 bs _ nst (by rw [H.set_get_ne _ _ _ _ z2]; exact g2)
    have hb2 : h2.base ≤ bs := by rw [k2.1, H.set_base, he.1]; have := hb_bs; simp only [H.set_base] at this; exact this
    have hbe := stB_add (st := s.st) hdj
    have e2 := k2.ext (he.set n_bx _) (fun b hb => eB.none hb) (fun _ h => h.elim)
    have e5 := ldc_part (ldc_sub e2.2 (sw3 j (w[j]).cells (by simp [hj]))) 1 1 (by omega)
    simp -implicitDefEqProofs only [go_sem, sw2, hj, e5, hdj.1, show w[j].dst < ((8 : Nat) : Int) by omega, stc_get g2', hb2, stB_flat, bcl_len, Nat.mul_one, show w[j].dst.toNat + 1 ≤ 8 by omega, wrap_i64 (show -(9223372036854775808 : Int) ≤ ((s.st.length : Int) + 1) by omega) (show ((s.st.length : Int) + 1) < 9223372036854775808 by omega), hlm, hb_bl, f3, f4, f5, Int.ofNat_lt, Int.natCast_nonneg, f3, f4, f6, f7, f8, Int.ofNat_lt, Int.natCast_nonneg, hb_bx]
    rw [← stB_flat, hbe]
    exact ⟨_, by rw [← hm]; exact hlt, _, Ext.refl _, _, v', rfl, pi', hp', rfl, by simp, e2.set' n1 _, by rw [H.set_get_ne _ _ _ _ y1.symm]; exact g1', H.set_get_same _ _ _, none_set (fun b hb => none_set hno _ _ b (k2.none hb)) _ _, by simpa using Own.set0 o2 nst _⟩
end Go.Proofs.YtdofcojbjcpikaaGreatDoor
