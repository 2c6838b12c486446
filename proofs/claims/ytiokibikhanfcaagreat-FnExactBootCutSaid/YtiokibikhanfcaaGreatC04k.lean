/- A helper of this seat's claims (contracts of the functions): what it shows is shown for every input that its statements name, on no other condition. -/
import Derived.Test.YtiokibikhanfcaaGreatC13t
import Derived.Test.YtiokibikhanfcaaGreatCWt
set_option linter.unusedVariables false
set_option linter.unusedSimpArgs false
set_option maxRecDepth 100000
namespace Go.Proofs.YtiokibikhanfcaaGreat
open Go.KH

/-! ## Acts that keep a text -/
theorem putNum_k {n : Int} (k : Nat) (h0 : 0 ≤ n) (h : n < 64 * 128 ^ k) : (putNum n).length ≤ k + 1 := by
  unfold putNum
  refine leb_le k _ ?_
  unfold zig
  rw [if_neg (by omega), Nat.pow_succ]
  have : ((64 * 128 ^ k : Nat) : Int) = 64 * 128 ^ k := by push_cast; rfl
  omega
theorem stateB_46 {s : UState} (h : stateOk s) : (stateB s).length ≤ 46 := by
  have h1 := bits24 h.2.1
  have h2 := bits24 h.2.2.1
  have hd := stateOk_digest h
  have hh : (0 ≤ s.tries ∧ s.tries ≤ 2) ∧ (0 ≤ s.need ∧ s.need ≤ 20) ∧ (0 ≤ s.stash ∧ s.stash ≤ 4) ∧ 0 ≤ s.done ∧ s.done ≤ 40 := by
    have := h.2.2.2.2
    split at this <;> omega
  have l1 := putNum_k (n := s.phase) 0 (by have := h.1; omega) (by have := h.1; omega)
  have l2 := putNum_k (n := s.tries) 0 (by omega) (by omega)
  have l3 := putNum_k (n := s.need) 0 (by omega) (by omega)
  have l4 := putNum_k (n := s.stash) 0 (by omega) (by omega)
  have l5 := putNum_k (n := s.done) 0 (by omega) (by omega)
  have l6 := putNum_k (n := (bitsN s.held : Int)) 3 (by omega) (by omega)
  have l7 := putNum_k (n := (bitsN s.mine : Int)) 3 (by omega) (by omega)
  have l8 := putNum_k (n := (s.digest.length : Int)) 0 (by omega) (by omega)
  unfold stateB putText
  simp only [List.length_append]; omega
theorem metaB_96 {n : Int} {t : List UInt8} (hn : 0 ≤ n ∧ n ≤ 1000001) (ht : t.length ≤ 80) : (metaB n t).length ≤ 96 := by
  have l1 := putNum_k (n := n) 2 (by omega) (by omega)
  have l2 := putNum_k (n := (t.length : Int)) 1 (by omega) (by omega)
  unfold metaB putText
  rw [sealB_len]
  simp only [List.length_append]; omega
/-- The acts that keep a text. -/
def metaActsOf (f : UFlash) (t : List UInt8) : List UAct :=
  if 1000000 ≤ (metaGet f).1.1.1 then [] else [⟨false, if (metaGet f).2 = 0 then 1 else 0, metaB ((metaGet f).1.1.1 + 1) t⟩, ⟨true, 0, []⟩]
theorem metaActs_ok {f : UFlash} {t : List UInt8} {n : Nat} (h2 : 2 ≤ n) (ht : t.length ≤ 80) : ∀ a ∈ metaActsOf f t, actOk n a := by
  have hl := metaGet_len f
  intro a ha
  unfold metaActsOf at ha
  split at ha
  · cases ha
  · simp only [List.mem_cons, List.not_mem_nil, or_false] at ha
    rcases ha with rfl | rfl
    · intro _
      refine ⟨?_, metaB_96 (by omega) ht⟩
      simp only
      split <;> omega
    · intro h; cases h
theorem act_wid (l : List UAct) : Wid 3 (l.map UAct.cells) := Wid.map fun _ => rfl
theorem metaActs_len (f : UFlash) (t : List UInt8) : (metaActsOf f t).length ≤ 2 := by unfold metaActsOf; split <;> simp
/-- impl.metaBytes -/
def b_impl_metaBytes : C := (.seq (.ops [q 4 (.mv (.c (str [])))])
 (.seq (.ops [q 5 (.mv (.t 0)), ⟨(some 6), none, .call (.c (.func (.func 236) #[] #[])) [(.t 5)]⟩, q 7 (.mv (.t 1)), ⟨(some 8), none, .call (.c (.func (.func 223) #[] #[])) [(.t 7)]⟩, q 9 (.bin .add (.t 6) (.t 8)), ⟨(some 10), none, .call (.c (.func (.func 224) #[] #[])) [(.t 9)]⟩, q 4 (.mv (.t 10))])
 .ret))
theorem w_impl_metaBytes {args : List Value} {h : H} {Q : Value → H → Prop} (hl : args.length ≤ 11) (hk : wpc Tryz.prog b_impl_metaBytes (retw [.tmp 4] Q) (argsFr args) h) : AC Tryz.prog 221 args h Q :=
  AC.of_wpc mixedOrders Tryz.func221 (by kernel_rfl) (by kernel_rfl : prepF Tryz.prog Tryz.f221 = some ⟨11, [.tmp 4], b_impl_metaBytes⟩) hl hk

theorem implMetaBytes_pc (h : H) (n : Int) (x : List UInt8) (hn : in64 n) (hx : x.length ≤ 1048576) : PC Tryz.prog 221 [i64 n, str x] h (str (metaB n x)) := by
  have h1 := putNum_le hn
  have hl : (putText x).length ≤ 1048600 := by
    have h2 := putNum_le (n := (x.length : Int)) (by constructor <;> omega)
    unfold putText
    rw [List.length_append]; omega
  unfold metaB
  refine w_impl_metaBytes (by simp) ?_
  unfold b_impl_metaBytes
  simp -implicitDefEqProofs only [go_sem]
  refine (putNum_pc _ n hn).use ?_
  simp -implicitDefEqProofs only [go_sem]
  refine (putText_pc _ x (by omega)).use ?_
  simp -implicitDefEqProofs only [go_sem, show (putNum n).length + (putText x).length ≤ 4611686018427387904 by omega]
  refine (seal_pc _ _ (by rw [List.length_append]; omega)).use ?_
  simp -implicitDefEqProofs only [go_sem]
theorem own_acts {h0 h : H} {b : Nat} (l : List UAct) (hn : h0.get b = none) (hb : h.base ≤ b) : Own h0 (h.set b ⟨(l.map UAct.cells).flatten, l.length * 3⟩) (sl b 0 l.length l.length) 3 (l.map UAct.cells) :=
  .inr ⟨b, l.length, _, by rw [List.length_map], by rw [List.length_map]; exact Nat.le_refl _, hb, hn, H.set_get_same _ _ _, Nat.le_refl _, act_wid l⟩
/-- impl.metaActs -/
def b_impl_metaActs : C := (.seq (.ops [⟨(some 2), none, .box (.t 0)⟩, q 4 (.mv (.c nils))])
 (.seq (.ops [q 10 (.ld true 2 (.t 2)), ⟨(some 11), none, .call (.c (.func (.func 86) #[] #[])) [(.t 10)]⟩, q 9 (.mv (.t 11)), q 12 (.ext 0 (.t 9)), q 13 (.ext 1 (.t 9)), ⟨(some 5), none, .alloc [(i64 0), (str []), (i64 0)]⟩, ⟨none, none, .st 3 (.t 5) (.t 12)⟩, q 6 (.mv (.t 13))])
 (.seq (.ops [q 14 (.fld 0 (.t 5)), q 15 (.ld false 1 (.t 14)), q 16 (.bin .add (.t 15) (.c (i64 1))), q 7 (.mv (.t 16))])
 (.seq (.seq (.ops [q 17 (.mv (.t 7)), q 18 (.bin .gtr (.t 17) (.c (i64 1000000)))])
 (.cond (.t 18) (.seq (.ops [q 4 (.mv (.c nils))])
 .ret) .skip))
 (.seq (.ops [q 8 (.mv (.c (i64 0)))])
 (.seq (.seq (.ops [q 19 (.mv (.t 6)), q 20 (.bin .eql (.t 19) (.c (i64 0)))])
 (.cond (.t 20) (.ops [q 8 (.mv (.c (i64 1)))]) .skip))
 (.seq (.ops [q 21 (.mv (.t 8)), q 22 (.mv (.t 7)), q 23 (.mv (.t 1)), ⟨(some 24), none, .call (.c (.func (.func 221) #[] #[])) [(.t 22), (.t 23)]⟩, q 25 (.build [(.bool false), (i64 0), (str [])] [(1, 1, (.t 21)), (2, 1, (.t 24))]), q 26 (.build [(.bool false), (i64 0), (str [])] [(0, 1, (.c (.bool true)))]), ⟨(some 27), none, .bsl 2 [(.bool false), (i64 0), (str []), (.bool false), (i64 0), (str [])] [(0, 3, (.t 25)), (3, 3, (.t 26))]⟩, q 4 (.mv (.t 27))])
 .ret)))))))
theorem w_impl_metaActs {args : List Value} {h : H} {Q : Value → H → Prop} (hl : args.length ≤ 28) (hk : wpc Tryz.prog b_impl_metaActs (retw [.tmp 4] Q) (argsFr args) h) : AC Tryz.prog 180 args h Q :=
  AC.of_wpc mixedOrders Tryz.func180 (by kernel_rfl) (by kernel_rfl : prepF Tryz.prog Tryz.f180 = some ⟨28, [.tmp 4], b_impl_metaActs⟩) hl hk

theorem metaActs_ac {h : H} {vs vd : Value} {f : UFlash} {t : List UInt8} (hv : FlR h f vs vd) (ho : flashOk f) (h2 : 2 ≤ f.sec.length) (ht : t.length ≤ 80) : AC Tryz.prog 180 [.agg #[vs, vd], str t] h fun r h' => Ext h h' ∧ Own h h' r 3 ((metaActsOf f t).map UAct.cells) := by
  have o1 := hv.1.one
  have o2 := hv.2.one
  have hl := metaGet_len f
  unfold metaActsOf
  obtain ⟨M, hM⟩ : ∃ M, metaGet f = M := ⟨_, rfl⟩
  rw [hM] at hl ⊢
  skip
  refine w_impl_metaActs (by simp) ?_
  unfold b_impl_metaActs
  simp -implicitDefEqProofs only [go_sem, o1, o2]
  intro b1 hb_b1 n_b1
  simp -implicitDefEqProofs only [go_sem, o1, o2, hb_b1]
  refine (metaGet_pc (hv.ext ((Ext.refl _).set' n_b1 _)) ho h2).use ?_
  rw [hM]
  simp -implicitDefEqProofs only [go_sem, o1, o2, hb_b1]
  intro b5 hb_b5 m0_b5
  obtain ⟨z_b5_b1, y_b5_b1, n_b5⟩ := fne m0_b5
  simp only [H.set_base] at hb_b5
  have w1 : IntKind.i64.wrap (M.1.1.1 + 1) = M.1.1.1 + 1 := wrap_i64 (by omega) (by omega)
  by_cases p : 1000000 ≤ M.1.1.1
  · rw [if_pos p]
    simp -implicitDefEqProofs only [go_sem, w1, show (1000000 : Int) < M.1.1.1 + 1 by omega, o1, o2, hb_b1, hb_b5, z_b5_b1, y_b5_b1]
    exact ⟨(((Ext.refl _).set' n_b1 _).set' n_b5 _), Own.nil _ _ _⟩
  rw [if_neg p]
  by_cases p2 : M.2 = 0
  · rw [if_pos p2]
    simp -implicitDefEqProofs only [go_sem, w1, show ¬ (1000000 : Int) < M.1.1.1 + 1 by omega, decide_eq_true p2, p2, o1, o2, hb_b1, hb_b5, z_b5_b1, y_b5_b1]
    refine (implMetaBytes_pc _ _ t (by constructor <;> omega) (by omega)).use ?_
    simp -implicitDefEqProofs only [go_sem, o1, o2, hb_b1, hb_b5, z_b5_b1, y_b5_b1]
    intro b6 hb6 n6
    simp -implicitDefEqProofs only [go_sem, o1, o2, hb_b1, hb_b5, z_b5_b1, y_b5_b1]
    exact ⟨Ext.set (((Ext.refl _).set' n_b1 _).set' n_b5 _) n6 _, own_acts [⟨false, 1, metaB (M.1.1.1 + 1) t⟩, ⟨true, 0, []⟩] (Ext.none (((Ext.refl _).set' n_b1 _).set' n_b5 _) n6) hb6⟩
  · rw [if_neg p2]
    simp -implicitDefEqProofs only [go_sem, w1, show ¬ (1000000 : Int) < M.1.1.1 + 1 by omega, p2, o1, o2, hb_b1, hb_b5, z_b5_b1, y_b5_b1]
    refine (implMetaBytes_pc _ _ t (by constructor <;> omega) (by omega)).use ?_
    simp -implicitDefEqProofs only [go_sem, o1, o2, hb_b1, hb_b5, z_b5_b1, y_b5_b1]
    intro b6 hb6 n6
    simp -implicitDefEqProofs only [go_sem, o1, o2, hb_b1, hb_b5, z_b5_b1, y_b5_b1]
    exact ⟨Ext.set (((Ext.refl _).set' n_b1 _).set' n_b5 _) n6 _, own_acts [⟨false, 0, metaB (M.1.1.1 + 1) t⟩, ⟨true, 0, []⟩] (Ext.none (((Ext.refl _).set' n_b1 _).set' n_b5 _) n6) hb6⟩
/-- spec.l04Acts -/
def b_spec_l04Acts : C := (.seq (.ops [⟨(some 2), none, .box (.t 0)⟩, q 4 (.mv (.c nils))])
 (.seq (.ops [q 9 (.ld true 2 (.t 2)), ⟨(some 10), none, .call (.c (.func (.func 78) #[] #[])) [(.t 9)]⟩, q 8 (.mv (.t 10)), q 11 (.ext 0 (.t 8)), q 12 (.ext 1 (.t 8)), ⟨(some 5), none, .alloc [(i64 0), (str []), (i64 0)]⟩, ⟨none, none, .st 3 (.t 5) (.t 11)⟩, q 6 (.mv (.t 12))])
 (.seq (.seq (.ops [q 13 (.fld 0 (.t 5)), q 14 (.ld false 1 (.t 13)), q 15 (.bin .geq (.t 14) (.c (i64 1000000)))])
 (.cond (.t 15) (.seq (.ops [⟨(some 16), none, .bsl 0 [] []⟩, q 4 (.mv (.t 16))])
 .ret) .skip))
 (.seq (.ops [q 7 (.mv (.c (i64 1)))])
 (.seq (.seq (.ops [q 17 (.mv (.t 6)), q 18 (.bin .neq (.t 17) (.c (i64 0)))])
 (.cond (.t 18) (.ops [q 7 (.mv (.c (i64 0)))]) .skip))
 (.seq (.ops [q 19 (.mv (.t 7)), q 20 (.fld 0 (.t 5)), q 21 (.ld false 1 (.t 20)), q 22 (.bin .add (.t 21) (.c (i64 1))), q 23 (.mv (.t 1)), ⟨(some 24), none, .call (.c (.func (.func 201) #[] #[])) [(.t 22), (.t 23)]⟩, q 25 (.build [(.bool false), (i64 0), (str [])] [(1, 1, (.t 19)), (2, 1, (.t 24))]), q 26 (.build [(.bool false), (i64 0), (str [])] [(0, 1, (.c (.bool true)))]), ⟨(some 27), none, .bsl 2 [(.bool false), (i64 0), (str []), (.bool false), (i64 0), (str [])] [(0, 3, (.t 25)), (3, 3, (.t 26))]⟩, q 4 (.mv (.t 27))])
 .ret))))))
theorem w_spec_l04Acts {args : List Value} {h : H} {Q : Value → H → Prop} (hl : args.length ≤ 28) (hk : wpc Tryz.prog b_spec_l04Acts (retw [.tmp 4] Q) (argsFr args) h) : AC Tryz.prog 174 args h Q :=
  AC.of_wpc mixedOrders Tryz.func174 (by kernel_rfl) (by kernel_rfl : prepF Tryz.prog Tryz.f174 = some ⟨28, [.tmp 4], b_spec_l04Acts⟩) hl hk

theorem l04Acts_ac {h : H} {vs vd : Value} {f : UFlash} {t : List UInt8} (hv : FlR h f vs vd) (ho : flashOk f) (h2 : 2 ≤ f.sec.length) (ht : t.length ≤ 80) : AC Tryz.prog 174 [.agg #[vs, vd], str t] h fun r h' => Ext h h' ∧ Own h h' r 3 ((metaActsOf f t).map UAct.cells) := by
  have o1 := hv.1.one
  have o2 := hv.2.one
  have hl := metaGet_len f
  unfold metaActsOf
  obtain ⟨M, hM⟩ : ∃ M, metaGet f = M := ⟨_, rfl⟩
  rw [hM] at hl ⊢
  skip
  refine w_spec_l04Acts (by simp) ?_
  unfold b_spec_l04Acts
  simp -implicitDefEqProofs only [go_sem, o1, o2]
  intro b1 hb_b1 n_b1
  simp -implicitDefEqProofs only [go_sem, o1, o2, hb_b1]
  refine (l04Get_pc (hv.ext ((Ext.refl _).set' n_b1 _)) ho h2).use ?_
  rw [hM]
  simp -implicitDefEqProofs only [go_sem, o1, o2, hb_b1]
  intro b5 hb_b5 m0_b5
  obtain ⟨z_b5_b1, y_b5_b1, n_b5⟩ := fne m0_b5
  simp only [H.set_base] at hb_b5
  have w1 : IntKind.i64.wrap (M.1.1.1 + 1) = M.1.1.1 + 1 := wrap_i64 (by omega) (by omega)
  by_cases p : 1000000 ≤ M.1.1.1
  · rw [if_pos p]
    simp -implicitDefEqProofs only [go_sem, w1, p, o1, o2, hb_b1, hb_b5, z_b5_b1, y_b5_b1]
    intro b6 hb6 n6
    simp -implicitDefEqProofs only [go_sem, o1, o2, hb_b1, hb_b5, z_b5_b1, y_b5_b1]
    exact ⟨Ext.set (((Ext.refl _).set' n_b1 _).set' n_b5 _) n6 _, own_acts [] (Ext.none (((Ext.refl _).set' n_b1 _).set' n_b5 _) n6) hb6⟩
  rw [if_neg p]
  have hmb : metaBytes (M.1.1.1 + 1) t = metaB (M.1.1.1 + 1) t := by unfold metaBytes; rw [if_pos (by omega)]
  by_cases p2 : M.2 = 0
  · rw [if_pos p2]
    simp -implicitDefEqProofs only [go_sem, w1, p, p2, o1, o2, hb_b1, hb_b5, z_b5_b1, y_b5_b1]
    refine (specMetaBytes_pc _ _ t (by constructor <;> omega) (by omega)).use ?_
    rw [hmb]
    simp -implicitDefEqProofs only [go_sem, o1, o2, hb_b1, hb_b5, z_b5_b1, y_b5_b1]
    intro b6 hb6 n6
    simp -implicitDefEqProofs only [go_sem, o1, o2, hb_b1, hb_b5, z_b5_b1, y_b5_b1]
    exact ⟨Ext.set (((Ext.refl _).set' n_b1 _).set' n_b5 _) n6 _, own_acts [⟨false, 1, metaB (M.1.1.1 + 1) t⟩, ⟨true, 0, []⟩] (Ext.none (((Ext.refl _).set' n_b1 _).set' n_b5 _) n6) hb6⟩
  · rw [if_neg p2]
    simp -implicitDefEqProofs only [go_sem, w1, p, p2, o1, o2, hb_b1, hb_b5, z_b5_b1, y_b5_b1]
    refine (specMetaBytes_pc _ _ t (by constructor <;> omega) (by omega)).use ?_
    rw [hmb]
    simp -implicitDefEqProofs only [go_sem, o1, o2, hb_b1, hb_b5, z_b5_b1, y_b5_b1]
    intro b6 hb6 n6
    simp -implicitDefEqProofs only [go_sem, o1, o2, hb_b1, hb_b5, z_b5_b1, y_b5_b1]
    exact ⟨Ext.set (((Ext.refl _).set' n_b1 _).set' n_b5 _) n6 _, own_acts [⟨false, 0, metaB (M.1.1.1 + 1) t⟩, ⟨true, 0, []⟩] (Ext.none (((Ext.refl _).set' n_b1 _).set' n_b5 _) n6) hb6⟩
end Go.Proofs.YtiokibikhanfcaaGreat
