/- A helper of this seat's claims (contracts of the functions): what it shows is shown for every input that its statements name, on no other condition. -/
import Derived.Test.YthjbhdmjfakfaaaGreatDoorMC12r
import Derived.Test.YthjbhdmjfakfaaaGreatDoorCWt
import Derived.Test.YthjbhdmjfakfaaaGreatDoorMCB
set_option linter.unusedVariables false
set_option linter.unusedSimpArgs false
set_option maxRecDepth 100000
namespace Go.Proofs.YthjbhdmjfakfaaaGreatDoor
open Go.KH

theorem putNum_k {n : Int} (k : Nat) (h0 : 0 ≤ n) (h : n < 64 * 128 ^ k) : (putNum n).length ≤ k + 1 := by
 unfold putNum
 refine leb_le k _ ?_
 unfold zig
 rw [if_neg (by omega), Nat.pow_succ]
 have : ((64 * 128 ^ k : Nat) : Int) = 64 * 128 ^ k := by push_cast; rfl
 omega
theorem stateB_46 {s : UState} (h : stateOk s) : (stateB s).length ≤ 46 := by
 have h1 := bits24 h.2.1
 have h2 := bits24 h.2.2.1
 have hd := stateOk_digest h
 have hh : (0 ≤ s.tries ∧ s.tries ≤ 2) ∧ (0 ≤ s.need ∧ s.need ≤ 20) ∧ (0 ≤ s.stash ∧ s.stash ≤ 4) ∧ 0 ≤ s.done ∧ s.done ≤ 40 := by
  have := h.2.2.2.2
  split at this <;> omega
 have l1 := putNum_k (n := s.phase) 0 (by have := h.1; omega) (by have := h.1; omega)
 have l2 := putNum_k (n := s.tries) 0 (by omega) (by omega)
 have l3 := putNum_k (n := s.need) 0 (by omega) (by omega)
 have l4 := putNum_k (n := s.stash) 0 (by omega) (by omega)
 have l5 := putNum_k (n := s.done) 0 (by omega) (by omega)
 have l6 := putNum_k (n := (bitsN s.held : Int)) 3 (by omega) (by omega)
 have l7 := putNum_k (n := (bitsN s.mine : Int)) 3 (by omega) (by omega)
 have l8 := putNum_k (n := (s.digest.length : Int)) 0 (by omega) (by omega)
 unfold stateB putText
 simp only [List.length_append]; omega
theorem metaB_96 {n : Int} {t : List UInt8} (hn : 0 ≤ n ∧ n ≤ 1000001) (ht : t.length ≤ 80) : (metaB n t).length ≤ 96 := by
 have l1 := putNum_k (n := n) 2 (by omega) (by omega)
 have l2 := putNum_k (n := (t.length : Int)) 1 (by omega) (by omega)
 unfold metaB putText
 rw [sealB_len]
 simp only [List.length_append]; omega
def metaActsOf (f : UFlash) (t : List UInt8) : List UAct :=
 if 1000000 ≤ (metaGet f).1.1.1 then [] else [⟨false, if (metaGet f).2 = 0 then 1 else 0, metaB ((metaGet f).1.1.1 + 1) t⟩, ⟨true, 0, []⟩]
theorem metaActs_ok {f : UFlash} {t : List UInt8} {n : Nat} (h2 : 2 ≤ n) (ht : t.length ≤ 80) : ∀ a ∈ metaActsOf f t, actOk n a := by
 have hl := metaGet_len f
 intro a ha
 unfold metaActsOf at ha
 split at ha
 ·cases ha
 ·simp only [List.mem_cons, List.not_mem_nil, or_false] at ha
  rcases ha with rfl | rfl
  ·intro _
   refine ⟨?_, metaB_96 (by omega) ht⟩
   simp only
   split <;> omega
  ·intro h; cases h
theorem act_wid (l : List UAct) : Wid 3 (l.map UAct.cells) := Wid.map fun _ => rfl
theorem metaActs_len (f : UFlash) (t : List UInt8) : (metaActsOf f t).length ≤ 2 := by unfold metaActsOf; split <;> simp
def b_impl_metaBytes : C := (jo [q 4 (.mv (.c (str [])))]
 (jo [jm 5 0, jc 6 94 [(.t 5)], jm 7 1, jc 8 95 [(.t 7)], jb 9 .add 6 8, jc 10 98 [(.t 9)], jm 4 10]
 .ret))
theorem w_impl_metaBytes : Wk Tryz.prog 196 11 [.tmp 4] b_impl_metaBytes := Wk.of mixedOrders Tryz.func196 (by kernel_rfl) (by kernel_rfl)

theorem implMetaBytes_pc (h : H) (n : Int) (x : List UInt8) (hn : in64 n) (hx : x.length ≤ 1048576) : PC Tryz.prog 196 [i64 n, str x] h (str (metaB n x)) := by
 have h1 := putNum_le hn
 have hl : (putText x).length ≤ 1048600 := by
  have h2 := putNum_le (n := (x.length : Int)) (by constructor <;> omega)
  unfold putText
  rw [List.length_append]; omega
 unfold metaB
 refine w_impl_metaBytes (by simp) ?_
 unfold b_impl_metaBytes
 simp -implicitDefEqProofs only [go_sem]
 refine (putNum_pc _ n hn).use ?_
 simp -implicitDefEqProofs only [go_sem]
 refine (putText_pc _ x (by omega)).use ?_
 simp -implicitDefEqProofs only [go_sem, show (putNum n).length + (putText x).length ≤ 4611686018427387904 by omega]
 refine (seal_pc _ _ (by rw [List.length_append]; omega)).use ?_
 simp -implicitDefEqProofs only [go_sem]
theorem own_acts {h0 h : H} {b : Nat} (l : List UAct) (hn : h0.get b = none) (hb : h.base ≤ b) : Own h0 (h.set b ⟨(l.map UAct.cells).flatten, l.length * 3⟩) (sl b 0 l.length l.length) 3 (l.map UAct.cells) :=
 .inr ⟨b, l.length, _, by rw [List.length_map], by rw [List.length_map]; exact Nat.le_refl _, hb, hn, H.set_get_same _ _ _, Nat.le_refl _, act_wid l⟩
def b_impl_metaActs : C := (jo [⟨(some 2), none, .box (.t 0)⟩, q 4 (.mv (.c nils))]
 (jo [jd 10 2 2, jc 11 142 [(.t 10)], jm 9 11, q 12 (.ext 0 (.t 9)), q 13 (.ext 1 (.t 9)), ⟨(some 5), none, .alloc [(i64 0), (str []), (i64 0)]⟩, js 3 5 12, jm 6 13]
 (jo [jf 14 0 5, jl 15 14, jk 16 .add 15 1, jm 7 16]
 (.seq (jo [jm 17 7, jk 18 .gtr 17 1000000]
 (.cond (.t 18) (jo [q 4 (.mv (.c nils))]
 .ret) .skip))
 (jo [q 8 (.mv (.c (i64 0)))]
 (.seq (jo [jm 19 6, jk 20 .eql 19 0]
 (.cond (.t 20) (.ops [q 8 (.mv (.c (i64 1)))]) .skip))
 (jo [jm 21 8, jm 22 7, jm 23 1, jc 24 196 [(.t 22), (.t 23)], q 25 (.build [(.bool false), (i64 0), (str [])] [(1, 1, (.t 21)), (2, 1, (.t 24))]), q 26 (.build [(.bool false), (i64 0), (str [])] [(0, 1, (.c (.bool true)))]), ⟨(some 27), none, .bsl 2 [(.bool false), (i64 0), (str []), (.bool false), (i64 0), (str [])] [(0, 3, (.t 25)), (3, 3, (.t 26))]⟩, jm 4 27]
 .ret)))))))
theorem w_impl_metaActs : Wk Tryz.prog 127 28 [.tmp 4] b_impl_metaActs := Wk.of mixedOrders Tryz.func127 (by kernel_rfl) (by kernel_rfl)

theorem metaActs_ac {h : H} {vs vd : Value} {f : UFlash} {t : List UInt8} (hv : FlR h f vs vd) (ho : flashOk f) (h2 : 2 ≤ f.sec.length) (ht : t.length ≤ 80) : AC Tryz.prog 127 [.agg #[vs, vd], str t] h fun r h' => Ext h h' ∧ Own h h' r 3 ((metaActsOf f t).map UAct.cells) := by
 have o1 := hv.1.one
 have o2 := hv.2.one
 have hl := metaGet_len f
 unfold metaActsOf
 obtain ⟨M, hM⟩ : ∃ M, metaGet f = M := ⟨_, rfl⟩
 rw [hM] at hl ⊢
 skip
 refine w_impl_metaActs (by simp) ?_
 unfold b_impl_metaActs
 simp -implicitDefEqProofs only [go_sem, o1, o2]
 intro b1 hb_b1 n_b1
 simp -implicitDefEqProofs only [go_sem, o1, o2, hb_b1]
 refine (metaGet_pc (hv.ext ((Ext.refl _).set' n_b1 _)) ho h2).use ?_
 rw [hM]
 simp -implicitDefEqProofs only [go_sem, o1, o2, hb_b1]
 intro b5 hb_b5 m0_b5
 obtain ⟨z_b5_b1, y_b5_b1, n_b5⟩ := fne m0_b5
 simp only [H.set_base] at hb_b5
 have w1 : IntKind.i64.wrap (M.1.1.1 + 1) = M.1.1.1 + 1 := wrap_i64 (by omega) (by omega)
 by_cases p : 1000000 ≤ M.1.1.1
 ·rw [if_pos p]
  simp -implicitDefEqProofs only [go_sem, w1, show (1000000 : Int) < M.1.1.1 + 1 by omega, o1, o2, hb_b1, hb_b5, z_b5_b1, y_b5_b1]
  exact ⟨(((Ext.refl _).set' n_b1 _).set' n_b5 _), Own.nil _ _ _⟩
 rw [if_neg p]
 by_cases p2 : M.2 = 0
 ·rw [if_pos p2]
  simp -implicitDefEqProofs only [go_sem, w1, show ¬ (1000000 : Int) < M.1.1.1 + 1 by omega, decide_eq_true p2, p2, o1, o2, hb_b1, hb_b5, z_b5_b1, y_b5_b1]
  refine (implMetaBytes_pc _ _ t (by constructor <;> omega) (by omega)).use ?_
  simp -implicitDefEqProofs only [go_sem, o1, o2, hb_b1, hb_b5, z_b5_b1, y_b5_b1]
  intro b6 hb6 n6
  simp -implicitDefEqProofs only [go_sem, o1, o2, hb_b1, hb_b5, z_b5_b1, y_b5_b1]
  exact ⟨Ext.set (((Ext.refl _).set' n_b1 _).set' n_b5 _) n6 _, own_acts [⟨false, 1, metaB (M.1.1.1 + 1) t⟩, ⟨true, 0, []⟩] (Ext.none (((Ext.refl _).set' n_b1 _).set' n_b5 _) n6) hb6⟩
 ·rw [if_neg p2]
  simp -implicitDefEqProofs only [go_sem, w1, show ¬ (1000000 : Int) < M.1.1.1 + 1 by omega, p2, o1, o2, hb_b1, hb_b5, z_b5_b1, y_b5_b1]
  refine (implMetaBytes_pc _ _ t (by constructor <;> omega) (by omega)).use ?_
  simp -implicitDefEqProofs only [go_sem, o1, o2, hb_b1, hb_b5, z_b5_b1, y_b5_b1]
  intro b6 hb6 n6
  simp -implicitDefEqProofs only [go_sem, o1, o2, hb_b1, hb_b5, z_b5_b1, y_b5_b1]
  exact ⟨Ext.set (((Ext.refl _).set' n_b1 _).set' n_b5 _) n6 _, own_acts [⟨false, 0, metaB (M.1.1.1 + 1) t⟩, ⟨true, 0, []⟩] (Ext.none (((Ext.refl _).set' n_b1 _).set' n_b5 _) n6) hb6⟩
def b_spec_l04Acts : C := (jo [⟨(some 2), none, .box (.t 0)⟩, q 4 (.mv (.c nils))]
 (jo [jd 9 2 2, jc 10 133 [(.t 9)], jm 8 10, q 11 (.ext 0 (.t 8)), q 12 (.ext 1 (.t 8)), ⟨(some 5), none, .alloc [(i64 0), (str []), (i64 0)]⟩, js 3 5 11, jm 6 12]
 (.seq (jo [jf 13 0 5, jl 14 13, jk 15 .geq 14 1000000]
 (.cond (.t 15) (jo [⟨(some 16), none, .bsl 0 [] []⟩, jm 4 16]
 .ret) .skip))
 (jo [q 7 (.mv (.c (i64 1)))]
 (.seq (jo [jm 17 6, jk 18 .neq 17 0]
 (.cond (.t 18) (.ops [q 7 (.mv (.c (i64 0)))]) .skip))
 (jo [jm 19 7, jf 20 0 5, jl 21 20, jk 22 .add 21 1, jm 23 1, jc 24 134 [(.t 22), (.t 23)], q 25 (.build [(.bool false), (i64 0), (str [])] [(1, 1, (.t 19)), (2, 1, (.t 24))]), q 26 (.build [(.bool false), (i64 0), (str [])] [(0, 1, (.c (.bool true)))]), ⟨(some 27), none, .bsl 2 [(.bool false), (i64 0), (str []), (.bool false), (i64 0), (str [])] [(0, 3, (.t 25)), (3, 3, (.t 26))]⟩, jm 4 27]
 .ret))))))
theorem w_spec_l04Acts : Wk Tryz.prog 69 28 [.tmp 4] b_spec_l04Acts := Wk.of mixedOrders Tryz.func69 (by kernel_rfl) (by kernel_rfl)

theorem l04Acts_ac {h : H} {vs vd : Value} {f : UFlash} {t : List UInt8} (hv : FlR h f vs vd) (ho : flashOk f) (h2 : 2 ≤ f.sec.length) (ht : t.length ≤ 80) : AC Tryz.prog 69 [.agg #[vs, vd], str t] h fun r h' => Ext h h' ∧ Own h h' r 3 ((metaActsOf f t).map UAct.cells) := by
 have o1 := hv.1.one
 have o2 := hv.2.one
 have hl := metaGet_len f
 unfold metaActsOf
 obtain ⟨M, hM⟩ : ∃ M, metaGet f = M := ⟨_, rfl⟩
 rw [hM] at hl ⊢
 skip
 refine w_spec_l04Acts (by simp) ?_
 unfold b_spec_l04Acts
 simp -implicitDefEqProofs only [go_sem, o1, o2]
 intro b1 hb_b1 n_b1
 simp -implicitDefEqProofs only [go_sem, o1, o2, hb_b1]
 refine (l04Get_pc (hv.ext ((Ext.refl _).set' n_b1 _)) ho h2).use ?_
 rw [hM]
 simp -implicitDefEqProofs only [go_sem, o1, o2, hb_b1]
 intro b5 hb_b5 m0_b5
 obtain ⟨z_b5_b1, y_b5_b1, n_b5⟩ := fne m0_b5
 simp only [H.set_base] at hb_b5
 have w1 : IntKind.i64.wrap (M.1.1.1 + 1) = M.1.1.1 + 1 := wrap_i64 (by omega) (by omega)
 by_cases p : 1000000 ≤ M.1.1.1
 ·rw [if_pos p]
  simp -implicitDefEqProofs only [go_sem, w1, p, o1, o2, hb_b1, hb_b5, z_b5_b1, y_b5_b1]
  intro b6 hb6 n6
  simp -implicitDefEqProofs only [go_sem, o1, o2, hb_b1, hb_b5, z_b5_b1, y_b5_b1]
  exact ⟨Ext.set (((Ext.refl _).set' n_b1 _).set' n_b5 _) n6 _, own_acts [] (Ext.none (((Ext.refl _).set' n_b1 _).set' n_b5 _) n6) hb6⟩
 rw [if_neg p]
 have hmb : metaBytes (M.1.1.1 + 1) t = metaB (M.1.1.1 + 1) t := by unfold metaBytes; rw [if_pos (by omega)]
 by_cases p2 : M.2 = 0
 ·rw [if_pos p2]
  simp -implicitDefEqProofs only [go_sem, w1, p, p2, o1, o2, hb_b1, hb_b5, z_b5_b1, y_b5_b1]
  refine (specMetaBytes_pc _ _ t (by constructor <;> omega) (by omega)).use ?_
  rw [hmb]
  simp -implicitDefEqProofs only [go_sem, o1, o2, hb_b1, hb_b5, z_b5_b1, y_b5_b1]
  intro b6 hb6 n6
  simp -implicitDefEqProofs only [go_sem, o1, o2, hb_b1, hb_b5, z_b5_b1, y_b5_b1]
  exact ⟨Ext.set (((Ext.refl _).set' n_b1 _).set' n_b5 _) n6 _, own_acts [⟨false, 1, metaB (M.1.1.1 + 1) t⟩, ⟨true, 0, []⟩] (Ext.none (((Ext.refl _).set' n_b1 _).set' n_b5 _) n6) hb6⟩
 ·rw [if_neg p2]
  simp -implicitDefEqProofs only [go_sem, w1, p, p2, o1, o2, hb_b1, hb_b5, z_b5_b1, y_b5_b1]
  refine (specMetaBytes_pc _ _ t (by constructor <;> omega) (by omega)).use ?_
  rw [hmb]
  simp -implicitDefEqProofs only [go_sem, o1, o2, hb_b1, hb_b5, z_b5_b1, y_b5_b1]
  intro b6 hb6 n6
  simp -implicitDefEqProofs only [go_sem, o1, o2, hb_b1, hb_b5, z_b5_b1, y_b5_b1]
  exact ⟨Ext.set (((Ext.refl _).set' n_b1 _).set' n_b5 _) n6 _, own_acts [⟨false, 0, metaB (M.1.1.1 + 1) t⟩, ⟨true, 0, []⟩] (Ext.none (((Ext.refl _).set' n_b1 _).set' n_b5 _) n6) hb6⟩
end Go.Proofs.YthjbhdmjfakfaaaGreatDoor
namespace Go.Proofs.YthjbhdmjfakfaaaGreatDoor
open Go.KH

theorem ints_one (l : List Int) : (ints l).flatten.all Value.oneCell' = true := by simp [ints, oneCell_int]
theorem ints_nil {h : H} {c n : Nat} {l : List Int} (hv : Sl h (.slice none n c) 1 (ints l)) : l = [] := List.map_eq_nil_iff.1 hv.none
def b_slices_Clone_int64_int64 : C := (jo [q 2 (.mv (.c nils))]
 (.seq (jo [jm 3 0, q 4 (.eqs false (.t 3) (.c nils))]
 (.cond (.t 4) (jo [q 2 (.mv (.c nils))]
 .ret) .skip))
 (jo [⟨(some 5), none, .bsl 0 [] []⟩, jm 6 0, ⟨(some 7), none, .app 1 8 (.t 5) (.t 6)⟩, jm 2 7]
 .ret)))
theorem w_slices_Clone_int64_int64 : Wk Tryz.prog 211 8 [.tmp 2] b_slices_Clone_int64_int64 := Wk.of mixedOrders Tryz.func211 (by kernel_rfl) (by kernel_rfl)

theorem cloneInts_ac {h : H} {v : Value} {l : List Int} (hv : Sl h v 1 (ints l)) (hb : l.length ≤ 1048576) : AC Tryz.prog 211 [v] h fun v' h' => Ext h h' ∧ Fre h h' v' 1 (ints l) := by
 obtain ⟨a, c, rfl⟩ := hv.shape
 have hl : (ints l).length = l.length := by simp
 refine w_slices_Clone_int64_int64 (by simp) ?_
 unfold b_slices_Clone_int64_int64
 simp -implicitDefEqProofs only [go_sem]
 cases a with
 | none =>
  simp -implicitDefEqProofs only [go_sem, Option.isNone_none]
  exact ⟨Ext.refl _, .inl ⟨none, 0, rfl, by rw [ints_nil hv]; rfl⟩⟩
 | some a =>
  simp -implicitDefEqProofs only [go_sem, Option.isNone_some]
  intro b1 hb1 hn1
  have hsrc := src0 hn1 hv (ints_wid l) (by decide)
  simp -implicitDefEqProofs only [go_sem, hsrc]
  refine app0 hb1 hn1 rfl (ints_wid l) (ints_one l) (by rw [hl]; omega) ?_
  intro v' h' e o
  simp -implicitDefEqProofs only [go_sem]
  exact ⟨e, o.fre⟩
def b_impl_stateIdle : C := (jo [⟨(some 1), none, .box (.t 0)⟩, ⟨(some 2), none, .alloc [(i64 0), (i64 0), (i64 0), (i64 0), (i64 0), (str []), nils, nils]⟩]
 (jo [jf 3 6 1, jl 4 3, jc 5 211 [(.t 4)], q 6 (.build [(i64 0), (i64 0), (i64 0), (i64 0), (i64 0), (str []), nils, nils] [(0, 1, (.c (i64 1))), (6, 1, (.t 5))]), js 8 2 6]
 .ret))
theorem w_impl_stateIdle : Wk Tryz.prog 147 7 [.cell 2 true 8] b_impl_stateIdle := Wk.of mixedOrders Tryz.func147 (by kernel_rfl) (by kernel_rfl)

theorem stateIdle_ac {h : H} {cs : List Value} {s : UState} (hv : StR h cs s) (hs : s.small) : AC Tryz.prog 147 [.agg cs.toArray] h fun r h' => Ext h h' ∧ ∃ cs', r = .agg cs'.toArray ∧ StF h h' cs' ⟨1, 0, 0, 0, 0, [], s.held, []⟩ := by
 obtain ⟨vh, vm, rfl, a1, a2⟩ := hv
 refine w_impl_stateIdle (by simp) ?_
 unfold b_impl_stateIdle
 simp -implicitDefEqProofs only [go_sem]
 intro b1 hb_b1 n_b1
 simp -implicitDefEqProofs only [go_sem, hb_b1]
 intro b2 hb_b2 m0_b2
 obtain ⟨z_b2_b1, y_b2_b1, n_b2⟩ := fne m0_b2
 simp only [H.set_base] at hb_b2
 simp -implicitDefEqProofs only [go_sem, hb_b1, hb_b2, z_b2_b1, y_b2_b1]
 refine AC_of (cloneInts_ac (a1.ext (((Ext.refl _).set' n_b1 _).set' n_b2 _)) hs.1) ?_
 rintro v1 h1 - ⟨e1, f1⟩
 have g2 := e1.2.g b2 _ (by simp -implicitDefEqProofs only [go_sem, hb_b1, hb_b2, z_b2_b1, y_b2_b1]; rfl)
 have hb4 := e1.1
 simp only [H.set_base] at hb4
 obtain ⟨av1, cv1, rfl⟩ := f1.shape
 simp -implicitDefEqProofs only [go_sem, ldc_get g2, stc_get g2, hb4, hb_b1, hb_b2, z_b2_b1, y_b2_b1]
 refine ⟨(((((Ext.refl _).set' n_b1 _).set' n_b2 _)).trans e1).set' n_b2 _, _, rfl, _, _, rfl, ?_, ?_, ?_⟩
 ·exact (f1.set (b := b2) (H.set_get_same _ _ _) _).back (((Ext.refl _).set' n_b1 _).set' n_b2 _)
 ·exact .inl ⟨none, 0, rfl, rfl⟩
 ·exact fun _ _ h => by cases h
end Go.Proofs.YthjbhdmjfakfaaaGreatDoor