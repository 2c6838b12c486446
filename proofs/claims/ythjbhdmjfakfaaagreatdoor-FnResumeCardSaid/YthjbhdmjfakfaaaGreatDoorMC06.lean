/- A helper of this seat's claims (contracts of the functions): what it shows is shown for every input that its statements name, on no other condition. -/
import Derived.Test.YthjbhdmjfakfaaaGreatDoorMC0
import Derived.Test.YthjbhdmjfakfaaaGreatDoorC01
import Derived.Test.YthjbhdmjfakfaaaGreatDoorMC02t
set_option linter.unusedVariables false
set_option linter.unusedSimpArgs false
set_option maxRecDepth 100000
namespace Go.Proofs.YthjbhdmjfakfaaaGreatDoor
open Go.KH

def stepOk (s : UStep) (blocks : Int) : Prop := (1 ≤ s.kind ∧ s.kind ≤ 5) ∧ (if s.kind = 5 then s.dst = 0 else 0 ≤ s.dst ∧ s.dst ≤ blocks - 1) ∧
 (if s.kind = 5 then 0 ≤ s.src ∧ s.src ≤ 1000000 else if s.kind = 3 ∨ s.kind = 4 then 0 ≤ s.src ∧ s.src ≤ blocks - 1 else s.src = 0) ∧ (if s.kind = 2 ∨ s.kind = 4 then s.data.length = 8 else s.data = [])
instance (s : UStep) (blocks : Int) : Decidable (stepOk s blocks) := by unfold stepOk; infer_instance
def b_impl_isTime : C := (jo [q 2 (.mv (.c (.bool false)))]
 (jo [jm 3 0, jc 4 140 [(.t 3), (.c (i64 0)), (.c (i64 1000000))], jm 2 4]
 .ret))
theorem w_impl_isTime : Wk Tryz.prog 141 5 [.tmp 2] b_impl_isTime := Wk.of mixedOrders Tryz.func141 (by kernel_rfl) (by kernel_rfl)

theorem isTime_pc (h : H) (n : Int) : PC Tryz.prog 141 [i64 n] h (.bool (decide (0 ≤ n ∧ n ≤ 1000000))) := by
 refine w_impl_isTime (by simp) ?_
 unfold b_impl_isTime
 simp -implicitDefEqProofs only [go_sem]
 refine (within_pc _ _ _ _).use ?_
 simp -implicitDefEqProofs only [go_sem]
def b_impl_isStep : C := (jo [⟨(some 2), none, .box (.t 0)⟩, q 4 (.mv (.c (.bool false)))]
 (.seq (.dops true (.tk (jf 8 1 2) (.tk (jl 9 8) (.tk (jm 10 1) (.tk (jk 11 .sub 10 1) (.tk (jf 13 2 2) (.tk (jl 14 13) (.tk (jk 15 .eql 14 0) (.tk (jf 16 3 2) (.tk (jl 17 16) (.tk (q 18 (.bin .eql (.t 17) (.c (str [])))) (.sq (jc 12 140 [(.t 9), (.c (i64 0)), (.t 11)]) (.tk (jm 5 12) (.tk (jm 6 15) (.tk (jm 7 18) .nil)))))))))))))))
 (.seq (jo [jf 19 0 2, jl 20 19, jk 21 .eql 20 3, jm 22 21, qg 23 22 false (.fld 0 (.t 2)), qg 24 22 false (.ld false 1 (.t 23)), qg 25 22 false (.bin .eql (.t 24) (.c (i64 4))), q 26 (.pick (.t 22) (.c (.bool true)) (.t 25))]
 (.cond (.t 26) (.ops [jf 27 2 2, jl 28 27, jm 29 1, jk 30 .sub 29 1, jc 31 140 [(.t 28), (.c (i64 0)), (.t 30)], jm 6 31]) .skip))
 (.seq (jo [jf 32 0 2, jl 33 32, jk 34 .eql 33 2, jm 35 34, qg 36 35 false (.fld 0 (.t 2)), qg 37 35 false (.ld false 1 (.t 36)), qg 38 35 false (.bin .eql (.t 37) (.c (i64 4))), q 39 (.pick (.t 35) (.c (.bool true)) (.t 38))]
 (.cond (.t 39) (.ops [jf 40 3 2, jl 41 40, q 42 (.slen (.t 41)), jk 43 .eql 42 8, jm 7 43]) .skip))
 (.seq (jo [jf 44 0 2, jl 45 44, jk 46 .eql 45 5]
 (.cond (.t 46) (.dops true (.tk (jf 47 1 2) (.tk (jl 48 47) (.tk (jk 49 .eql 48 0) (.tk (jf 50 2 2) (.tk (jl 51 50) (.sq (jc 52 141 [(.t 51)]) (.tk (jm 5 49) (.tk (jm 6 52) .nil))))))))) .skip))
 (jo [jf 53 0 2, jl 54 53, jc 55 140 [(.t 54), (.c (i64 1)), (.c (i64 5))], jm 56 55, qg 57 56 true (.mv (.t 5)), q 58 (.pick (.t 56) (.t 57) (.c (.bool false))), jm 59 58, qg 60 59 true (.mv (.t 6)), q 61 (.pick (.t 59) (.t 60) (.c (.bool false))), jm 62 61, qg 63 62 true (.mv (.t 7)), q 64 (.pick (.t 62) (.t 63) (.c (.bool false))), jm 4 64]
 .ret))))))
theorem w_impl_isStep : Wk Tryz.prog 122 65 [.tmp 4] b_impl_isStep := Wk.of mixedOrders Tryz.func122 (by kernel_rfl) (by kernel_rfl)

theorem isStep_pc (h : H) (s : UStep) {blocks : Int} (hb : in64 blocks) (hb' : -1000 ≤ blocks) : PC Tryz.prog 122 [.agg s.cells.toArray, i64 blocks] h (.bool (decide (stepOk s blocks))) := by
 obtain ⟨kind, dst, src, data⟩ := s
 unfold in64 at hb
 refine PC_of ?_
 refine w_impl_isStep (by simp) ?_
 unfold b_impl_isStep
 simp -implicitDefEqProofs only [go_sem]
 intro b1 hb_b1 n_b1
 skip
 simp -implicitDefEqProofs only [go_sem, hb_b1, wrap_i64 (show -(9223372036854775808 : Int) ≤ (blocks - 1) by omega) (show (blocks - 1) < 9223372036854775808 by omega)]
 refine (within_pc _ _ _ _).use ?_
 by_cases h3 : kind = 3
 ·subst h3
  simp -implicitDefEqProofs only [go_sem, hb_b1, wrap_i64 (show -(9223372036854775808 : Int) ≤ (blocks - 1) by omega) (show (blocks - 1) < 9223372036854775808 by omega)]
  repeat' first | (refine Br.of (fun hc => ?_) (fun hc => ?_) <;> simp -implicitDefEqProofs only [go_sem, *, wrap_i64 (show -(9223372036854775808 : Int) ≤ (blocks - 1) by omega) (show (blocks - 1) < 9223372036854775808 by omega)]) | (refine PC.use (within_pc _ _ _ _) ?_; simp -implicitDefEqProofs only [go_sem, *, wrap_i64 (show -(9223372036854775808 : Int) ≤ (blocks - 1) by omega) (show (blocks - 1) < 9223372036854775808 by omega)]) | (refine PC.use (isTime_pc _ _) ?_; simp -implicitDefEqProofs only [go_sem, *, wrap_i64 (show -(9223372036854775808 : Int) ≤ (blocks - 1) by omega) (show (blocks - 1) < 9223372036854775808 by omega)])
  all_goals first | exact ((Ext.refl _).set' n_b1 _) | exact ⟨((Ext.refl _).set' n_b1 _), by first | (simp_all [stepOk]; done) | (simp_all [stepOk]; intros; omega)⟩
 by_cases h4 : kind = 4
 ·subst h4
  simp -implicitDefEqProofs only [go_sem, hb_b1, wrap_i64 (show -(9223372036854775808 : Int) ≤ (blocks - 1) by omega) (show (blocks - 1) < 9223372036854775808 by omega)]
  repeat' first | (refine Br.of (fun hc => ?_) (fun hc => ?_) <;> simp -implicitDefEqProofs only [go_sem, *, wrap_i64 (show -(9223372036854775808 : Int) ≤ (blocks - 1) by omega) (show (blocks - 1) < 9223372036854775808 by omega)]) | (refine PC.use (within_pc _ _ _ _) ?_; simp -implicitDefEqProofs only [go_sem, *, wrap_i64 (show -(9223372036854775808 : Int) ≤ (blocks - 1) by omega) (show (blocks - 1) < 9223372036854775808 by omega)]) | (refine PC.use (isTime_pc _ _) ?_; simp -implicitDefEqProofs only [go_sem, *, wrap_i64 (show -(9223372036854775808 : Int) ≤ (blocks - 1) by omega) (show (blocks - 1) < 9223372036854775808 by omega)])
  all_goals first | exact ((Ext.refl _).set' n_b1 _) | exact ⟨((Ext.refl _).set' n_b1 _), by first | (simp_all [stepOk]; done) | (simp_all [stepOk]; intros; omega)⟩
 by_cases h2 : kind = 2
 ·subst h2
  simp -implicitDefEqProofs only [go_sem, hb_b1, wrap_i64 (show -(9223372036854775808 : Int) ≤ (blocks - 1) by omega) (show (blocks - 1) < 9223372036854775808 by omega)]
  repeat' first | (refine Br.of (fun hc => ?_) (fun hc => ?_) <;> simp -implicitDefEqProofs only [go_sem, *, wrap_i64 (show -(9223372036854775808 : Int) ≤ (blocks - 1) by omega) (show (blocks - 1) < 9223372036854775808 by omega)]) | (refine PC.use (within_pc _ _ _ _) ?_; simp -implicitDefEqProofs only [go_sem, *, wrap_i64 (show -(9223372036854775808 : Int) ≤ (blocks - 1) by omega) (show (blocks - 1) < 9223372036854775808 by omega)]) | (refine PC.use (isTime_pc _ _) ?_; simp -implicitDefEqProofs only [go_sem, *, wrap_i64 (show -(9223372036854775808 : Int) ≤ (blocks - 1) by omega) (show (blocks - 1) < 9223372036854775808 by omega)])
  all_goals first | exact ((Ext.refl _).set' n_b1 _) | exact ⟨((Ext.refl _).set' n_b1 _), by first | (simp_all [stepOk]; done) | (simp_all [stepOk]; intros; omega)⟩
 by_cases h5 : kind = 5
 ·subst h5
  simp -implicitDefEqProofs only [go_sem, hb_b1, wrap_i64 (show -(9223372036854775808 : Int) ≤ (blocks - 1) by omega) (show (blocks - 1) < 9223372036854775808 by omega)]
  repeat' first | (refine Br.of (fun hc => ?_) (fun hc => ?_) <;> simp -implicitDefEqProofs only [go_sem, *, wrap_i64 (show -(9223372036854775808 : Int) ≤ (blocks - 1) by omega) (show (blocks - 1) < 9223372036854775808 by omega)]) | (refine PC.use (within_pc _ _ _ _) ?_; simp -implicitDefEqProofs only [go_sem, *, wrap_i64 (show -(9223372036854775808 : Int) ≤ (blocks - 1) by omega) (show (blocks - 1) < 9223372036854775808 by omega)]) | (refine PC.use (isTime_pc _ _) ?_; simp -implicitDefEqProofs only [go_sem, *, wrap_i64 (show -(9223372036854775808 : Int) ≤ (blocks - 1) by omega) (show (blocks - 1) < 9223372036854775808 by omega)])
  all_goals first | exact ((Ext.refl _).set' n_b1 _) | exact ⟨((Ext.refl _).set' n_b1 _), by first | (simp_all [stepOk]; done) | (simp_all [stepOk]; intros; omega)⟩
 ·simp -implicitDefEqProofs only [go_sem, h2, h3, h4, h5, hb_b1, wrap_i64 (show -(9223372036854775808 : Int) ≤ (blocks - 1) by omega) (show (blocks - 1) < 9223372036854775808 by omega)]
  repeat' first | (refine Br.of (fun hc => ?_) (fun hc => ?_) <;> simp -implicitDefEqProofs only [go_sem, h2, h3, h4, h5, *, wrap_i64 (show -(9223372036854775808 : Int) ≤ (blocks - 1) by omega) (show (blocks - 1) < 9223372036854775808 by omega)]) | (refine PC.use (within_pc _ _ _ _) ?_; simp -implicitDefEqProofs only [go_sem, h2, h3, h4, h5, *, wrap_i64 (show -(9223372036854775808 : Int) ≤ (blocks - 1) by omega) (show (blocks - 1) < 9223372036854775808 by omega)]) | (refine PC.use (isTime_pc _ _) ?_; simp -implicitDefEqProofs only [go_sem, h2, h3, h4, h5, *, wrap_i64 (show -(9223372036854775808 : Int) ≤ (blocks - 1) by omega) (show (blocks - 1) < 9223372036854775808 by omega)])
  all_goals first | exact ((Ext.refl _).set' n_b1 _) | exact ⟨((Ext.refl _).set' n_b1 _), by first | (simp_all [stepOk]; done) | (simp_all [stepOk]; intros; omega)⟩
end Go.Proofs.YthjbhdmjfakfaaaGreatDoor
namespace Go.Proofs.YthjbhdmjfakfaaaGreatDoor
open Go.KH

theorem putText_le {t : List UInt8} (h : t.length ≤ 1099511627776) : (putText t).length ≤ t.length + 10 := by
 have := putNum_le (n := (t.length : Int)) ⟨by omega, by omega⟩
 unfold putText; rw [List.length_append]; omega
end Go.Proofs.YthjbhdmjfakfaaaGreatDoor
namespace Go.Proofs.YthjbhdmjfakfaaaGreatDoor
open Go.KH

def stepB (s : UStep) : List UInt8 := putNum s.kind ++ putNum s.dst ++ putNum s.src ++ putText s.data
def recordB (n : Int) (s : UStep) : List UInt8 := sealB (putNum n ++ stepB s)
def recordBytes (n : Int) (s : UStep) : List UInt8 := if (0 ≤ n ∧ n ≤ 1000000) ∧ stepOk s 8 then recordB n s else []
theorem stepOk_data {s : UStep} {b : Int} (h : stepOk s b) : s.data.length ≤ 8 := by
 have := h.2.2.2
 split at this
 ·omega
 ·rw [this]; simp
theorem stepB_le {s : UStep} (hs : s.ok) (hd : s.data.length ≤ 8000) : (stepB s).length ≤ 8040 := by
 have l1 := putNum_le hs.1
 have l2 := putNum_le hs.2.1
 have l3 := putNum_le hs.2.2.1
 have l4 := putText_le (t := s.data) (by omega)
 unfold stepB
 simp only [List.length_append]; omega
theorem sl3 {h : H} {b : Nat} {x y z : Int} (hb : h.get b = some ⟨[i64 x, i64 y, i64 z], 3⟩) : Sl h (sl b 0 3 3) 1 ([x, y, z].map fun n => [i64 n]) :=
 ⟨_, _, b, 0, rfl, Nat.le_refl _, rfl, fun i r hr => by
  match i, hr with
  | 0, hr => simp only [List.map_cons, List.map_nil, List.getElem?_cons_zero, Option.some.injEq] at hr; subst hr; simp [ldc, hb]
  | 1, hr => simp only [List.map_cons, List.map_nil, List.getElem?_cons_succ, List.getElem?_cons_zero, Option.some.injEq] at hr; subst hr; simp [ldc, hb]
  | 2, hr => simp only [List.map_cons, List.map_nil, List.getElem?_cons_succ, List.getElem?_cons_zero, Option.some.injEq] at hr; subst hr; simp [ldc, hb]
  | i + 3, hr => simp at hr⟩
def b_impl_stepBytes : C := (jo [⟨(some 1), none, .box (.t 0)⟩, q 2 (.mv (.c (str [])))]
 (.seq (.dops true (.tk (jf 3 0 1) (.tk (jl 4 3) (.tk (jf 5 1 1) (.tk (jl 6 5) (.tk (jf 7 2 1) (.tk (jl 8 7) (.tk (jf 11 3 1) (.tk (jl 12 11) (.sq (⟨(some 9), none, .bsl 3 [(i64 0), (i64 0), (i64 0)] [(0, 1, (.t 4)), (1, 1, (.t 6)), (2, 1, (.t 8))]⟩) (.sq (jc 10 181 [(.t 9)]) (.sq (jc 13 95 [(.t 12)]) (.tk (jb 14 .add 10 13) (.tk (jm 2 14) .nil))))))))))))))
 .ret))
theorem w_impl_stepBytes : Wk Tryz.prog 97 15 [.tmp 2] b_impl_stepBytes := Wk.of mixedOrders Tryz.func97 (by kernel_rfl) (by kernel_rfl)

theorem stepBytes_pc (h : H) (s : UStep) (hs : s.ok) (hd : s.data.length ≤ 8000) : PC Tryz.prog 97 [.agg s.cells.toArray] h (str (stepB s)) := by
 have l1 := putNum_le hs.1
 have l2 := putNum_le hs.2.1
 have l3 := putNum_le hs.2.2.1
 have l4 := putText_le (t := s.data) (by omega)
 refine PC_of ?_
 refine w_impl_stepBytes (by simp) ?_
 unfold b_impl_stepBytes
 simp -implicitDefEqProofs only [go_sem]
 intro b1 hb_b1 n_b1
 simp -implicitDefEqProofs only [go_sem, hb_b1]
 intro b2 hb_b2 m0_b2
 obtain ⟨z_b2_b1, y_b2_b1, n_b2⟩ := fne m0_b2
 simp only [H.set_base] at hb_b2
 refine ⟨Sub.set (Sub.refl _) (by rw [H.set_get_ne _ _ _ _ (of_eq_false z_b2_b1)]; exact n_b2) _, ?_⟩
 simp -implicitDefEqProofs only [go_sem, hb_b1, hb_b2, z_b2_b1, y_b2_b1]
 refine (putNums_pc (sl3 (H.set_get_same _ _ _)) (by simp) (by intro x hx; simp at hx; rcases hx with rfl | rfl | rfl; exact hs.1; exact hs.2.1; exact hs.2.2.1)).use ?_
 refine ⟨Sub.set (Sub.refl _) (by rw [H.set_get_ne _ _ _ _ (of_eq_false z_b2_b1)]; exact n_b2) _, ?_⟩
 simp -implicitDefEqProofs only [go_sem, hb_b1, hb_b2, z_b2_b1, y_b2_b1]
 refine (putText_pc _ _ (by omega)).use ?_
 refine ⟨Sub.set (Sub.refl _) (by rw [H.set_get_ne _ _ _ _ (of_eq_false z_b2_b1)]; exact n_b2) _, ?_⟩
 simp -implicitDefEqProofs only [go_sem, hb_b1, hb_b2, z_b2_b1, y_b2_b1]
 have e : [s.kind, s.dst, s.src].flatMap putNum = putNum s.kind ++ putNum s.dst ++ putNum s.src := by simp
 rw [e]
 refine Req.of (by simp only [List.length_append]; omega) ?_
 simp -implicitDefEqProofs only [go_sem, hb_b1, hb_b2, z_b2_b1, y_b2_b1]
 exact ⟨(((Ext.refl _).set' n_b1 _).set' n_b2 _), rfl⟩
def b_impl_recordBytes : C := (jo [⟨(some 3), none, .box (.t 1)⟩, q 4 (.mv (.c (str [])))]
 (.seq (.dops true (.tk (jm 5 0) (.tk (jd 7 4 3) (.sq (jc 6 94 [(.t 5)]) (.sq (jc 8 97 [(.t 7)]) (.tk (jb 9 .add 6 8) (.sq (jc 10 98 [(.t 9)]) (.tk (jm 4 10) .nil))))))))
 .ret))
theorem w_impl_recordBytes : Wk Tryz.prog 210 11 [.tmp 4] b_impl_recordBytes := Wk.of mixedOrders Tryz.func210 (by kernel_rfl) (by kernel_rfl)

theorem implRecordB_pc (h : H) (n : Int) (s : UStep) (hn : in64 n) (hs : s.ok) (hd : s.data.length ≤ 8000) : PC Tryz.prog 210 [i64 n, .agg s.cells.toArray] h (str (recordB n s)) := by
 have l1 := putNum_le hn
 have l2 := stepB_le hs hd
 refine PC_of ?_
 refine w_impl_recordBytes (by simp) ?_
 unfold b_impl_recordBytes
 simp -implicitDefEqProofs only [go_sem]
 intro b1 hb_b1 n_b1
 simp -implicitDefEqProofs only [go_sem, hb_b1]
 refine (putNum_pc _ _ hn).use ?_
 simp -implicitDefEqProofs only [go_sem, hb_b1]
 refine (stepBytes_pc _ s hs hd).use ?_
 simp -implicitDefEqProofs only [go_sem, hb_b1]
 refine Req.of (by omega) ?_
 simp -implicitDefEqProofs only [go_sem, hb_b1]
 refine (seal_pc _ _ (by simp only [List.length_append]; omega)).use ?_
 simp -implicitDefEqProofs only [go_sem, hb_b1]
 exact ⟨((Ext.refl _).set' n_b1 _), rfl⟩
end Go.Proofs.YthjbhdmjfakfaaaGreatDoor
namespace Go.Proofs.YthjbhdmjfakfaaaGreatDoor
open Go.KH

theorem ext_beside2 {h : H} {b c : Nat} {x y z : Ob} (hn : h.get c = none) (hb : h.get b = some z) : Ext (h.set b x) ((h.set c y).set b x) := by
 have hne : b ≠ c := fun e => by subst e; rw [hb] at hn; cases hn
 rw [H.set_comm _ _ _ hne]
 exact (Ext.refl _).set (by rw [H.set_get_ne _ _ _ _ hne.symm]; exact hn) _
def stepI (t : List UInt8) (a : Nat) (bad : Bool) : UStep × Nat × Bool :=
 let k := numI t a bad; let d := numI t k.2.1 k.2.2; let s := numI t d.2.1 d.2.2; let x := textI t s.2.1 s.2.2
 (⟨k.1, d.1, s.1, x.1⟩, x.2.1, x.2.2)
theorem numI_inv {t : List UInt8} {a e : Nat} {b : Bool} {n : Int} (h : numI t a b = (n, e, false)) : b = false ∧ getN t a = (n, e, 0) := by
 unfold numI at h
 split at h
 ·rename_i hc; simp only [Prod.mk.injEq] at h; exact ⟨h.2.2, by rw [← h.1, ← h.2.1, ← hc]⟩
 ·simp at h
theorem textI_inv {t x : List UInt8} {a e : Nat} {b : Bool} (h : textI t a b = (x, e, false)) : b = false ∧ getT t a = (x, e, 0) := by
 unfold textI at h
 split at h
 ·rename_i hc; simp only [Prod.mk.injEq] at h; exact ⟨h.2.2, by rw [← h.1, ← h.2.1, ← hc]⟩
 ·simp at h
theorem numI_ok {t : List UInt8} {a e : Nat} {n : Int} (b : Bool) (h : getN t a = (n, e, 0)) : numI t a b = (n, e, b) := by unfold numI; rw [h, if_pos rfl]
theorem textI_ok {t x : List UInt8} {a e : Nat} (b : Bool) (h : getT t a = (x, e, 0)) : textI t a b = (x, e, b) := by unfold textI; rw [h, if_pos rfl]
theorem eta3 {α : Type} {p : α × Nat × Bool} {b : Bool} (h : p.2.2 = b) : p = (p.1, p.2.1, b) := by rw [← h]
def Reads (t : List UInt8) (a : Nat) (s : UStep) (e : Nat) : Prop := ∃ a1 a2 a3, getN t a = (s.kind, a1, 0) ∧ getN t a1 = (s.dst, a2, 0) ∧ getN t a2 = (s.src, a3, 0) ∧ getT t a3 = (s.data, e, 0)
theorem stepI_iff {t : List UInt8} {a e : Nat} {b : Bool} {s : UStep} : stepI t a b = (s, e, false) ↔ b = false ∧ Reads t a s e := by
 obtain ⟨k, d, r, x⟩ := s
 obtain ⟨k', a1, b1, e1⟩ : ∃ k a1 b1, numI t a b = (k, a1, b1) := ⟨_, _, _, rfl⟩
 obtain ⟨d', a2, b2, e2⟩ : ∃ k a2 b2, numI t a1 b1 = (k, a2, b2) := ⟨_, _, _, rfl⟩
 obtain ⟨r', a3, b3, e3⟩ : ∃ k a3 b3, numI t a2 b2 = (k, a3, b3) := ⟨_, _, _, rfl⟩
 obtain ⟨x', a4, b4, e4⟩ : ∃ k a4 b4, textI t a3 b3 = (k, a4, b4) := ⟨_, _, _, rfl⟩
 have hs : stepI t a b = (⟨k', d', r', x'⟩, a4, b4) := by unfold stepI; simp only [e1, e2, e3, e4]
 constructor
 ·intro h
  rw [hs] at h
  simp only [Prod.mk.injEq, UStep.mk.injEq] at h
  obtain ⟨⟨rfl, rfl, rfl, rfl⟩, rfl, rfl⟩ := h
  obtain ⟨rfl, g4⟩ := textI_inv e4
  obtain ⟨rfl, g3⟩ := numI_inv e3
  obtain ⟨rfl, g2⟩ := numI_inv e2
  obtain ⟨rfl, g1⟩ := numI_inv e1
  exact ⟨rfl, a1, a2, a3, g1, g2, g3, g4⟩
 ·rintro ⟨rfl, c1, c2, c3, g1, g2, g3, g4⟩
  simp only at g1 g2 g3 g4
  unfold stepI
  simp only [numI_ok _ g1, numI_ok _ g2, numI_ok _ g3, textI_ok _ g4]
theorem Reads.eq {t : List UInt8} {a e : Nat} {s : UStep} (r : Reads t a s e) : t.drop a = stepB s ++ t.drop e ∧ a < e ∧ e ≤ t.length ∧ s.ok ∧ s.data.length ≤ 8000 := by
 obtain ⟨a1, a2, a3, g1, g2, g3, g4⟩ := r
 obtain ⟨k1, k2, k3, k4⟩ := getN_ok g1
 obtain ⟨d1, d2, d3, d4⟩ := getN_ok g2
 obtain ⟨s1, s2, s3, s4⟩ := getN_ok g3
 obtain ⟨x1, x2, x3, x4⟩ := getT_ok g4
 refine ⟨?_, by omega, x3, ⟨k4, d4, s4, by have := show maxLen = 9223372036854775807 from rfl; omega⟩, x4⟩
 unfold stepB
 rw [k1, d1, s1, x1]
 simp only [List.append_assoc]
theorem Reads.one {t : List UInt8} {a e e' : Nat} {s s' : UStep} (r : Reads t a s e) (q : Reads t a s' e') : s = s' ∧ e = e' := by
 have h1 := stepI_iff.2 ⟨rfl, r⟩
 have h2 := stepI_iff.2 ⟨rfl, q⟩
 rw [h1] at h2
 simp only [Prod.mk.injEq] at h2
 exact ⟨h2.1, h2.2.1⟩
def stepR (t : List UInt8) : Option UStep := if (stepI t 0 false).2.2 = false ∧ (stepI t 0 false).2.1 = t.length ∧ stepOk (stepI t 0 false).1 8 then some (stepI t 0 false).1 else none
def step0 : UStep := ⟨0, 0, 0, []⟩
def b_impl_reader_step : C := (jo [⟨(some 2), none, .alloc [(i64 0), (i64 0), (i64 0), (str [])]⟩]
 (jo [jm 3 0, jc 4 107 [(.t 3)], jm 5 0, jc 6 107 [(.t 5)], jm 7 0, jc 8 107 [(.t 7)], jm 9 0, jc 10 108 [(.t 9)], q 11 (.build [(i64 0), (i64 0), (i64 0), (str [])] [(0, 1, (.t 4)), (1, 1, (.t 6)), (2, 1, (.t 8)), (3, 1, (.t 10))]), js 4 2 11]
 .ret))
theorem w_impl_reader_step : Wk Tryz.prog 187 12 [.cell 2 true 4] b_impl_reader_step := Wk.of mixedOrders Tryz.func187 (by kernel_rfl) (by kernel_rfl)

theorem rstep_ac {h : H} {b z a : Nat} {t : List UInt8} {bad : Bool} (hb : h.base ≤ b) (hg : h.get b = some ⟨rdc t a bad, z⟩) (ht : t.length ≤ 1048576) (ha : a ≤ 1048576) : AC Tryz.prog 187 [ptr b 0] h fun r h' =>
  r = .agg (stepI t a bad).1.cells.toArray ∧ h' = h.set b ⟨rdc t (stepI t a bad).2.1 (stepI t a bad).2.2, z⟩ := by
 refine AC_keep ?_
 unfold stepI
 refine w_impl_reader_step (by simp) ?_
 unfold b_impl_reader_step
 simp -implicitDefEqProofs only [go_sem]
 intro b2 hb2 n2
 have z2 : (b = b2) = False := eq_false fun e => by subst e; rw [hg] at n2; cases n2
 have y2 : (b2 = b) = False := eq_false fun e => by subst e; rw [hg] at n2; cases n2
 have g0 : (h.set b2 ⟨[i64 0, i64 0, i64 0, str []], 4⟩).get b = some ⟨rdc t a bad, z⟩ := by rw [H.set_get_ne _ _ _ _ (of_eq_false z2)]; exact hg
 simp -implicitDefEqProofs only [go_sem]
 refine AC_of (rnum_ac (by rw [H.set_base]; exact hb) g0 ht ha) ?_
 rintro _ _ - ⟨rfl, rfl⟩
 simp -implicitDefEqProofs only [go_sem]
 have l1 := numI_le (t := t) (bad := bad) ha ht
 refine AC_of (rnum_ac (by simp only [H.set_base]; exact hb) (H.set_get_same _ _ _) ht l1) ?_
 rintro _ _ - ⟨rfl, rfl⟩
 simp -implicitDefEqProofs only [go_sem]
 have l2 := numI_le (t := t) (bad := (numI t a bad).2.2) l1 ht
 refine AC_of (rnum_ac (by simp only [H.set_base]; exact hb) (by first | exact H.set_get_same _ _ _ | (rw [H.set_set]; exact H.set_get_same _ _ _)) ht l2) ?_
 rintro _ _ - ⟨rfl, rfl⟩
 simp -implicitDefEqProofs only [go_sem]
 have l3 := numI_le (t := t) (bad := (numI t (numI t a bad).2.1 (numI t a bad).2.2).2.2) l2 ht
 refine AC_of (rword_ac (by simp only [H.set_base]; exact hb) (by first | exact H.set_get_same _ _ _ | (rw [H.set_set]; exact H.set_get_same _ _ _)) ht l3) ?_
 rintro _ _ - ⟨rfl, rfl⟩
 simp -implicitDefEqProofs only [go_sem, z2, y2, hb2]
 exact ⟨_, ext_beside2 n2 hg, rfl, rfl⟩
theorem stepR_of {t : List UInt8} {s : UStep} {e : Nat} (r : Reads t 0 s e) : stepR t = if e = t.length ∧ stepOk s 8 then some s else none := by
 unfold stepR; rw [stepI_iff.2 ⟨rfl, r⟩]; simp only [true_and]
end Go.Proofs.YthjbhdmjfakfaaaGreatDoor