/- A helper of this seat's claims (contracts of the functions): what it shows is shown for every input that its statements name, on no other condition. -/
import Derived.Test.YthjbhdmjfakfaaaGreatDoorC10s
import Derived.Test.YthjbhdmjfakfaaaGreatDoorMC13b
import Derived.Test.YthjbhdmjfakfaaaGreatDoorMC0
import Derived.Test.YthjbhdmjfakfaaaGreatDoorKD
import Derived.Test.YthjbhdmjfakfaaaGreatDoorC05
set_option linter.unusedVariables false
set_option linter.unusedSimpArgs false
set_option maxRecDepth 100000
namespace Go.Proofs.YthjbhdmjfakfaaaGreatDoor
open Go.KH

end Go.Proofs.YthjbhdmjfakfaaaGreatDoor
namespace Go.Proofs.YthjbhdmjfakfaaaGreatDoor
open Go.KH

end Go.Proofs.YthjbhdmjfakfaaaGreatDoor
namespace Go.Proofs.YthjbhdmjfakfaaaGreatDoor
open Go.KH

theorem asM_mk (b : Nat) : asM (.map (some b)) = some b := rfl
theorem set_mp (h : H) (b c : Nat) (x : Ob) : (h.set b x).mp c = h.mp c := rfl
theorem setm_same (h : H) (b : Nat) (l : List (Value × Value)) : (h.setm b l).mp b = some l := by rw [H.setm_mp, if_pos rfl]
def nats (l : List Nat) : List Int := l.map fun i : Nat => (i : Int)
def stm (st : List Int) : List (Value × Value) := st.map fun d => (i64 d, .bool true)
theorem mfind_stm (d : Int) : ∀ (st : List Int) (i : Nat), mfind .i64 d (stm st) i = some (if d ∈ st then some (i + st.findIdx (fun e => decide (e = d)), .bool true) else none)
 | [], i => rfl
 | e :: st, i => by
  have := mfind_stm d st (i + 1)
  simp only [stm] at this
  simp only [stm, List.map_cons, mfind, if_true]
  by_cases h : e = d
  ·subst h; simp [List.findIdx_cons]
  ·rw [if_neg h, this]
   have h' : ¬ d = e := fun x => h x.symm
   simp only [List.mem_cons, h', false_or, List.findIdx_cons, decide_eq_false h, cond_false]
   split
   ·rw [show i + 1 + List.findIdx (fun e => decide (e = d)) st = i + (List.findIdx (fun e => decide (e = d)) st + 1) by omega]
   ·rfl
def b_impl_reads : C := (jo [⟨(some 2), none, .box (.t 0)⟩, q 4 (.mv (.c (.bool false)))]
 (jo [jf 5 0 2, jl 6 5, jk 7 .eql 6 3, jm 8 7, qg 9 8 false (.fld 0 (.t 2)), qg 10 8 false (.ld false 1 (.t 9)), qg 11 8 false (.bin .eql (.t 10) (.c (i64 4))), q 12 (.pick (.t 8) (.c (.bool true)) (.t 11)), jm 13 12, qg 14 13 true (.fld 2 (.t 2)), qg 15 13 true (.ld false 1 (.t 14)), qg 16 13 true (.mv (.t 1)), qg 17 13 true (.bin .eql (.t 15) (.t 16)), q 18 (.pick (.t 13) (.t 17) (.c (.bool false))), jm 4 18]
 .ret))
theorem w_impl_reads : Wk Tryz.prog 207 19 [.tmp 4] b_impl_reads := Wk.of mixedOrders Tryz.func207 (by kernel_rfl) (by kernel_rfl)

theorem reads_pc (h : H) (s : UStep) (b : Int) : PC Tryz.prog 207 [.agg s.cells.toArray, i64 b] h (.bool (readsB s b)) := by
 obtain ⟨k, d, sr, t⟩ := s
 refine PC_of ?_
 unfold readsB
 refine w_impl_reads (by simp) ?_
 unfold b_impl_reads
 simp -implicitDefEqProofs only [go_sem]
 intro b2 hb_b2 n_b2
 simp -implicitDefEqProofs only [go_sem, hb_b2]
 by_cases h3 : k = 3
 ·subst h3
  simp -implicitDefEqProofs only [go_sem, hb_b2]
  exact ⟨((Ext.refl _).set' n_b2 _), by simp⟩
 by_cases h4 : k = 4
 ·subst h4
  simp -implicitDefEqProofs only [go_sem, hb_b2]
  exact ⟨((Ext.refl _).set' n_b2 _), by simp⟩
 ·simp -implicitDefEqProofs only [go_sem, h3, h4, hb_b2]
  exact ⟨((Ext.refl _).set' n_b2 _), by simp [h3, h4]⟩
def b_impl_planOf_1_1 : C := (jo [q 5 (.mv (.c (.bool false)))]
 (.seq (.dops true (.tk (jm 6 0) (.tk (jl 7 1) (.tk (jb 8 .neq 6 7) (.tk (jm 9 8) (.tk (qg 10 9 true (.ld false 1 (.t 2))) (.tk (qg 11 9 true (.mv (.t 0))) (.tk (qg 12 9 true (.idx 4 (.t 10) (.t 11))) (.tk (qg 13 9 true (.ld true 4 (.t 12))) (.tk (qg 14 9 true (.ld false 1 (.t 3))) (.sq (jcg 15 9 true 207 [(.t 13), (.t 14)]) (.tk (q 16 (.pick (.t 9) (.t 15) (.c (.bool false)))) (.tk (jm 5 16) .nil)))))))))))))
 .ret))
theorem w_impl_planOf_1_1 : Wk Tryz.prog 206 17 [.tmp 5] b_impl_planOf_1_1 := Wk.of mixedOrders Tryz.func206 (by kernel_rfl) (by kernel_rfl)

theorem planOf11_pc {h : H} {w : List UStep} {va : Value} {bi ba bt k i : Nat} {to : Int} (hi : ldc h bi 0 1 = some [i64 i]) (ha : ldc h ba 0 1 = some [va]) (ht : ldc h bt 0 1 = some [i64 to]) (hv : Sl h va 4 (w.map UStep.cells)) (hk : k < w.length) :
  PC Tryz.prog 206 [i64 k, ptr bi 0, ptr ba 0, ptr bt 0] h (.bool (decide (k ≠ i) && readsB (stAt w k) to)) := by
 obtain ⟨a, c, b, o, rfl, hcap, h2, h3⟩ := hv
 simp only [List.length_map] at h2
 have e1 := h3 k (w[k]).cells (by simp [hk])
 rw [stAt_get hk]
 refine w_impl_planOf_1_1 (by simp) ?_
 unfold b_impl_planOf_1_1
 simp -implicitDefEqProofs only [go_sem, List.length_map, hi, ha, ht]
 by_cases hki : k = i
 ·subst hki
  simp -implicitDefEqProofs only [go_sem, hi, ha, ht]
  simp
 ·simp -implicitDefEqProofs only [go_sem, hi, ha, ht, hki, show ¬ ((k : Int) = (i : Int)) by omega, h2, hk, Int.ofNat_lt, Int.natCast_nonneg, e1, List.length_map]
  refine (reads_pc _ w[k] to).use ?_
  simp -implicitDefEqProofs only [go_sem]
  simp [hki]
  first | done | (intros; omega)
def b_slices_IndexFunc_int_int : C := (jo [q 4 (.mv (.c (i64 0)))]
 (.seq (jo [jm 6 0, q 7 (.len (.t 6)), q 8 (.mv (.c (i64 0)))]
 (.block 0 (.loop (jo [jb 9 .lss 8 7]
 (.seq (.cond (.t 9) .skip (.exit 0))
 (.seq (.block 1 (jo [jm 10 8, jm 5 10]
 (jo [jm 11 1, jm 12 0, jm 13 5, q 14 (.idx 1 (.t 12) (.t 13)), jl 15 14, ⟨(some 16), none, .call (.t 11) [(.t 15)]⟩]
 (.cond (.t 16) (jo [jm 17 5, jm 4 17]
 .ret) .skip))))
 (.ops [jk 18 .add 8 1, jm 8 18])))))))
 (jo [q 4 (.mv (.c (i64 (-1))))]
 .ret)))
theorem w_slices_IndexFunc_int_int : Wk Tryz.prog 203 19 [.tmp 4] b_slices_IndexFunc_int_int := Wk.of mixedOrders Tryz.func203 (by kernel_rfl) (by kernel_rfl)

def b_slices_ContainsFunc_int_int : C := (jo [q 4 (.mv (.c (.bool false)))]
 (jo [jm 5 0, jm 6 1, jc 7 203 [(.t 5), (.t 6)], jk 8 .geq 7 0, jm 4 8]
 .ret))
theorem w_slices_ContainsFunc_int_int : Wk Tryz.prog 205 9 [.tmp 4] b_slices_ContainsFunc_int_int := Wk.of mixedOrders Tryz.func205 (by kernel_rfl) (by kernel_rfl)

def b_impl_planOf_1 : C := (jo [⟨(some 4), none, .box (.t 0)⟩, q 5 (.mv (.c (.bool false)))]
 (jo [jl 7 1, jl 8 4, q 9 (.idx 4 (.t 7) (.t 8)), jf 10 1 9, jl 11 10, ⟨(some 6), none, .alloc [(i64 0)]⟩, js 1 6 11]
 (jo [jl 12 2, jl 13 6, q 14 (.mlk (.bool false) (.t 12) (.t 13)), jm 15 14, qg 16 15 false (.ld false 1 (.t 3)), qg 17 15 false (.mkf 206 [(.t 4), (.t 1), (.t 6)]), jcg 18 15 false 205 [(.t 16), (.t 17)], qg 19 15 false (.un .not (.t 18)), q 20 (.pick (.t 15) (.c (.bool true)) (.t 19)), jm 5 20]
 .ret)))
theorem w_impl_planOf_1 : Wk Tryz.prog 204 21 [.tmp 5] b_impl_planOf_1 := Wk.of mixedOrders Tryz.func204 (by kernel_rfl) (by kernel_rfl)

theorem ifNat_pc {h : H} {v : Value} {l : List Nat} {p : Nat → Bool} {n : Nat} {caps : List Value} (hv : Sl h v 1 (ints (nats l))) (hn : l.length ≤ 1048576)
  (hc : ∀ x, x ∈ l → PC Tryz.prog n (i64 x :: caps) h (.bool (p x))) : PC Tryz.prog 203 [v, .func (.func n) #[] caps.toArray] h (i64 (firstAt p l)) := by
 have e : ints (nats l) = l.map fun x : Nat => [(fun y : Nat => i64 (y : Int)) x] := by simp [nats, ints, Function.comp_def]
 rw [e] at hv
 exact w_slices_IndexFunc_int_int (by simp) (if1_wpc (ce := fun x : Nat => i64 (x : Int)) hv hn hc ⟨rfl, rfl⟩)
theorem cfNat_pc {h : H} {v : Value} {l : List Nat} {p : Nat → Bool} {n : Nat} {caps : List Value} (hv : Sl h v 1 (ints (nats l))) (hn : l.length ≤ 1048576)
  (hc : ∀ x, x ∈ l → PC Tryz.prog n (i64 x :: caps) h (.bool (p x))) : PC Tryz.prog 205 [v, .func (.func n) #[] caps.toArray] h (.bool (l.any p)) := by
 refine w_slices_ContainsFunc_int_int (by simp) ?_
 unfold b_slices_ContainsFunc_int_int
 simp -implicitDefEqProofs only [go_sem]
 refine PC.use (ifNat_pc hv hn hc) ?_
 simp -implicitDefEqProofs only [go_sem]
 rw [← firstAt_any]
theorem planOf1_pc {h : H} {w : List UStep} {va vl : Value} {ba bl bs bm i : Nat} {left : List Nat} {st : List Int} (hga : h.get ba = some ⟨[va], 1⟩) (hgl : h.get bl = some ⟨[vl], 1⟩) (hgs : h.get bs = some ⟨[.map (some bm)], 1⟩) (hm : h.mp bm = some (stm st))
  (hv : Sl h va 4 (w.map UStep.cells)) (hl : Sl h vl 1 (ints (nats left))) (hi : i < w.length) (hb : ∀ k ∈ left, k < w.length) (hn : left.length ≤ 1048576) :
  PC Tryz.prog 204 [i64 i, ptr ba 0, ptr bs 0, ptr bl 0] h (.bool (freeB w left st i)) := by
 obtain ⟨a, c, b, o, rfl, hcap, h2, h3⟩ := hv
 have hv : Sl h (.slice a (w.map UStep.cells).length c) 4 (w.map UStep.cells) := ⟨a, c, b, o, rfl, hcap, h2, h3⟩
 obtain ⟨al, cl, rfl⟩ := hl.shape
 have hl0 : (ints (nats left)).length = left.length := by simp [nats]
 rw [hl0] at hl
 have hw0 : (w.map UStep.cells).length = w.length := by simp
 rw [hw0] at hv
 simp only [List.length_map] at h2
 have e1 := ldc_part (h3 i (w[i]).cells (by simp [hi])) 1 1 (by omega)
 refine PC_of ?_
 unfold freeB readB
 rw [stAt_get hi]
 skip
 refine w_impl_planOf_1 (by simp) ?_
 unfold b_impl_planOf_1
 simp -implicitDefEqProofs only [go_sem, hl0, hw0, h2, hi, Int.ofNat_lt, Int.natCast_nonneg]
 intro b4 hb_b4 n_b4
 have y1 : (ba = b4) = False := eq_false fun e => by rw [e, n_b4] at hga; cases hga
 have y2 : (bs = b4) = False := eq_false fun e => by rw [e, n_b4] at hgs; cases hgs
 have y3 : (bl = b4) = False := eq_false fun e => by rw [e, n_b4] at hgl; cases hgl
 have e2 := ldc_sub (Sub.set (Sub.refl h) n_b4 ⟨[i64 i], 1⟩) e1
 simp -implicitDefEqProofs only [go_sem, ldc_get hga, y1, e2, hl0, hw0, h2, hi, Int.ofNat_lt, Int.natCast_nonneg, hb_b4]
 intro b6 hb_b6 m0_b6
 obtain ⟨z_b6_b4, y_b6_b4, n_b6⟩ := fne m0_b6
 simp only [H.set_base] at hb_b6
 have u2 : (bs = b6) = False := eq_false fun e => by rw [e, n_b6] at hgs; cases hgs
 have u3 : (bl = b6) = False := eq_false fun e => by rw [e, n_b6] at hgl; cases hgl
 have u1 : (ba = b6) = False := eq_false fun e => by rw [e, n_b6] at hga; cases hga
 have hmf := mfind_stm w[i].dst st 0
 by_cases hd : w[i].dst ∈ st
 ·rw [if_pos hd] at hmf
  simp -implicitDefEqProofs only [go_sem, ldc_get hgs, y2, u2, asM_mk, set_mp, hm, hmf, hl0, hw0, h2, hi, Int.ofNat_lt, Int.natCast_nonneg, hb_b4, hb_b6, z_b6_b4, y_b6_b4]
  exact ⟨(((Ext.refl _).set' n_b4 _).set' n_b6 _), by simp [hd]⟩
 ·rw [if_neg hd] at hmf
  simp -implicitDefEqProofs only [go_sem, ldc_get hgs, y2, u2, asM_mk, set_mp, hm, hmf, ldc_get hgl, y3, u3, hl0, hw0, h2, hi, Int.ofNat_lt, Int.natCast_nonneg, hb_b4, hb_b6, z_b6_b4, y_b6_b4]
  refine PC.use (cfNat_pc (h := (h.set b4 ⟨[i64 i], 1⟩).set b6 ⟨[i64 w[i].dst], 1⟩) (l := left) (p := fun k => decide (k ≠ i) && readsB (stAt w k) w[i].dst) (n := 206) (caps := [ptr b4 0, ptr ba 0, ptr b6 0]) (hl.ext (((Ext.refl _).set' n_b4 _).set' n_b6 _)) hn (fun k hk => planOf11_pc (va := .slice a w.length c) ?_ ?_ ?_ (hv.ext (((Ext.refl _).set' n_b4 _).set' n_b6 _)) (hb k hk))) ?_
  ·simp -implicitDefEqProofs only [go_sem, hl0, hw0, h2, hi, Int.ofNat_lt, Int.natCast_nonneg, hb_b4, hb_b6, z_b6_b4, y_b6_b4]
  ·simp -implicitDefEqProofs only [go_sem, ldc_get hga, y1, u1, hl0, hw0, h2, hi, Int.ofNat_lt, Int.natCast_nonneg, hb_b4, hb_b6, z_b6_b4, y_b6_b4]
  ·simp -implicitDefEqProofs only [go_sem, hl0, hw0, h2, hi, Int.ofNat_lt, Int.natCast_nonneg, hb_b4, hb_b6, z_b6_b4, y_b6_b4]
  simp -implicitDefEqProofs only [go_sem, hl0, hw0, h2, hi, Int.ofNat_lt, Int.natCast_nonneg, hb_b4, hb_b6, z_b6_b4, y_b6_b4]
  exact ⟨(((Ext.refl _).set' n_b4 _).set' n_b6 _), by simp [hd]⟩
end Go.Proofs.YthjbhdmjfakfaaaGreatDoor
namespace Go.Proofs.YthjbhdmjfakfaaaGreatDoor
open Go.KH

end Go.Proofs.YthjbhdmjfakfaaaGreatDoor
namespace Go.Proofs.YthjbhdmjfakfaaaGreatDoor
open Go.KH

end Go.Proofs.YthjbhdmjfakfaaaGreatDoor