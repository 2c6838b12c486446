/- A helper of this seat's claims (contracts of the functions): what it shows is shown for every input that its statements name, on no other condition. -/
import Derived.Test.YthjbhdmjfakfaaaGreatDoorMC13b
import Derived.Test.YthjbhdmjfakfaaaGreatDoorKD
set_option linter.unusedVariables false
set_option linter.unusedSimpArgs false
set_option maxRecDepth 100000
namespace Go.Proofs.YthjbhdmjfakfaaaGreatDoor
open Go.KH

def b_impl_Flash_has : C := (jo [⟨(some 2), none, .box (.t 0)⟩, q 4 (.mv (.c (.bool false)))]
 (jo [jm 5 1, jf 6 0 2, jl 7 6, jc 8 35 [(.t 7)], jk 9 .sub 8 1, jc 10 140 [(.t 5), (.c (i64 0)), (.t 9)], jm 4 10]
 .ret))
theorem w_impl_Flash_has : Wk Tryz.prog 167 11 [.tmp 4] b_impl_Flash_has := Wk.of mixedOrders Tryz.func167 (by kernel_rfl) (by kernel_rfl)

theorem has_pc {h : H} {vs vd : Value} {f : UFlash} {n : Int} (hv : FlR h f vs vd) (hs : f.sec.length ≤ 1048576) : PC Tryz.prog 167 [.agg #[vs, vd], i64 n] h (.bool (decide (0 ≤ n ∧ n ≤ (f.sec.length : Int) - 1))) := by
 obtain ⟨a, c, a', c', rfl, rfl⟩ := hv.shape
 refine PC_of ?_
 refine w_impl_Flash_has (by simp) ?_
 unfold b_impl_Flash_has
 simp -implicitDefEqProofs only [go_sem]
 intro b1 hb_b1 n_b1
 simp -implicitDefEqProofs only [go_sem, hb_b1]
 refine (sizeStr_pc (hv.1.ext ((Ext.refl _).set' n_b1 _))).use ?_
 simp -implicitDefEqProofs only [go_sem, wrap_i64 (show -(9223372036854775808 : Int) ≤ ((f.sec.length : Int) - 1) by omega) (show ((f.sec.length : Int) - 1) < 9223372036854775808 by omega), hb_b1]
 refine (within_pc _ _ _ _).use ?_
 simp -implicitDefEqProofs only [go_sem, hb_b1]
 exact ((Ext.refl _).set' n_b1 _)
def b_slices_IndexFunc_impl_Dirty_impl_Dirty : C := (jo [q 4 (.mv (.c (i64 0)))]
 (.seq (jo [jm 6 0, q 7 (.len (.t 6)), q 8 (.mv (.c (i64 0)))]
 (.block 0 (.loop (jo [jb 9 .lss 8 7]
 (.seq (.cond (.t 9) .skip (.exit 0))
 (.seq (.block 1 (jo [jm 10 8, jm 5 10]
 (jo [jm 11 1, jm 12 0, jm 13 5, q 14 (.idx 2 (.t 12) (.t 13)), jd 15 2 14, ⟨(some 16), none, .call (.t 11) [(.t 15)]⟩]
 (.cond (.t 16) (jo [jm 17 5, jm 4 17]
 .ret) .skip))))
 (.ops [jk 18 .add 8 1, jm 8 18])))))))
 (jo [q 4 (.mv (.c (i64 (-1))))]
 .ret)))
theorem w_slices_IndexFunc_impl_Dirty_impl_Dirty : Wk Tryz.prog 232 19 [.tmp 4] b_slices_IndexFunc_impl_Dirty_impl_Dirty := Wk.of mixedOrders Tryz.func232 (by kernel_rfl) (by kernel_rfl)

theorem indexDirty_pc {h : H} {v : Value} {l : List UDirty} {p : UDirty → Bool} {n : Nat} {caps : List Value} (hv : Sl h v 2 (l.map UDirty.cells)) (hn : l.length ≤ 1048576) (hc : ∀ x, x ∈ l → PC Tryz.prog n (.agg x.cells.toArray :: caps) h (.bool (p x))) :
  PC Tryz.prog 232 [v, .func (.func n) #[] caps.toArray] h (i64 (firstAt p l)) :=
 w_slices_IndexFunc_impl_Dirty_impl_Dirty (by simp) (if_wpc hv hn hc ⟨rfl, rfl⟩)
def b_impl_Flash_dirty_1 : C := (jo [⟨(some 2), none, .box (.t 0)⟩, q 3 (.mv (.c (.bool false)))]
 (jo [jf 4 0 2, jl 5 4, jl 6 1, jb 7 .eql 5 6, jm 3 7]
 .ret))
theorem w_impl_Flash_dirty_1 : Wk Tryz.prog 233 8 [.tmp 3] b_impl_Flash_dirty_1 := Wk.of mixedOrders Tryz.func233 (by kernel_rfl) (by kernel_rfl)

theorem dirty1_pc {h : H} {x : UDirty} {b : Nat} {n : Int} (hb : ldc h b 0 1 = some [i64 n]) : PC Tryz.prog 233 [.agg x.cells.toArray, ptr b 0] h (.bool (isAt n x)) := by
 refine PC_of ?_
 have hk : ∀ {c : Nat} {ob : Ob}, h.get c = none → ldc (h.set c ob) b 0 1 = some [i64 n] := fun hn => ldc_sub (Sub.set (Sub.refl h) hn _) hb
 unfold isAt
 refine w_impl_Flash_dirty_1 (by simp) ?_
 unfold b_impl_Flash_dirty_1
 simp -implicitDefEqProofs only [go_sem]
 intro b1 hb1 n1
 simp -implicitDefEqProofs only [go_sem, hk n1]
 exact (Ext.refl h).set n1 _
def b_impl_Flash_dirty : C := (jo [⟨(some 2), none, .box (.t 0)⟩, ⟨(some 3), none, .box (.t 1)⟩, q 4 (.mv (.c (i64 0)))]
 (jo [jf 5 1 2, jl 6 5, q 7 (.mkf 233 [(.t 3)]), jc 8 232 [(.t 6), (.t 7)], jm 4 8]
 .ret))
theorem w_impl_Flash_dirty : Wk Tryz.prog 215 9 [.tmp 4] b_impl_Flash_dirty := Wk.of mixedOrders Tryz.func215 (by kernel_rfl) (by kernel_rfl)

theorem dirty_pc {h : H} {vs vd : Value} {f : UFlash} {n : Int} (hv : FlR h f vs vd) (hs : f.dirty.length ≤ 1048576) : PC Tryz.prog 215 [.agg #[vs, vd], i64 n] h (i64 (firstAt (isAt n) f.dirty)) := by
 obtain ⟨a, c, a', c', rfl, rfl⟩ := hv.shape
 refine PC_of ?_
 refine w_impl_Flash_dirty (by simp) ?_
 unfold b_impl_Flash_dirty
 simp -implicitDefEqProofs only [go_sem]
 intro b1 hb_b1 n_b1
 simp -implicitDefEqProofs only [go_sem, hb_b1]
 intro b2 hb_b2 m0_b2
 obtain ⟨z_b2_b1, y_b2_b1, n_b2⟩ := fne m0_b2
 simp only [H.set_base] at hb_b2
 simp -implicitDefEqProofs only [go_sem, hb_b1, hb_b2, z_b2_b1, y_b2_b1]
 refine (indexDirty_pc (caps := [ptr b2 0]) (hv.2.ext (((Ext.refl _).set' n_b1 _).set' n_b2 _)) hs (fun x hx => dirty1_pc (n := n) (by rw [ldc_get (H.set_get_same _ _ _)]; rfl))).use ?_
 simp -implicitDefEqProofs only [go_sem, hb_b1, hb_b2, z_b2_b1, y_b2_b1]
 exact (((Ext.refl _).set' n_b1 _).set' n_b2 _)
def b_impl_Flash_read : C := (jo [⟨(some 2), none, .box (.t 0)⟩, q 4 (.mv (.c (str [])))]
 (.seq (jo [jd 6 2 2, jm 7 1, jc 8 215 [(.t 6), (.t 7)], jm 5 8]
 (jo [jm 9 5, jk 10 .geq 9 0]
 (.cond (.t 10) (jo [jf 11 1 2, jl 12 11, jm 13 5, q 14 (.idx 2 (.t 12) (.t 13)), jf 15 1 14, jl 16 15, jm 4 16]
 .ret) .skip)))
 (jo [jf 17 0 2, jl 18 17, jm 19 1, q 20 (.idx 1 (.t 18) (.t 19)), jl 21 20, jm 4 21]
 .ret)))
theorem w_impl_Flash_read : Wk Tryz.prog 166 22 [.tmp 4] b_impl_Flash_read := Wk.of mixedOrders Tryz.func166 (by kernel_rfl) (by kernel_rfl)

theorem read_pc {h : H} {vs vd : Value} {f : UFlash} {n : Int} (hv : FlR h f vs vd) (hs : f.dirty.length ≤ 1048576) (hn : 0 ≤ n ∧ n < f.sec.length) : PC Tryz.prog 166 [.agg #[vs, vd], i64 n] h (str (flashGet f n)) := by
 have hv0 := hv
 obtain ⟨a, c, a', c', rfl, rfl⟩ := hv.shape
 obtain ⟨⟨_, _, b, o, e, hc, r2, r3⟩, ⟨_, _, b', o', e', hc', q2, q3⟩⟩ := hv
 have l1 : (sects f.sec).length = f.sec.length := by simp
 have l2 : (f.dirty.map UDirty.cells).length = f.dirty.length := by simp
 rw [l1] at e r2
 rw [l2] at e' q2
 simp only [Value.slice.injEq, true_and] at e e'
 obtain ⟨rfl, rfl⟩ := e
 obtain ⟨rfl, rfl⟩ := e'
 refine PC_of ?_
 refine w_impl_Flash_read (by simp) ?_
 unfold b_impl_Flash_read
 simp -implicitDefEqProofs only [go_sem]
 intro b1 hb_b1 n_b1
 simp -implicitDefEqProofs only [go_sem, hb_b1]
 refine (dirty_pc (hv0.ext ((Ext.refl _).set' n_b1 _)) hs).use ?_
 have hg : (h.set b1 ⟨[.slice a f.sec.length c, .slice a' f.dirty.length c'], 2⟩).get b1 = some ⟨[.slice a f.sec.length c, .slice a' f.dirty.length c'], 2⟩ := H.set_get_same _ _ _
 have ex := (Ext.refl h).set n_b1 ⟨[.slice a f.sec.length c, .slice a' f.dirty.length c'], 2⟩
 by_cases h0 : 0 ≤ firstAt (isAt n) f.dirty
 ·obtain ⟨k, hk, he, hp, hno⟩ := firstAt_get h0
  have d1 := ldc_sub ex.2 (ldc_part (q3 k (f.dirty[k]).cells (by simp [hk])) 1 1 (by omega))
  have hget : flashGet f n = f.dirty[k].data := flashGet_dirty hk (by simpa [isAt] using hp) (fun i hi => by simpa [isAt] using hno i hi)
  rw [he, hget]
  simp -implicitDefEqProofs only [go_sem, Int.natCast_nonneg, Int.ofNat_lt, hk, q2, d1, hb_b1]
  exact ex
 ·have h1 : ∀ i, (hi : i < f.dirty.length) → f.dirty[i].place ≠ n := fun i hi e => by
   have := firstAt_le (isAt n) f.dirty
   have h2 : firstAt (isAt n) f.dirty = -1 := by omega
   unfold firstAt at h2
   split at h2
   ·omega
   ·rename_i h3
    have := List.findIdx?_eq_none_iff.1 h3 f.dirty[i] (List.getElem_mem hi)
    simp [isAt, e] at this
  rw [flashGet_clean h1]
  obtain ⟨m, rfl⟩ : ∃ m : Nat, n = m := ⟨n.toNat, by omega⟩
  have hm : m < f.sec.length := by omega
  have d1 := ldc_sub ex.2 (r3 m [str f.sec[m]] (by simp [hm]))
  simp -implicitDefEqProofs only [go_sem, h0, Int.natCast_nonneg, Int.ofNat_lt, hm, r2, d1, hb_b1]
  exact ⟨ex, by simp [hm]⟩
theorem firstAt_of {α : Type} {p : α → Bool} {l : List α} {k : Nat} (hk : k < l.length) (h : p l[k] = true) : 0 ≤ firstAt p l := by
 have h1 := firstAt_le p l
 by_cases h0 : 0 ≤ firstAt p l
 ·exact h0
 have h2 : firstAt p l = -1 := by omega
 unfold firstAt at h2
 split at h2
 ·omega
 ·rename_i h3
  have := List.findIdx?_eq_none_iff.1 h3 l[k] (List.getElem_mem hk)
  rw [h] at this; cases this
def b_impl_isFlash_1 : C := (jo [q 2 (.mv (.c (.bool false)))]
 (jo [jm 3 0, q 4 (.slen (.t 3)), jk 5 .gtr 4 96, jm 2 5]
 .ret))
theorem w_impl_isFlash_1 : Wk Tryz.prog 218 6 [.tmp 2] b_impl_isFlash_1 := Wk.of mixedOrders Tryz.func218 (by kernel_rfl) (by kernel_rfl)

theorem isFlash1_pc (h : H) (s : List UInt8) : PC Tryz.prog 218 [str s] h (.bool (decide (96 < s.length))) := by
 refine w_impl_isFlash_1 (by simp) ?_
 unfold b_impl_isFlash_1
 simp -implicitDefEqProofs only [go_sem]
 exact bool_eq (by omega)
def b_impl_isFlash : C := (jo [⟨(some 1), none, .box (.t 0)⟩, q 2 (.mv (.c (.bool false)))]
 (.seq (jo [jf 5 0 1, jl 6 5, jc 7 35 [(.t 6)], jc 8 140 [(.t 7), (.c (i64 1)), (.c (i64 40))], q 9 (.un .not (.t 8)), jm 10 9, qg 11 10 false (.fld 1 (.t 1)), qg 12 10 false (.ld false 1 (.t 11)), qg 13 10 false (.len (.t 12)), qg 14 10 false (.fld 0 (.t 1)), qg 15 10 false (.ld false 1 (.t 14)), qg 16 10 false (.len (.t 15)), qg 17 10 false (.bin .gtr (.t 13) (.t 16)), q 18 (.pick (.t 10) (.c (.bool true)) (.t 17)), jm 19 18, qg 20 19 false (.fld 0 (.t 1)), qg 21 19 false (.ld false 1 (.t 20)), ⟨(some 22), (some (19, false)), .call (.c (.func (.func 85) #[] #[])) [(.t 21), (.c (.func (.func 218) #[] #[]))]⟩, q 23 (.pick (.t 19) (.c (.bool true)) (.t 22))]
 (.cond (.t 23) (jo [q 2 (.mv (.c (.bool false)))]
 .ret) .skip))
 (.seq (jo [jf 24 1 1, jl 25 24, q 26 (.len (.t 25)), q 27 (.mv (.c (i64 0)))]
 (.block 0 (.loop (jo [jb 28 .lss 27 26]
 (.seq (.cond (.t 28) .skip (.exit 0))
 (.seq (.block 1 (jo [jm 29 27, q 30 (.idx 2 (.t 25) (.t 27)), jd 31 2 30, ⟨(some 4), none, .alloc [(i64 0), (str [])]⟩, jm 3 29, js 2 4 31]
 (jo [jd 32 2 1, jf 33 0 4, jl 34 33, jc 35 167 [(.t 32), (.t 34)], q 36 (.un .not (.t 35)), jm 37 36, qg 38 37 false (.fld 1 (.t 4)), qg 39 37 false (.ld false 1 (.t 38)), qg 40 37 false (.slen (.t 39)), qg 41 37 false (.bin .gtr (.t 40) (.c (i64 96))), q 42 (.pick (.t 37) (.c (.bool true)) (.t 41)), jm 43 42, qg 44 43 false (.ld true 2 (.t 1)), qg 45 43 false (.fld 0 (.t 4)), qg 46 43 false (.ld false 1 (.t 45)), jcg 47 43 false 215 [(.t 44), (.t 46)], qg 48 43 false (.mv (.t 3)), qg 49 43 false (.bin .lss (.t 47) (.t 48)), q 50 (.pick (.t 43) (.c (.bool true)) (.t 49))]
 (.cond (.t 50) (jo [q 2 (.mv (.c (.bool false)))]
 .ret) .skip))))
 (.ops [jk 51 .add 27 1, jm 27 51])))))))
 (jo [q 2 (.mv (.c (.bool true)))]
 .ret))))
theorem w_impl_isFlash : Wk Tryz.prog 161 52 [.tmp 2] b_impl_isFlash := Wk.of mixedOrders Tryz.func161 (by kernel_rfl) (by kernel_rfl)

set_option maxHeartbeats 1600000 in
theorem isFlash_pc {h : H} {vs vd : Value} {f : UFlash} (hv : FlR h f vs vd) (hs : f.fin1) : PC Tryz.prog 161 [.agg #[vs, vd]] h (.bool (decide (flashOk f))) := by
 have hv0 := hv
 obtain ⟨a, c, a', c', rfl, rfl⟩ := hv.shape
 obtain ⟨s1, ⟨_, _, b', o', e', hc', q2, q3⟩⟩ := hv
 have l2 : (f.dirty.map UDirty.cells).length = f.dirty.length := by simp
 rw [l2] at e' q2
 simp only [Value.slice.injEq, true_and] at e'
 obtain ⟨rfl, rfl⟩ := e'
 obtain ⟨hs1, hs2⟩ := hs
 refine PC_of ?_
 refine w_impl_isFlash (by simp) ?_
 unfold b_impl_isFlash
 simp -implicitDefEqProofs only [go_sem]
 intro b1 hb_b1 n_b1
 simp -implicitDefEqProofs only [go_sem, hb_b1]
 have hg : (h.set b1 ⟨[.slice a f.sec.length c, .slice a' f.dirty.length c'], 2⟩).get b1 = some ⟨[.slice a f.sec.length c, .slice a' f.dirty.length c'], 2⟩ := H.set_get_same _ _ _
 have ex := (Ext.refl h).set n_b1 ⟨[.slice a f.sec.length c, .slice a' f.dirty.length c'], 2⟩
 refine (sizeStr_pc (s1.ext ex)).use ?_
 simp -implicitDefEqProofs only [go_sem, hb_b1]
 refine (within_pc _ _ _ _).use ?_
 by_cases p1 : 1 ≤ (f.sec.length : Int) ∧ (f.sec.length : Int) ≤ 40
 rotate_left
 ·simp -implicitDefEqProofs only [go_sem, p1, hb_b1]
  exact ⟨ex, dec_f fun h => p1 (by have := h.1; omega)⟩
 by_cases p2 : (f.sec.length : Int) < (f.dirty.length : Int)
 ·simp -implicitDefEqProofs only [go_sem, p1, p2, hb_b1]
  exact ⟨ex, dec_f fun h => by have := h.2.1; omega⟩
 simp -implicitDefEqProofs only [go_sem, p1, p2, hb_b1]
 refine (containsStr_pc (caps := []) (s1.ext ex) hs1 (fun x _ => isFlash1_pc _ x)).use ?_
 by_cases p3 : ∀ s ∈ f.sec, s.length ≤ 96
 rotate_left
 ·have : f.sec.any (fun s => decide (96 < s.length)) = true := by
   rw [List.any_eq_true]
   obtain ⟨x, hx⟩ := Classical.not_forall.1 p3
   obtain ⟨hx, hy⟩ := Classical.not_imp.1 hx
   exact ⟨x, hx, by simp; omega⟩
  rw [this]
  simp -implicitDefEqProofs only [go_sem, p1, p2, hb_b1]
  exact ⟨ex, dec_f fun h => p3 h.2.2.1⟩
 have hany : f.sec.any (fun s => decide (96 < s.length)) = false := by
  rw [List.any_eq_false]; intro x hx; have := p3 x hx; simp; omega
 rw [hany]
 simp -implicitDefEqProofs only [go_sem, p1, p2, hb_b1]
 generalize hX : h.set b1 ⟨[.slice a f.sec.length c, .slice a' f.dirty.length c'], 2⟩ = hx at ex hg ⊢
 refine loopW_of (fun m f1 h' => ∃ k, m + k = f.dirty.length ∧ h' = hx ∧ f1 1 = ptr b1 0 ∧ f1 25 = .slice a' f.dirty.length c' ∧ f1 26 = i64 f.dirty.length ∧ f1 27 = i64 k ∧ ∀ i, (hi : i < f.dirty.length) → i < k → dirtyAt f i hi) f.dirty.length
  ⟨0, by simp, rfl, by simp -implicitDefEqProofs only [go_sem, hb_b1], by simp -implicitDefEqProofs only [go_sem, hb_b1], by simp -implicitDefEqProofs only [go_sem, hb_b1], by simp -implicitDefEqProofs only [go_sem, hb_b1]; rfl, by omega⟩ ?_
 rintro m f1 h' ⟨k, hm, hh, f01, f25, f26, f27, hok⟩
 have hh := hh.symm
 subst hh
 skip
 by_cases hk : k < f.dirty.length
 ·have d1 := ldc_sub ex.2 (q3 k (f.dirty[k]).cells (by simp [hk]))
  simp -implicitDefEqProofs only [go_sem, f01, f25, f26, f27, Int.ofNat_lt, Int.natCast_nonneg, hk, q2, d1]
  intro b4 hb4 n4
  have z41 : (b1 = b4) = False := eq_false fun e => by rw [← e, hg] at n4; cases n4
  have y41 : (b4 = b1) = False := eq_false fun e => (of_eq_false z41) e.symm
  have e4 := ex.set n4 ⟨(f.dirty[k]).cells, 2⟩
  skip
  simp -implicitDefEqProofs only [go_sem, f01, f25, f26, f27, hb4, z41, y41, ldc_get hg]
  refine (has_pc (hv0.ext e4) hs1).use ?_
  by_cases p4 : 0 ≤ f.dirty[k].place ∧ f.dirty[k].place ≤ (f.sec.length : Int) - 1
  rotate_left
  ·simp -implicitDefEqProofs only [go_sem, p4, f01, f25, f26, f27, hb4, z41, y41, ldc_get hg]
   exact ⟨e4, dec_f fun h => p4 (h.2.2.2 k hk).1⟩
  by_cases p5 : (96 : Int) < (f.dirty[k].data.length : Int)
  ·simp -implicitDefEqProofs only [go_sem, p4, p5, f01, f25, f26, f27, hb4, z41, y41, ldc_get hg]
   exact ⟨e4, dec_f fun h => by have := (h.2.2.2 k hk).2.1; omega⟩
  simp -implicitDefEqProofs only [go_sem, p4, p5, f01, f25, f26, f27, hb4, z41, y41, ldc_get hg]
  refine (dirty_pc (hv0.ext e4) hs2).use ?_
  have hat : isAt f.dirty[k].place f.dirty[k] = true := by simp [isAt]
  by_cases p6 : firstAt (isAt f.dirty[k].place) f.dirty < k
  ·simp -implicitDefEqProofs only [go_sem, p4, p5, p6, f01, f25, f26, f27, hb4, z41, y41, ldc_get hg]
   refine ⟨e4, dec_f fun h => ?_⟩
   have h0 := firstAt_of hk hat
   obtain ⟨j, hj, he, hp, _⟩ := firstAt_get h0
   rw [he] at p6
   exact (h.2.2.2 k hk).2.2 j (by omega) (by simpa [isAt] using hp)
  ·simp -implicitDefEqProofs only [go_sem, p4, p5, p6, wrap_i64 (show -(9223372036854775808 : Int) ≤ ((k : Int) + 1) by omega) (show ((k : Int) + 1) < 9223372036854775808 by omega), f01, f25, f26, f27, hb4, z41, y41, ldc_get hg]
   refine ⟨m - 1, by omega, _, (Ext.refl _).set n4 _, k + 1, by omega, rfl, rfl, fun i hi1 hi2 => ?_⟩
   by_cases e : i = k
   ·subst e
    refine ⟨p4, by omega, fun j hj he => p6 ?_⟩
    have h0 := firstAt_of hi1 hat
    obtain ⟨q, hq, he2, hp, hno⟩ := firstAt_get h0
    rw [he2]
    rcases Nat.lt_or_ge q i with h1 | h1
    ·omega
    ·have := hno j (by omega)
     simp [isAt, he] at this
   ·exact hok i hi1 (by omega)
 ·have e : k = f.dirty.length := by omega
  subst e
  skip
  simp -implicitDefEqProofs only [go_sem, f26, f27, Int.ofNat_lt, Nat.lt_irrefl, ldc_get hg]
  exact ⟨ex, dec_t ⟨by omega, by omega, p3, fun i hi => hok i hi hi⟩⟩
end Go.Proofs.YthjbhdmjfakfaaaGreatDoor
namespace Go.Proofs.YthjbhdmjfakfaaaGreatDoor
open Go.KH

def b_spec_l03Get : C := (jo [⟨(some 2), none, .box (.t 0)⟩, q 4 (.mv (.c (str [])))]
 (.seq (jo [q 5 (.mv (.c (i64 0)))]
 (.block 0 (.loop (.seq (jo [jm 6 5, jf 7 1 2, jl 8 7, q 9 (.len (.t 8)), jb 10 .lss 6 9]
 (.cond (.t 10) .skip (.exit 0)))
 (.seq (.block 1 (jo [jf 13 1 2, jl 14 13, jm 15 5, q 16 (.idx 2 (.t 14) (.t 15)), jf 17 0 16, jl 18 17, jm 19 1, jb 20 .eql 18 19]
 (.cond (.t 20) (jo [jf 21 1 2, jl 22 21, jm 23 5, q 24 (.idx 2 (.t 22) (.t 23)), jf 25 1 24, jl 26 25, jm 4 26]
 .ret) .skip)))
 (.ops [jm 11 5, jk 12 .add 11 1, jm 5 12]))))))
 (jo [jf 27 0 2, jl 28 27, jm 29 1, q 30 (.idx 1 (.t 28) (.t 29)), jl 31 30, jm 4 31]
 .ret)))
theorem w_spec_l03Get : Wk Tryz.prog 201 32 [.tmp 4] b_spec_l03Get := Wk.of mixedOrders Tryz.func201 (by kernel_rfl) (by kernel_rfl)

theorem l03Get_pc {h : H} {vs vd : Value} {f : UFlash} {n : Int} (hv : FlR h f vs vd) (hs : f.dirty.length ≤ 1048576) (hn : 0 ≤ n ∧ n < f.sec.length) : PC Tryz.prog 201 [.agg #[vs, vd], i64 n] h (str (flashGet f n)) := by
 have hv0 := hv
 obtain ⟨a, c, a', c', rfl, rfl⟩ := hv.shape
 obtain ⟨⟨_, _, b, o, e, hc, r2, r3⟩, ⟨_, _, b', o', e', hc', q2, q3⟩⟩ := hv
 have l1 : (sects f.sec).length = f.sec.length := by simp
 have l2 : (f.dirty.map UDirty.cells).length = f.dirty.length := by simp
 rw [l1] at e r2
 rw [l2] at e' q2
 simp only [Value.slice.injEq, true_and] at e e'
 obtain ⟨rfl, rfl⟩ := e
 obtain ⟨rfl, rfl⟩ := e'
 refine PC_of ?_
 refine w_spec_l03Get (by simp) ?_
 unfold b_spec_l03Get
 simp -implicitDefEqProofs only [go_sem]
 intro b1 hb_b1 n_b1
 simp -implicitDefEqProofs only [go_sem, hb_b1]
 have hg : (h.set b1 ⟨[.slice a f.sec.length c, .slice a' f.dirty.length c'], 2⟩).get b1 = some ⟨[.slice a f.sec.length c, .slice a' f.dirty.length c'], 2⟩ := H.set_get_same _ _ _
 have ex := (Ext.refl h).set n_b1 ⟨[.slice a f.sec.length c, .slice a' f.dirty.length c'], 2⟩
 generalize hX : h.set b1 ⟨[.slice a f.sec.length c, .slice a' f.dirty.length c'], 2⟩ = hx at ex hg ⊢
 refine loopW_of (fun m f1 h' => ∃ k, m + k = f.dirty.length ∧ h' = hx ∧ f1 2 = ptr b1 0 ∧ f1 1 = i64 n ∧ f1 5 = i64 k ∧ ∀ i, (hi : i < f.dirty.length) → i < k → f.dirty[i].place ≠ n) f.dirty.length
  ⟨0, by simp, rfl, by simp -implicitDefEqProofs only [go_sem, hb_b1], by simp -implicitDefEqProofs only [go_sem, hb_b1], by simp -implicitDefEqProofs only [go_sem, hb_b1]; rfl, by omega⟩ ?_
 rintro m f1 h' ⟨k, hm, hh, f02, f01, f05, hok⟩
 have hh := hh.symm
 subst hh
 skip
 by_cases hk : k < f.dirty.length
 ·have d1 := ldc_sub ex.2 (q3 k (f.dirty[k]).cells (by simp [hk]))
  have e1 := ldc_part d1 0 1 (by omega)
  have e2 := ldc_part d1 1 1 (by omega)
  simp only [List.drop_zero, List.drop_succ_cons, List.take_succ_cons, List.take_zero, Nat.add_zero] at e1 e2
  skip
  by_cases p : f.dirty[k].place = n
  ·simp -implicitDefEqProofs only [go_sem, decide_eq_true p, f02, f01, f05, ldc_get hg, Int.ofNat_lt, Int.natCast_nonneg, hk, q2, e1, e2]
   exact ⟨ex, by rw [flashGet_dirty hk p (fun i hi => hok i (by omega) hi)]⟩
  ·simp -implicitDefEqProofs only [go_sem, p, wrap_i64 (show -(9223372036854775808 : Int) ≤ ((k : Int) + 1) by omega) (show ((k : Int) + 1) < 9223372036854775808 by omega), f02, f01, f05, ldc_get hg, Int.ofNat_lt, Int.natCast_nonneg, hk, q2, e1, e2]
   refine ⟨m - 1, by omega, _, Ext.refl _, k + 1, by omega, rfl, rfl, fun i hi1 hi2 => ?_⟩
   by_cases e : i = k
   ·subst e; exact p
   ·exact hok i hi1 (by omega)
 ·have e : k = f.dirty.length := by omega
  subst e
  obtain ⟨m', rfl⟩ : ∃ m' : Nat, n = m' := ⟨n.toNat, by omega⟩
  have hm' : m' < f.sec.length := by omega
  have d1 := ldc_sub ex.2 (r3 m' [str f.sec[m']] (by simp [hm']))
  skip
  simp -implicitDefEqProofs only [go_sem, f02, f01, f05, ldc_get hg, Nat.lt_irrefl, r2, hm', d1, f02, f01, f05, ldc_get hg, Int.ofNat_lt, Int.natCast_nonneg, q2]
  exact ⟨ex, by rw [flashGet_clean (fun i hi => hok i hi hi)]; simp [hm']⟩
def b_spec_FlashRight : C := (jo [⟨(some 1), none, .box (.t 0)⟩, q 2 (.mv (.c (.bool false)))]
 (.seq (jo [jf 6 0 1, jl 7 6, q 8 (.len (.t 7)), jk 9 .lss 8 1, jm 10 9, qg 11 10 false (.fld 0 (.t 1)), qg 12 10 false (.ld false 1 (.t 11)), qg 13 10 false (.len (.t 12)), qg 14 10 false (.bin .gtr (.t 13) (.c (i64 40))), q 15 (.pick (.t 10) (.c (.bool true)) (.t 14)), jm 16 15, qg 17 16 false (.fld 1 (.t 1)), qg 18 16 false (.ld false 1 (.t 17)), qg 19 16 false (.len (.t 18)), qg 20 16 false (.fld 0 (.t 1)), qg 21 16 false (.ld false 1 (.t 20)), qg 22 16 false (.len (.t 21)), qg 23 16 false (.bin .gtr (.t 19) (.t 22)), q 24 (.pick (.t 16) (.c (.bool true)) (.t 23))]
 (.cond (.t 24) (jo [q 2 (.mv (.c (.bool false)))]
 .ret) .skip))
 (.seq (jo [q 3 (.mv (.c (i64 0)))]
 (.block 0 (.loop (.seq (jo [jm 25 3, jf 26 0 1, jl 27 26, q 28 (.len (.t 27)), jb 29 .lss 25 28]
 (.cond (.t 29) .skip (.exit 0)))
 (.seq (.block 1 (jo [jf 32 0 1, jl 33 32, jm 34 3, q 35 (.idx 1 (.t 33) (.t 34)), jl 36 35, q 37 (.slen (.t 36)), jk 38 .gtr 37 96]
 (.cond (.t 38) (jo [q 2 (.mv (.c (.bool false)))]
 .ret) .skip)))
 (.ops [jm 30 3, jk 31 .add 30 1, jm 3 31]))))))
 (.seq (jo [q 4 (.mv (.c (i64 0)))]
 (.block 2 (.loop (.seq (jo [jm 39 4, jf 40 1 1, jl 41 40, q 42 (.len (.t 41)), jb 43 .lss 39 42]
 (.cond (.t 43) .skip (.exit 2)))
 (.seq (.block 3 (.seq (.seq (.dops true (.tk (jf 46 1 1) (.tk (jl 47 46) (.tk (jm 48 4) (.tk (q 49 (.idx 2 (.t 47) (.t 48))) (.tk (jf 50 0 49) (.tk (jl 51 50) (.tk (jf 52 0 1) (.tk (jl 53 52) (.tk (q 54 (.len (.t 53))) (.tk (jk 55 .sub 54 1) (.sq (jc 56 118 [(.t 51), (.c (i64 0)), (.t 55)]) (.tk (q 57 (.un .not (.t 56))) (.tk (jm 58 57) (.tk (qg 59 58 false (.fld 1 (.t 1))) (.tk (qg 60 58 false (.ld false 1 (.t 59))) (.tk (qg 61 58 false (.mv (.t 4))) (.tk (qg 62 58 false (.idx 2 (.t 60) (.t 61))) (.tk (qg 63 58 false (.fld 1 (.t 62))) (.tk (qg 64 58 false (.ld false 1 (.t 63))) (.tk (qg 65 58 false (.slen (.t 64))) (.tk (qg 66 58 false (.bin .gtr (.t 65) (.c (i64 96)))) (.tk (q 67 (.pick (.t 58) (.c (.bool true)) (.t 66))) .nil)))))))))))))))))))))))
 (.cond (.t 67) (jo [q 2 (.mv (.c (.bool false)))]
 .ret) .skip))
 (jo [q 5 (.mv (.c (i64 0)))]
 (.block 4 (.loop (.seq (jo [jm 68 5, jm 69 4, jb 70 .lss 68 69]
 (.cond (.t 70) .skip (.exit 4)))
 (.seq (.block 5 (.seq (.dops true (.tk (jf 73 1 1) (.tk (jl 74 73) (.tk (jm 75 5) (.tk (q 76 (.idx 2 (.t 74) (.t 75))) (.tk (jf 77 0 76) (.tk (jl 78 77) (.tk (jf 79 1 1) (.tk (jl 80 79) (.tk (jm 81 4) (.tk (q 82 (.idx 2 (.t 80) (.t 81))) (.tk (jf 83 0 82) (.tk (jl 84 83) (.tk (jb 85 .eql 78 84) .nil))))))))))))))
 (.cond (.t 85) (jo [q 2 (.mv (.c (.bool false)))]
 .ret) .skip)))
 (.ops [jm 71 5, jk 72 .add 71 1, jm 5 72]))))))))
 (.ops [jm 44 4, jk 45 .add 44 1, jm 4 45]))))))
 (jo [q 2 (.mv (.c (.bool true)))]
 .ret)))))
theorem w_spec_FlashRight : Wk Tryz.prog 197 86 [.tmp 2] b_spec_FlashRight := Wk.of mixedOrders Tryz.func197 (by kernel_rfl) (by kernel_rfl)

set_option maxHeartbeats 1600000 in
theorem specFlashRight_pc {h : H} {vs vd : Value} {f : UFlash} (hv : FlR h f vs vd) (hs : f.fin1) : PC Tryz.prog 197 [.agg #[vs, vd]] h (.bool (decide (flashOk f))) := by
 have hv0 := hv
 obtain ⟨a, c, a', c', rfl, rfl⟩ := hv.shape
 obtain ⟨⟨_, _, b, o, e, hc, r2, r3⟩, ⟨_, _, b', o', e', hc', q2, q3⟩⟩ := hv
 have l1 : (sects f.sec).length = f.sec.length := by simp
 have l2 : (f.dirty.map UDirty.cells).length = f.dirty.length := by simp
 rw [l1] at e r2
 rw [l2] at e' q2
 simp only [Value.slice.injEq, true_and] at e e'
 obtain ⟨rfl, rfl⟩ := e
 obtain ⟨rfl, rfl⟩ := e'
 obtain ⟨hs1, hs2⟩ := hs
 refine PC_of ?_
 by_cases p1 : 1 ≤ f.sec.length ∧ f.sec.length ≤ 40
 rotate_left
 ·by_cases p0 : (f.sec.length : Int) < 1
  ·refine w_spec_FlashRight (by simp) ?_
   unfold b_spec_FlashRight
   simp -implicitDefEqProofs only [go_sem, p0]
   intro b1 hb1 n1
   simp -implicitDefEqProofs only [go_sem, p0]
   exact ⟨(Ext.refl h).set n1 _, dec_f fun h => p1 h.1⟩
  ·refine w_spec_FlashRight (by simp) ?_
   unfold b_spec_FlashRight
   simp -implicitDefEqProofs only [go_sem]
   intro b1 hb1 n1
   simp -implicitDefEqProofs only [go_sem, p0, show (40 : Int) < (f.sec.length : Int) by omega]
   exact ⟨(Ext.refl h).set n1 _, dec_f fun h => p1 h.1⟩
 have p1a : ¬ (f.sec.length : Int) < 1 := by omega
 have p1b : ¬ (40 : Int) < (f.sec.length : Int) := by omega
 by_cases p2 : (f.sec.length : Int) < (f.dirty.length : Int)
 ·refine w_spec_FlashRight (by simp) ?_
  unfold b_spec_FlashRight
  simp -implicitDefEqProofs only [go_sem]
  intro b1 hb1 n1
  simp -implicitDefEqProofs only [go_sem, p1a, p1b, p2]
  exact ⟨(Ext.refl h).set n1 _, dec_f fun h => by have := h.2.1; omega⟩
 refine w_spec_FlashRight (by simp) ?_
 unfold b_spec_FlashRight
 simp -implicitDefEqProofs only [go_sem]
 intro b1 hb1 n1
 simp -implicitDefEqProofs only [go_sem, p1a, p1b, p2]
 have hg : (h.set b1 ⟨[.slice a f.sec.length c, .slice a' f.dirty.length c'], 2⟩).get b1 = some ⟨[.slice a f.sec.length c, .slice a' f.dirty.length c'], 2⟩ := H.set_get_same _ _ _
 have ex := (Ext.refl h).set n1 ⟨[.slice a f.sec.length c, .slice a' f.dirty.length c'], 2⟩
 generalize hX : h.set b1 ⟨[.slice a f.sec.length c, .slice a' f.dirty.length c'], 2⟩ = hx at ex hg ⊢
 refine loopW_of (fun m f1 h' => ∃ k, m + k = f.sec.length ∧ h' = hx ∧ f1 1 = ptr b1 0 ∧ f1 3 = i64 k ∧ ∀ i, (hi : i < f.sec.length) → i < k → f.sec[i].length ≤ 96) f.sec.length
  ⟨0, by simp, rfl, by simp -implicitDefEqProofs only [go_sem], by simp -implicitDefEqProofs only [go_sem]; rfl, by omega⟩ ?_
 rintro m f1 h' ⟨k, hm, hh, f01, f03, hok⟩
 have hh := hh.symm
 subst hh
 by_cases hk : k < f.sec.length
 ·have d1 := ldc_sub ex.2 (r3 k [str f.sec[k]] (by simp [hk]))
  by_cases p : (96 : Int) < (f.sec[k].length : Int)
  ·simp -implicitDefEqProofs only [go_sem, f01, f03, ldc_get hg, Int.ofNat_lt, Int.natCast_nonneg, hk, r2, d1, p]
   exact ⟨ex, dec_f fun h => by have := h.2.2.1 _ (List.getElem_mem hk); omega⟩
  ·simp -implicitDefEqProofs only [go_sem, f01, f03, ldc_get hg, Int.ofNat_lt, Int.natCast_nonneg, hk, r2, d1, p, wrap_i64 (show -(9223372036854775808 : Int) ≤ ((k : Int) + 1) by omega) (show ((k : Int) + 1) < 9223372036854775808 by omega)]
   refine ⟨m - 1, by omega, _, Ext.refl _, k + 1, by omega, rfl, rfl, fun i hi1 hi2 => ?_⟩
   by_cases e : i = k
   ·subst e; omega
   ·exact hok i hi1 (by omega)
 have e : k = f.sec.length := by omega
 subst e
 simp -implicitDefEqProofs only [go_sem, f01, f03, ldc_get hg, Int.ofNat_lt, Nat.lt_irrefl]
 have p3 : ∀ s ∈ f.sec, s.length ≤ 96 := fun s hs => by obtain ⟨i, hi, rfl⟩ := List.getElem_of_mem hs; exact hok i hi hi
 clear hok hm hk
 refine loopW_of (fun m f1 h' => ∃ k, m + k = f.dirty.length ∧ h' = hx ∧ f1 1 = ptr b1 0 ∧ f1 4 = i64 k ∧ ∀ i, (hi : i < f.dirty.length) → i < k → dirtyAt f i hi) f.dirty.length
  ⟨0, by simp, rfl, by simp -implicitDefEqProofs only [go_sem, f01], by simp -implicitDefEqProofs only [go_sem]; rfl, by omega⟩ ?_
 clear f01 f03
 rintro m f1 h' ⟨k, hm, hh, f01, f04, hok⟩
 have hh := hh.symm
 subst hh
 by_cases hk : k < f.dirty.length
 rotate_left
 ·have e : k = f.dirty.length := by omega
  subst e
  simp -implicitDefEqProofs only [go_sem, f01, f04, ldc_get hg, Int.ofNat_lt, Nat.lt_irrefl]
  exact ⟨ex, dec_t ⟨p1, by omega, p3, fun i hi => hok i hi hi⟩⟩
 have d1 := ldc_sub ex.2 (q3 k (f.dirty[k]).cells (by simp [hk]))
 have e1 := ldc_part d1 0 1 (by omega)
 have e2 := ldc_part d1 1 1 (by omega)
 simp only [List.drop_zero, List.drop_succ_cons, List.take_succ_cons, List.take_zero, Nat.add_zero] at e1 e2
 skip
 simp -implicitDefEqProofs only [go_sem, wrap_i64 (show -(9223372036854775808 : Int) ≤ ((f.sec.length : Int) - 1) by omega) (show ((f.sec.length : Int) - 1) < 9223372036854775808 by omega), f01, f04, ldc_get hg, Int.ofNat_lt, Int.natCast_nonneg, hk, q2, e1, e2]
 refine (l03Is_pc _ _ _ _).use ?_
 by_cases p4 : 0 ≤ f.dirty[k].place ∧ f.dirty[k].place ≤ (f.sec.length : Int) - 1
 rotate_left
 ·simp -implicitDefEqProofs only [go_sem, p4, f01, f04, ldc_get hg, Int.ofNat_lt, Int.natCast_nonneg, hk, q2, e1, e2]
  exact ⟨ex, dec_f fun h => p4 (h.2.2.2 k hk).1⟩
 by_cases p5 : (96 : Int) < (f.dirty[k].data.length : Int)
 ·simp -implicitDefEqProofs only [go_sem, p4, p5, f01, f04, ldc_get hg, Int.ofNat_lt, Int.natCast_nonneg, hk, q2, e1, e2]
  exact ⟨ex, dec_f fun h => by have := (h.2.2.2 k hk).2.1; omega⟩
 simp -implicitDefEqProofs only [go_sem, p4, p5, f01, f04, ldc_get hg, Int.ofNat_lt, Int.natCast_nonneg, hk, q2, e1, e2]
 refine loopW_of (fun m f1 h' => ∃ j, m + j = k ∧ h' = hx ∧ f1 1 = ptr b1 0 ∧ f1 4 = i64 k ∧ f1 5 = i64 j ∧ ∀ i, (hi : i < k) → i < j → (f.dirty[i]'(by omega)).place ≠ f.dirty[k].place) k
  ⟨0, by simp, rfl, by simp -implicitDefEqProofs only [go_sem, f01, f01, f04, ldc_get hg, Int.ofNat_lt, Int.natCast_nonneg, hk, q2, e1, e2], by simp -implicitDefEqProofs only [go_sem, f04, f01, f04, ldc_get hg, Int.ofNat_lt, Int.natCast_nonneg, hk, q2, e1, e2], by simp -implicitDefEqProofs only [go_sem, f01, f04, ldc_get hg, Int.ofNat_lt, Int.natCast_nonneg, hk, q2, e1, e2]; rfl, by omega⟩ ?_
 rintro m2 f2 h' ⟨j, hm2, hh, f21, f24, f25, hno⟩
 have hh := hh.symm
 subst hh
 skip
 by_cases hj : j < k
 ·have g1 := ldc_sub ex.2 (q3 j (f.dirty[j]'(by omega)).cells (by simp [show j < f.dirty.length by omega]))
  have g2 := ldc_part g1 0 1 (by omega)
  simp only [List.drop_zero, List.drop_succ_cons, List.take_succ_cons, List.take_zero, Nat.add_zero] at g2
  by_cases p : (f.dirty[j]'(by omega)).place = f.dirty[k].place
  ·simp -implicitDefEqProofs only [go_sem, f21, f24, f25, hj, show j < f.dirty.length by omega, g2, decide_eq_true p, ldc_get hg, Int.ofNat_lt, Int.natCast_nonneg, hk, q2, e1, e2]
   exact ⟨ex, dec_f fun h => (h.2.2.2 k hk).2.2 j hj p⟩
  ·simp -implicitDefEqProofs only [go_sem, f21, f24, f25, hj, show j < f.dirty.length by omega, g2, p, wrap_i64 (show -(9223372036854775808 : Int) ≤ ((j : Int) + 1) by omega) (show ((j : Int) + 1) < 9223372036854775808 by omega), ldc_get hg, Int.ofNat_lt, Int.natCast_nonneg, hk, q2, e1, e2]
   refine ⟨m2 - 1, by omega, _, Ext.refl _, j + 1, by omega, rfl, rfl, fun i hi1 hi2 => ?_⟩
   by_cases e : i = j
   ·subst e; exact p
   ·exact hno i hi1 (by omega)
 ·have e : j = k := by omega
  subst e
  simp -implicitDefEqProofs only [go_sem, f21, f24, f25, Nat.lt_irrefl, wrap_i64 (show -(9223372036854775808 : Int) ≤ ((j : Int) + 1) by omega) (show ((j : Int) + 1) < 9223372036854775808 by omega), ldc_get hg, Int.ofNat_lt, Int.natCast_nonneg, hk, q2, e1, e2]
  refine ⟨m - 1, by omega, _, Ext.refl _, j + 1, by omega, rfl, rfl, fun i hi1 hi2 => ?_⟩
  by_cases e : i = j
  ·subst e; exact ⟨p4, by omega, fun q hq => hno q hq hq⟩
  ·exact hok i hi1 (by omega)
end Go.Proofs.YthjbhdmjfakfaaaGreatDoor