/- A helper of this seat's claims (contracts of the functions): what it shows is shown for every input that its statements name, on no other condition. -/
import Derived.Test.YthjbhdmjfakfaaaGreatDoorMC10t
set_option linter.unusedVariables false
set_option linter.unusedSimpArgs false
set_option maxRecDepth 100000
namespace Go.Proofs.YthjbhdmjfakfaaaGreatDoor
open Go.KH

theorem nats_flat (l : List Nat) : (ints (nats l)).flatten = l.map fun i : Nat => i64 (i : Int) := by
 induction l with
 | nil => rfl
 | cons a l ih => simp only [nats, ints, List.map_cons, List.flatten_cons] at ih ⊢; rw [ih]; rfl
theorem nats_len (l : List Nat) : (ints (nats l)).length = l.length := by simp [nats]
theorem nats_wid (l : List Nat) : Wid 1 (ints (nats l)) := Wid.map fun _ => rfl
theorem nats_one (l : List Nat) : (ints (nats l)).flatten.all Value.oneCell' = true := by rw [nats_flat]; simp [Value.oneCell']
theorem nats_cut {left : List Nat} {R : List Value} {k : Nat} (hk : k < left.length) : splice ((ints (nats left)).flatten ++ R) k (ints (nats (left.drop (k + 1)))).flatten = (ints (nats (left.eraseIdx k))).flatten ++ (i64 ((left[left.length - 1]'(by omega) : Nat) : Int) :: R) := by
 unfold splice
 simp only [nats_flat, List.length_map, List.length_drop]
 rw [List.take_append_of_le_length (by simp; omega), List.drop_append_of_le_length (by simp; omega), show k + (left.length - (k + 1)) = left.length - 1 by omega, List.eraseIdx_eq_take_drop_succ, List.map_append, List.map_take, List.map_drop,
  List.drop_eq_getElem_cons (l := left.map _) (i := left.length - 1) (by simp; omega), show left.length - 1 + 1 = left.length by omega, List.drop_of_length_le (l := left.map _) (i := left.length) (by simp)]
 simp
def b_slices_Delete_int_int : C := (jo [q 6 (.mv (.c nils))]
 (jo [jm 8 0, jm 9 1, jm 10 2, jm 11 0, q 12 (.len (.t 11)), q 13 (.lsl3 1 (.t 8) (.t 9) (.t 10) (.t 12))]
 (.seq (jo [jm 14 1, jm 15 2, jb 16 .eql 14 15]
 (.cond (.t 16) (jo [jm 17 0, jm 6 17]
 .ret) .skip))
 (jo [jm 18 0, q 19 (.len (.t 18)), jm 7 19]
 (.seq (.dops false (.tk (jm 20 0) (.tk (jm 21 1) (.tk (q 22 (.lsl 1 (.t 20) none (some (.t 21)))) (.tk (jm 23 0) (.tk (jm 24 2) (.tk (q 25 (.lsl 1 (.t 23) (some (.t 24)) none)) (.lt (⟨(some 26), none, .app 1 8 (.t 22) (.t 25)⟩) (.tk (jm 0 26) .nil)))))))))
 (jo [jm 27 0, jm 28 0, q 29 (.len (.t 28)), jm 30 7, q 31 (.lsl 1 (.t 27) (some (.t 29)) (some (.t 30))), ⟨none, none, .clr 1 [(i64 0)] (.t 31)⟩]
 (jo [jm 32 0, jm 6 32]
 .ret)))))))
theorem w_slices_Delete_int_int : Wk Tryz.prog 208 33 [.tmp 6] b_slices_Delete_int_int := Wk.of mixedOrders Tryz.func208 (by kernel_rfl) (by kernel_rfl)

theorem delete_ac {h : H} {bl c z k : Nat} {left : List Nat} {R : List Value} (hb : h.base ≤ bl) (hg : h.get bl = some ⟨(ints (nats left)).flatten ++ R, z⟩) (hc : left.length ≤ c) (hz : c ≤ z) (hk : k < left.length) (hn : left.length ≤ 1000) :
  AC Tryz.prog 208 [sl bl 0 left.length c, i64 k, i64 ((k : Int) + 1)] h fun r h' => r = sl bl 0 (left.length - 1) c ∧ h' = h.set bl ⟨(ints (nats (left.eraseIdx k))).flatten ++ i64 0 :: R, z⟩ := by
 refine w_slices_Delete_int_int (by simp) ?_
 unfold b_slices_Delete_int_int
 simp -implicitDefEqProofs only [go_sem]
 skip
 have hnl : (ints (nats left)).length = left.length := by simp [nats]
 have hs := Sl.of_pre hg (List.prefix_append _ _) (by rw [hnl]; exact hc) (Wid.map fun _ => rfl) (w := 1)
 rw [hnl] at hs
 have hs3 := (hs.part (lo := k + 1) (hi := left.length) (by omega) (by omega)).src (fun r hr => (Wid.map (w := 1) (f := fun n : Int => [i64 n]) (l := nats left) fun _ => rfl) r (List.mem_of_mem_take (List.mem_of_mem_drop hr))) (by decide)
 have hdr : (List.take left.length (ints (nats left))).drop (k + 1) = ints (nats (left.drop (k + 1))) := by
  rw [List.take_of_length_le (by rw [hnl]; exact Nat.le_refl _)]; simp [nats, ints, List.map_drop]
 rw [hdr] at hs3
 have hs4 : srcOf h 1 (.slice (if c = k + 1 then some ⟨bl, 0, none⟩ else some ⟨bl, (k + 1) * 1, none⟩) (left.length - (k + 1)) (c - (k + 1))) = some ((ints (nats (left.drop (k + 1)))).length, (ints (nats (left.drop (k + 1)))).flatten) := by
  have e : (if c = k + 1 then some (⟨bl, 0, none⟩ : Addr) else some ⟨bl, (k + 1) * 1, none⟩) = if c = k + 1 then some ⟨bl, 0, none⟩ else Option.map (fun x => x.add ((k + 1) * 1)) (some (⟨bl, 0, none⟩ : Addr)) := by
   split
   ·rfl
   ·simp [Addr.add]
  rw [e]; exact hs3
 have hkd : k + (ints (nats (left.drop (k + 1)))).length = left.length - 1 := by rw [nats_len, List.length_drop]; omega
 have hcut := nats_cut (R := R) hk
 have hel : (ints (nats (left.eraseIdx k))).flatten.length = left.length - 1 := by rw [nats_flat, List.length_map, List.length_eraseIdx_of_lt hk]
 simp -implicitDefEqProofs only [go_sem, show ¬ ((k : Int) = (k : Int) + 1) by omega, hs4, Int.natCast_nonneg, show ((left.length : Int) ≤ (c : Int)) by omega, show (0 : Int) ≤ (k : Int) + 1 by omega, show ((k : Int) + 1 ≤ (left.length : Int)) by omega, show ((k : Int) + 1).toNat = k + 1 by omega, show (k : Int) ≤ ((k + 1 : Nat) : Int) by omega, show (k : Int) ≤ (c : Int) by omega]
 unfold appW
 simp only
 refine ⟨by omega, nats_one _, by rw [nats_flat, nats_len, List.length_map, Nat.mul_one], trivial, hb, ?_⟩
 rw [hg]
 simp only [withO_some]
 refine ⟨by omega, .inr ⟨by omega, by rw [hkd, List.length_append, nats_flat, List.length_map]; omega, ?_⟩⟩
 rw [hkd, Nat.mul_one, hcut]
 have hsp := splice_app (ints (nats (left.eraseIdx k))).flatten (i64 ((left[left.length - 1]'(by omega) : Nat) : Int) :: R) [i64 0] 0 (m := left.length - 1) (by omega)
 rw [show splice (i64 ((left[left.length - 1]'(by omega) : Nat) : Int) :: R) 0 [i64 0] = i64 0 :: R from rfl] at hsp
 simp -implicitDefEqProofs only [go_sem, show ((left.length - 1 : Nat) : Int) ≤ ((left.length : Nat) : Int) by omega, show left.length - (left.length - 1) = 1 by omega, show ¬ (c = left.length - 1) by omega, Nat.mul_one, hb, hsp, show (List.replicate 1 [i64 0]).flatten = [i64 0] from rfl, hel, List.length_append, show left.length - 1 + 1 ≤ left.length - 1 + (R.length + 1) by omega, Int.natCast_nonneg, show ((left.length : Int) ≤ (c : Int)) by omega, show (0 : Int) ≤ (k : Int) + 1 by omega, show ((k : Int) + 1 ≤ (left.length : Int)) by omega, show ((k : Int) + 1).toNat = k + 1 by omega, show (k : Int) ≤ ((k + 1 : Nat) : Int) by omega, show (k : Int) ≤ (c : Int) by omega]
theorem nats_ldc {h : H} {bk z k : Nat} {left : List Nat} {R : List Value} (g : h.get bk = some ⟨(ints (nats left)).flatten ++ R, z⟩) (hk : k < left.length) : ldc h bk k 1 = some [i64 (left[k] : Nat)] := by
 have := ldc_pre g (List.prefix_append _ _) (nats_wid _) (k := k) (by rw [nats_len]; exact hk)
 rw [Nat.mul_one] at this
 rw [this]; simp [nats, ints]
theorem nats_next {n k : Nat} (hk : k < n) : splice ((ints (nats (List.range k))).flatten ++ List.replicate (n - k) (i64 0)) k [i64 k] = (ints (nats (List.range (k + 1)))).flatten ++ List.replicate (n - (k + 1)) (i64 0) := by
 have hl : (ints (nats (List.range k))).flatten.length = k := by rw [nats_flat]; simp
 rw [splice_app _ _ _ 0 (by omega), show n - k = (n - (k + 1)) + 1 by omega, List.replicate_succ, List.range_succ]
 simp only [nats_flat, List.map_append, List.map_cons, List.map_nil, List.append_assoc, List.cons_append, List.nil_append]
 rfl
def b_impl_planOf : C := (jo [q 2 (.mv (.c nils))]
 (jo [jm 11 0, jc 12 125 [(.t 11)], ⟨(some 3), none, .alloc [nils]⟩, js 1 3 12]
 (jo [jl 13 3, q 14 (.len (.t 13)), ⟨(some 15), none, .mks 1 8 [(i64 0)] (.t 14) (.t 14)⟩, ⟨(some 4), none, .alloc [nils]⟩, js 1 4 15]
 (.seq (jo [jl 16 4, q 17 (.len (.t 16)), q 18 (.mv (.c (i64 0)))]
 (.block 0 (.loop (jo [jb 19 .lss 18 17]
 (.seq (.cond (.t 19) .skip (.exit 0))
 (.seq (.block 1 (jo [jm 20 18, jm 5 20]
 (.ops [jl 21 4, jm 22 5, jm 23 5, q 24 (.idx 1 (.t 21) (.t 22)), js 1 24 23])))
 (.ops [jk 25 .add 18 1, jm 18 25])))))))
 (jo [⟨(some 26), none, .mkm⟩, ⟨(some 6), none, .alloc [(.map none)]⟩, js 1 6 26]
 (jo [q 7 (.mv (.c nils))]
 (.seq (.block 2 (.loop (.seq (jo [jl 27 4, q 28 (.len (.t 27)), jk 29 .gtr 28 0]
 (.cond (.t 29) .skip (.exit 2)))
 (.block 3 (jo [jl 30 4, q 31 (.mkf 204 [(.t 3), (.t 6), (.t 4)]), jc 32 203 [(.t 30), (.t 31)], jm 8 32]
 (.seq (jo [jm 33 8, jk 34 .lss 33 0]
 (.cond (.t 34) (jo [jl 35 4, q 36 (.idx 1 (.t 35) (.c (i64 0))), jl 37 36, jm 9 37]
 (.seq (.dops true (.tk (jm 38 7) (.tk (jm 39 9) (.tk (jl 40 3) (.tk (jm 41 9) (.tk (q 42 (.idx 4 (.t 40) (.t 41))) (.tk (jf 43 1 42) (.tk (jl 44 43) (.tk (jl 45 6) (.tk (q 46 (.mln (.t 45))) (.tk (q 47 (.build [(i64 0), (i64 0), (i64 0), (i64 0)] [(0, 1, (.c (i64 1))), (1, 1, (.t 39)), (2, 1, (.t 44)), (3, 1, (.t 46))])) (.sq (⟨(some 48), none, .bsl 1 [(i64 0), (i64 0), (i64 0), (i64 0)] [(0, 4, (.t 47))]⟩) (.lt (⟨(some 49), none, .app 4 32 (.t 38) (.t 48)⟩) (.tk (jm 7 49) .nil))))))))))))))
 (.seq (.dops true (.tk (jl 50 6) (.tk (jl 51 3) (.tk (jm 52 9) (.tk (q 53 (.idx 4 (.t 51) (.t 52))) (.tk (jf 54 1 53) (.tk (jl 55 54) (.lt (⟨none, none, .mup (.t 50) (.t 55) (.c (.bool true))⟩) .nil))))))))
 (.exit 3)))) .skip))
 (jo [jl 56 4, jm 57 8, q 58 (.idx 1 (.t 56) (.t 57)), jl 59 58, jm 10 59]
 (jo [jm 60 7, jm 61 10, jl 62 3, jm 63 10, q 64 (.idx 4 (.t 62) (.t 63)), jf 65 1 64, jl 66 65, q 67 (.build [(i64 0), (i64 0), (i64 0), (i64 0)] [(0, 1, (.c (i64 2))), (1, 1, (.t 61)), (2, 1, (.t 66))]), ⟨(some 68), none, .bsl 1 [(i64 0), (i64 0), (i64 0), (i64 0)] [(0, 4, (.t 67))]⟩, ⟨(some 69), none, .app 4 32 (.t 60) (.t 68)⟩, jm 7 69]
 (.ops [jl 70 4, jm 71 8, jm 72 8, jk 73 .add 72 1, jc 74 208 [(.t 70), (.t 71), (.t 73)], js 1 4 74])))))))))
 (jo [jm 75 7, jm 2 75]
 .ret))))))))
theorem w_impl_planOf : Wk Tryz.prog 137 76 [.tmp 2] b_impl_planOf := Wk.of mixedOrders Tryz.func137 (by kernel_rfl) (by kernel_rfl)

theorem planOf_ac {h : H} {v : Value} {l : List UStep} (hv : Sl h v 4 (l.map UStep.cells)) (hn : l.length ≤ 20) (hd : ∀ s ∈ l.filter isW, 0 ≤ s.dst ∧ s.dst ≤ 7) : AC Tryz.prog 137 [v] h fun r h' => Ext h h' ∧ Fre h h' r 4 ((planB (l.filter isW)).map UMove.cells) := by
 obtain ⟨a, c, rfl⟩ := hv.shape
 refine w_impl_planOf (by simp) ?_
 unfold b_impl_planOf
 simp -implicitDefEqProofs only [go_sem]
 refine AC_of (writes_ac hv (by omega)) ?_
 rintro v1 h1 - ⟨e1, f1⟩
 generalize hw : l.filter isW = w at *
 have hwn : w.length ≤ 20 := by rw [← hw]; have := List.length_filter_le isW l; omega
 obtain ⟨aw, cw, bw, ow, rfl, hcw, sw2, sw3⟩ := f1.sl
 have sw : Sl h1 (.slice aw (w.map UStep.cells).length cw) 4 (w.map UStep.cells) := ⟨aw, cw, bw, ow, rfl, hcw, sw2, sw3⟩
 rw [List.length_map] at sw
 simp only [List.length_map] at sw2
 have hlm : (w.map UStep.cells).length = w.length := by simp
 skip
 simp -implicitDefEqProofs only [go_sem, hlm]
 intro b3 hb_b3 n_b3
 simp -implicitDefEqProofs only [go_sem, hlm, hb_b3]
 refine Req.of (by omega) ?_
 simp -implicitDefEqProofs only [go_sem, Int.natCast_nonneg, Int.le_refl, hlm, hb_b3]
 refine Req.of (by omega) ?_
 simp -implicitDefEqProofs only [go_sem, hlm, hb_b3]
 refine Req.of (by omega) ?_
 simp -implicitDefEqProofs only [go_sem, hlm, hb_b3]
 intro bk hb_bk m0_bk
 obtain ⟨z_bk_b3, y_bk_b3, n_bk⟩ := fne m0_bk
 simp only [H.set_base] at hb_bk
 simp -implicitDefEqProofs only [go_sem, hlm, hb_b3, hb_bk, z_bk_b3, y_bk_b3]
 intro b4 hb_b4 m0_b4
 obtain ⟨z_b4_bk, y_b4_bk, m1_b4⟩ := fne m0_b4
 obtain ⟨z_b4_b3, y_b4_b3, n_b4⟩ := fne m1_b4
 simp only [H.set_base] at hb_b4
 simp -implicitDefEqProofs only [go_sem, hlm, hb_b3, hb_bk, z_bk_b3, y_bk_b3, hb_b4, z_b4_bk, y_b4_bk, z_b4_b3, y_b4_b3]
 refine loopW_of (fun m f h' => ∃ k, m + k = w.length ∧ f 3 = ptr b3 0 ∧ f 4 = ptr b4 0 ∧ f 17 = i64 w.length ∧ f 18 = i64 k ∧ Ext h1 h' ∧ h'.get b3 = some ⟨[.slice aw w.length cw], 1⟩ ∧ h'.get b4 = some ⟨[sl bk 0 w.length w.length], 1⟩ ∧
   h'.get bk = some ⟨(ints (nats (List.range k))).flatten ++ List.replicate (w.length - k) (i64 0), w.length⟩) w.length
  ⟨0, by simp, by simp -implicitDefEqProofs only [go_sem, hlm, hb_b3, hb_bk, z_bk_b3, y_bk_b3, hb_b4, z_b4_bk, y_b4_bk, z_b4_b3, y_b4_b3], by simp -implicitDefEqProofs only [go_sem, hlm, hb_b3, hb_bk, z_bk_b3, y_bk_b3, hb_b4, z_b4_bk, y_b4_bk, z_b4_b3, y_b4_b3], by simp -implicitDefEqProofs only [go_sem, hlm, hb_b3, hb_bk, z_bk_b3, y_bk_b3, hb_b4, z_b4_bk, y_b4_bk, z_b4_b3, y_b4_b3], by simp -implicitDefEqProofs only [go_sem, hlm, hb_b3, hb_bk, z_bk_b3, y_bk_b3, hb_b4, z_b4_bk, y_b4_bk, z_b4_b3, y_b4_b3]; rfl, ((((Ext.refl _).set' n_b3 _).set' n_bk _).set' n_b4 _), by simp -implicitDefEqProofs only [go_sem, hlm, hb_b3, hb_bk, z_bk_b3, y_bk_b3, hb_b4, z_b4_bk, y_b4_bk, z_b4_b3, y_b4_b3], by simp -implicitDefEqProofs only [go_sem, hlm, hb_b3, hb_bk, z_bk_b3, y_bk_b3, hb_b4, z_b4_bk, y_b4_bk, z_b4_b3, y_b4_b3], by simp -implicitDefEqProofs only [go_sem, hlm, hb_b3, hb_bk, z_bk_b3, y_bk_b3, hb_b4, z_b4_bk, y_b4_bk, z_b4_b3, y_b4_b3]; rw [List.flatten_replicate_singleton, Nat.mul_one]; rfl⟩ ?_
 rintro m f h' ⟨k, hm, f3, f4, f17, f18, he, g3, g4, gk⟩
 have x1 : b3 ≠ bk := of_eq_false y_bk_b3
 have x2 : b4 ≠ bk := of_eq_false z_b4_bk
 have x3 : b3 ≠ b4 := of_eq_false y_b4_b3
 skip
 skip
 have hbk : h'.base ≤ bk := by rw [he.1]; exact hb_bk
 by_cases hk : k < w.length
 ·have hnx := nats_next hk
  have hln : ((ints (nats (List.range k))).flatten ++ List.replicate (w.length - k) (i64 0)).length = w.length := by rw [List.length_append, nats_flat]; simp; omega
  simp -implicitDefEqProofs only [go_sem, f17, f18, hk, ldc_get g4, stc_get gk, hbk, hnx, hln, Nat.mul_one, show k + 1 ≤ w.length by omega, wrap_i64 (show -(9223372036854775808 : Int) ≤ ((k : Int) + 1) by omega) (show ((k : Int) + 1) < 9223372036854775808 by omega), hlm, f3, f4, Int.ofNat_lt, Int.natCast_nonneg]
  exact ⟨m - 1, by omega, _, Ext.refl _, k + 1, by omega, rfl, he.set' n_bk _, by rw [H.set_get_ne _ _ _ _ x1]; exact g3, by rw [H.set_get_ne _ _ _ _ x2]; exact g4, (H.set_get_same _ _ _).trans (by rw [List.range_succ])⟩
 have e : k = w.length := by omega
 subst e
 clear hk hm
 simp -implicitDefEqProofs only [go_sem, f17, f18, Nat.lt_irrefl, hlm, f3, f4, Int.ofNat_lt, Int.natCast_nonneg]
 intro bm hbm nbm nbm2
 simp -implicitDefEqProofs only [go_sem, hlm, f3, f4, Int.ofNat_lt, Int.natCast_nonneg]
 intro b6 hb6 n6
 simp only [H.setm_base, H.setm_get] at hb6 n6
 simp -implicitDefEqProofs only [go_sem, hb6, H.setm_base, show vcl (.map (some bm)) = [.map (some bm)] from rfl, hlm, f3, f4, Int.ofNat_lt, Int.natCast_nonneg]
 refine Req.of rfl ?_
 simp -implicitDefEqProofs only [go_sem, hlm, f3, f4, Int.ofNat_lt, Int.natCast_nonneg]
 have n61 : h1.get b6 = none := he.none n6
 have q3 : b3 ≠ b6 := fun e => by rw [e, n6] at g3; cases g3
 have q4 : b4 ≠ b6 := fun e => by rw [e, n6] at g4; cases g4
 have qk : bk ≠ b6 := fun e => by rw [e, n6] at gk; cases gk
 generalize hhB : (h'.setm bm []).set b6 ⟨[.map (some bm)], 1⟩ = hB
 have B3 : hB.get b3 = some ⟨[.slice aw w.length cw], 1⟩ := by rw [← hhB, H.set_get_ne _ _ _ _ q3]; exact g3
 have B4 : hB.get b4 = some ⟨[sl bk 0 w.length w.length], 1⟩ := by rw [← hhB, H.set_get_ne _ _ _ _ q4]; exact g4
 have Bk : hB.get bk = some ⟨(ints (nats (List.range w.length))).flatten ++ [], w.length⟩ := by rw [← hhB, H.set_get_ne _ _ _ _ qk, H.setm_get, gk, Nat.sub_self]; rfl
 have B6 : hB.get b6 = some ⟨[.map (some bm)], 1⟩ := by rw [← hhB, H.set_get_same]
 have Bm : hB.mp bm = some (stm []) := by rw [← hhB, H.set_mp]; exact setm_same _ _ _
 have eB : Ext h1 hB := by rw [← hhB]; exact (Ext.setm' he (Ext.mnone he nbm2) _).set' n61 _
 refine loopW_of (fun m f h' => ∃ (s : PS) (u : Value) (R : List Value), meas w s = m ∧ PInv w s ∧ plan w s = planB w ∧ f 3 = ptr b3 0 ∧ f 4 = ptr b4 0 ∧ f 6 = ptr b6 0 ∧ f 7 = u ∧ s.left.length ≤ w.length ∧ Ext h1 h' ∧
   h'.get b3 = some ⟨[.slice aw w.length cw], 1⟩ ∧ h'.get b4 = some ⟨[sl bk 0 s.left.length w.length], 1⟩ ∧ h'.get bk = some ⟨(ints (nats s.left)).flatten ++ R, w.length⟩ ∧ h'.get b6 = some ⟨[.map (some bm)], 1⟩ ∧ h'.mp bm = some (stm s.st) ∧
   (∀ b, h'.get b = none → hB.get b = none) ∧ Own hB h' u 4 (s.mv.map UMove.cells)) (meas w (ps0 w))
  ⟨ps0 w, nils, [], rfl, pinv0 w, rfl, by simp -implicitDefEqProofs only [go_sem, hlm, f3, f4, Int.ofNat_lt, Int.natCast_nonneg], by simp -implicitDefEqProofs only [go_sem, hlm, f3, f4, Int.ofNat_lt, Int.natCast_nonneg], by simp -implicitDefEqProofs only [go_sem, hlm, f3, f4, Int.ofNat_lt, Int.natCast_nonneg], by simp -implicitDefEqProofs only [go_sem, hlm, f3, f4, Int.ofNat_lt, Int.natCast_nonneg], by simp [ps0], eB, B3, by simpa [ps0] using B4, Bk, B6, Bm, fun _ e => e, Own.nil _ _ _⟩ ?_
 have m1 : h1.mp bm = none := Ext.mnone he nbm2
 clear hhB gk g3 g4 hbk f3 f4 f17 f18 he nbm nbm2 hbm hb6 n6
 rintro m f h' ⟨s, u, R, hm, pi, hp, f3, f4, f6, f7, hlw, he, g3, g4, gk, g6, gm, hno, ho⟩
 obtain ⟨au, cu, rfl⟩ := ho.shape
 rw [List.length_map] at ho f7
 skip
 have hbk : h'.base ≤ bk := by rw [he.1]; exact hb_bk
 have hb3 : h'.base ≤ b3 := by rw [he.1]; exact hb_b3
 have hb4 : h'.base ≤ b4 := by rw [he.1]; exact hb_b4
 by_cases hl : s.left = []
 ·rw [hl] at g4
  simp -implicitDefEqProofs only [go_sem, ldc_get g4, show ¬ ((0 : Int) < ((0 : Nat) : Int)) by decide, List.length_nil, hlm, f3, f4, Int.ofNat_lt, Int.natCast_nonneg, f6, f7]
  rw [← hp, plan_done hl]
  exact ⟨e1.trans he, (ho.back (e1.trans eB)).fre⟩
 have hlp : 0 < s.left.length := List.length_pos_iff.2 hl
 have hlt := planStep_lt (w := w) hl
 have pi' := pinv_step pi hl
 have hp' : plan w (planStep w s) = planB w := by rw [← plan_next hl]; exact hp
 have hmv := pi.mv
 have hs8 := pinv_st pi hd
 have svl : Sl h' (sl bk 0 s.left.length w.length) 1 (ints (nats s.left)) := by
  have := Sl.of_pre gk (List.prefix_append _ _) (by rw [nats_len]; exact hlw) (nats_wid _)
  rw [nats_len] at this; exact this
 have sw' : Sl h' (.slice aw w.length cw) 4 (w.map UStep.cells) := sw.ext he
 simp -implicitDefEqProofs only [go_sem, ldc_get g4, show (0 : Int) < (s.left.length : Int) by omega, hlm, f3, f4, Int.ofNat_lt, Int.natCast_nonneg, f6, f7]
 refine PC.use (ifNat_pc (p := freeB w s.left s.st) (n := 204) (caps := [ptr b3 0, ptr b6 0, ptr b4 0]) svl (by omega) (fun x hx => planOf1_pc g3 g4 g6 gm sw' svl (pi.bound x hx) pi.bound (by omega))) ?_
 unfold firstAt
 cases hf : s.left.findIdx? (freeB w s.left s.st) with
 | none =>
  have hmem : s.left.headD 0 ∈ s.left := by rw [headD_0 _ (List.length_pos_iff.2 hl)]; exact List.getElem_mem _
  have hj := pi.bound _ hmem
  have hdj := hd _ (List.getElem_mem hj)
  have hnst := head_not_st hl hf _ hmem
  rw [stAt_get hj] at hnst
  have hps : planStep w s = ⟨s.left, s.st ++ [w[s.left.headD 0].dst], s.mv ++ [⟨1, s.left.headD 0, w[s.left.headD 0].dst, s.st.length⟩]⟩ := by
   unfold planStep
   rw [hf]
   simp only [stAt_get hj]
  rw [hps] at hlt pi' hp'
  have e3 := nats_ldc gk hlp
  rw [← headD_0 _ hlp] at e3
  generalize s.left.headD 0 = j at *
  have e4 := ldc_part (ldc_sub he.2 (sw3 j (w[j]).cells (by simp [hj]))) 1 1 (by omega)
  have hlp' : (0 : Int) < (s.left.length : Int) := by omega
  have hsl : (stm s.st).length = s.st.length := by simp [stm]
  simp -implicitDefEqProofs only [go_sem, hlp', Nat.zero_mul, Int.reduceToNat, asM_mk, gm, hsl, show ((-1 : Int) < 0) by decide, ldc_get g4, ldc_get g3, ldc_get g6, e3, sw2, hj, e4, hlm, f3, f4, Int.ofNat_lt, Int.natCast_nonneg, f6, f7]
  intro bx hb_bx n_bx
  simp -implicitDefEqProofs only [go_sem, hlm, f3, f4, Int.ofNat_lt, Int.natCast_nonneg, f6, f7, hb_bx]
  refine ⟨Sub.set (Sub.refl _) n_bx _, ?_⟩
  refine appW_keep (h0 := hB) (rows := s.mv.map UMove.cells) (new := [UMove.cells ⟨1, j, w[j].dst, s.st.length⟩]) (none_set hno _ _) (ho.ext ((Ext.refl _).set n_bx _)) (by simp -implicitDefEqProofs only [go_sem, hlm, f3, f4, Int.ofNat_lt, Int.natCast_nonneg, f6, f7, hb_bx]; rfl) (by intro r hr; simp at hr; subst hr; rfl) rfl (by simp; omega) ?_
  intro v' h2 k2 o2
  have kb : ∀ b ob, h'.get b = some ob → hB.get b ≠ none → h2.get b = some ob := fun b ob hb hn => k2.2.1 b _ hn (by rw [H.set_get_ne _ _ _ _ (fun e => by rw [e, n_bx] at hb; cases hb)]; exact hb)
  have p3 := kb b3 _ g3 (by rw [B3]; simp)
  have p4 := kb b4 _ g4 (by rw [B4]; simp)
  have pk := kb bk _ gk (by rw [Bk]; simp)
  have p6 := kb b6 _ g6 (by rw [B6]; simp)
  have pm := k2.2.2.1 bm _ (fun h => h.elim) (by rw [H.set_mp]; exact gm)
  have e2 := k2.ext (he.set n_bx _) (fun b hb => eB.none hb) (fun _ h => h.elim)
  have e5 := ldc_part (ldc_sub e2.2 (sw3 j (w[j]).cells (by simp [hj]))) 1 1 (by omega)
  have hmf := mfind_stm w[j].dst s.st 0
  rw [if_neg hnst] at hmf
  simp -implicitDefEqProofs only [go_sem, sw2, hj, ldc_get p6, ldc_get p3, e5, asM_mk, pm, hmf, hlm, f3, f4, Int.ofNat_lt, Int.natCast_nonneg, f6, f7, hb_bx]
  exact ⟨_, by rw [← hm]; exact hlt, _, Ext.refl _, _, v', R, rfl, pi', hp', rfl, hlw, Ext.setm' e2 m1 _, p3, p4, pk, p6, (setm_same _ _ _).trans (by simp [stm]), fun b hb => none_set hno _ _ b (k2.none hb), by simpa using Own.setm o2 bm _⟩
 | some k =>
  obtain ⟨hk, _, _⟩ := List.findIdx?_eq_some_iff_getElem.1 hf
  have hj := pi.bound _ (List.getElem_mem hk)
  have hps : planStep w s = ⟨s.left.eraseIdx k, s.st, s.mv ++ [⟨2, s.left[k], w[s.left[k]].dst, 0⟩]⟩ := by
   unfold planStep
   rw [hf]
   simp only [List.getElem?_eq_getElem hk, Option.getD_some, stAt_get hj]
  rw [hps] at hlt pi' hp'
  have e3 := nats_ldc gk hk
  have e4 := ldc_part (ldc_sub he.2 (sw3 s.left[k] (w[s.left[k]]).cells (by simp [hj]))) 1 1 (by omega)
  have hel : (s.left.eraseIdx k).length = s.left.length - 1 := List.length_eraseIdx_of_lt hk
  skip
  simp -implicitDefEqProofs only [go_sem, show ¬ ((k : Int) < 0) by omega, hk, Nat.mul_one, ldc_get g4, ldc_get g3, e3, sw2, hj, e4, hlm, f3, f4, Int.ofNat_lt, Int.natCast_nonneg, f6, f7]
  intro bx hb_bx n_bx
  simp -implicitDefEqProofs only [go_sem, hlm, f3, f4, Int.ofNat_lt, Int.natCast_nonneg, f6, f7, hb_bx]
  refine appW_keep (h0 := hB) (rows := s.mv.map UMove.cells) (new := [UMove.cells ⟨2, s.left[k], w[s.left[k]].dst, 0⟩]) (none_set hno _ _) (ho.ext ((Ext.refl _).set n_bx _)) (by simp -implicitDefEqProofs only [go_sem, hlm, f3, f4, Int.ofNat_lt, Int.natCast_nonneg, f6, f7, hb_bx]; rfl) (by intro r hr; simp at hr; subst hr; rfl) rfl (by simp; omega) ?_
  intro v' h2 k2 o2
  have kb : ∀ b ob, h'.get b = some ob → hB.get b ≠ none → h2.get b = some ob := fun b ob hb hn => k2.2.1 b _ hn (by rw [H.set_get_ne _ _ _ _ (fun e => by rw [e, n_bx] at hb; cases hb)]; exact hb)
  have p3 := kb b3 _ g3 (by rw [B3]; simp)
  have p4 := kb b4 _ g4 (by rw [B4]; simp)
  have pk := kb bk _ gk (by rw [Bk]; simp)
  have p6 := kb b6 _ g6 (by rw [B6]; simp)
  have pm := k2.2.2.1 bm _ (fun h => h.elim) (by rw [H.set_mp]; exact gm)
  have e2 := k2.ext (he.set n_bx _) (fun b hb => eB.none hb) (fun _ h => h.elim)
  have hb2 : h2.base = h'.base := by rw [k2.1, H.set_base]
  simp -implicitDefEqProofs only [go_sem, ldc_get p4, wrap_i64 (show -(9223372036854775808 : Int) ≤ ((k : Int) + 1) by omega) (show ((k : Int) + 1) < 9223372036854775808 by omega), hlm, f3, f4, Int.ofNat_lt, Int.natCast_nonneg, f6, f7, hb_bx]
  refine AC_of (delete_ac (by rw [hb2]; exact hbk) pk hlw (Nat.le_refl _) hk (by omega)) ?_
  rintro _ _ - ⟨rfl, rfl⟩
  have x4 : (b4 = bk) = False := eq_false x2
  simp -implicitDefEqProofs only [go_sem, stc_get p4, hb2, hb4, x4, hlm, f3, f4, Int.ofNat_lt, Int.natCast_nonneg, f6, f7, hb_bx]
  have nk : hB.get bk ≠ none := by rw [Bk]; simp
  have n4 : hB.get b4 ≠ none := by rw [B4]; simp
  exact ⟨_, by rw [← hm]; exact hlt, _, Ext.refl _, _, v', i64 0 :: R, rfl, pi', hp', rfl, by simp only [hel]; omega, (e2.set' n_b4 _).set' n_bk _, by rw [H.set_get_ne _ _ _ _ x1, H.set_get_ne _ _ _ _ x3]; exact p3, by rw [H.set_get_ne _ _ _ _ x2, H.set_get_same]; simp only [hel], H.set_get_same _ _ _,
   by rw [H.set_get_ne _ _ _ _ qk.symm, H.set_get_ne _ _ _ _ q4.symm]; exact p6, pm, none_set (none_set (fun b hb => none_set hno _ _ b (k2.none hb)) _ _) _ _, by simpa using Own.set0 (Own.set0 o2 n4 _) nk _⟩
end Go.Proofs.YthjbhdmjfakfaaaGreatDoor