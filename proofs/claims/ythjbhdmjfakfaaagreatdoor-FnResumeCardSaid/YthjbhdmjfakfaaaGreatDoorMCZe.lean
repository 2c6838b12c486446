/- A helper of this seat's claims (contracts of the functions): what it shows is shown for every input that its statements name, on no other condition. -/
import Derived.Test.YthjbhdmjfakfaaaGreatDoorMCQe
import Derived.Test.YthjbhdmjfakfaaaGreatDoorMCXa
import Derived.Test.YthjbhdmjfakfaaaGreatDoorRows
import Derived.Test.YthjbhdmjfakfaaaGreatDoorMCZh
import Derived.Test.YthjbhdmjfakfaaaGreatDoorKC
import Derived.Test.YthjbhdmjfakfaaaGreatDoorMC06
set_option linter.unusedVariables false
set_option linter.unusedSimpArgs false
set_option maxRecDepth 100000
namespace Go.Proofs.YthjbhdmjfakfaaaGreatDoor
open Go.KH Go.RowKit

abbrev laidL : List (String × DataW Unit) := [("loop.example/g00668/impl.digestStart", Rows.laid_loop_example_g00668_impl_digestStart), ("loop.example/g00668/impl.digestRounds", Rows.laid_loop_example_g00668_impl_digestRounds)]
theorem start_tab : (Rows.laid_loop_example_g00668_impl_digestStart : DataW Unit) = Lib.tabData .u32 (shaStart.list.map fun x => (x.toNat : Int)) := by rfl
theorem keys_tab : (Rows.laid_loop_example_g00668_impl_digestRounds : DataW Unit) = Lib.tabData .u32 (keysL.map fun x => (x.toNat : Int)) := by rfl
theorem flat_w (l : List (BitVec 32)) : (l.map fun x => (x.toNat : Int)).map (fun z => Value.int .u32 z) = (wsV l).flatten := by
 induction l with
 | nil => rfl
 | cons x l ih => simp only [List.map_cons, List.flatten_cons, ih]; rfl
theorem tabs_of {W : World} (h : laidMetH Tryz.prog laidL W) : Tabs (h0 W) := by
 rw [MakeChecks.laidMetH_plain _ _ _ (by kernel_rfl)] at h
 obtain ⟨ps, ⟨g0, t0, cs0, f0, p0, q0, hg0, ht0, hv0, hd0, ⟨g1, t1, cs1, f1, p1, q1, hg1, ht1, hv1, hd1, _, _⟩, _⟩, _, _⟩ := h
 obtain rfl := Option.some.inj ((show Tryz.prog.globalNamed "loop.example/g00668/impl.digestStart" = some 0 by kernel_rfl).symm.trans hg0)
 obtain rfl := Option.some.inj ((show Tryz.prog.globalNamed "loop.example/g00668/impl.digestRounds" = some 1 by kernel_rfl).symm.trans hg1)
 obtain rfl := Option.some.inj ((show (Tryz.prog.globals[0]?).map (·.type) = some 198 by kernel_rfl).symm.trans ht0)
 obtain rfl := Option.some.inj ((show (Tryz.prog.globals[1]?).map (·.type) = some 253 by kernel_rfl).symm.trans ht1)
 rw [start_tab] at hd0
 rw [keys_tab] at hd1
 have u32 : Tryz.prog.underlying 197 = some (.int .u32) := by kernel_rfl
 have c32 : Tryz.prog.cellsOf 197 = 1 := by kernel_rfl
 obtain ⟨z0, k0⟩ := laid_cells hg0 hv0 (show Tryz.prog.underlying 198 = some (.array 8 197) by kernel_rfl) u32 c32 (by kernel_rfl) hd0
 obtain ⟨z1, k1⟩ := laid_cells hg1 hv1 (show Tryz.prog.underlying 253 = some (.array 64 197) by kernel_rfl) u32 c32 (by kernel_rfl) hd1
 rw [flat_w] at k0 k1
 have s0 := Sl.of_get (c := 8) k0 (Nat.le_of_eq rfl) (Wid.map fun _ => rfl)
 have s1 := Sl.of_get (c := 64) k1 (Nat.le_of_eq rfl) (Wid.map fun _ => rfl)
 exact ⟨s0, s1, trivial⟩
theorem door_met (os : Os) (args : Array Value) : laidMetH Tryz.prog laidL ((World.doorLaid Tryz.prog 400 os).forCall (fun _ _ => 0) ⟨#[], args, []⟩).memory :=
 laidMetH_of_parts3 (fuel := 8) (laidMet_of_run' 8 (by kernel_rfl) (by kernel_rfl)) (by kernel_rfl) (by kernel_rfl)
end Go.Proofs.YthjbhdmjfakfaaaGreatDoor
namespace Go.Proofs.YthjbhdmjfakfaaaGreatDoor
open Go.KH

def b_laws_lwTexts : C := (jo [q 4 (.mv (.c (.bool false)))]
 (.seq (jo [jm 6 0, q 7 (.len (.t 6)), jm 8 1, q 9 (.len (.t 8)), jb 10 .neq 7 9]
 (.cond (.t 10) (jo [q 4 (.mv (.c (.bool false)))]
 .ret) .skip))
 (.seq (jo [q 5 (.mv (.c (i64 0)))]
 (.block 0 (.loop (.seq (jo [jm 11 5, jm 12 0, q 13 (.len (.t 12)), jb 14 .lss 11 13]
 (.cond (.t 14) .skip (.exit 0)))
 (.seq (.block 1 (.seq (.dops true (.tk (jm 17 0) (.tk (jm 18 5) (.tk (q 19 (.idx 1 (.t 17) (.t 18))) (.tk (jl 20 19) (.tk (jm 21 1) (.tk (jm 22 5) (.tk (q 23 (.idx 1 (.t 21) (.t 22))) (.tk (jl 24 23) (.tk (jb 25 .neq 20 24) .nil))))))))))
 (.cond (.t 25) (jo [q 4 (.mv (.c (.bool false)))]
 .ret) .skip)))
 (.ops [jm 15 5, jk 16 .add 15 1, jm 5 16]))))))
 (jo [q 4 (.mv (.c (.bool true)))]
 .ret))))
theorem w_laws_lwTexts : Wk Tryz.prog 22 26 [.tmp 4] b_laws_lwTexts := Wk.of mixedOrders Tryz.func22 (by kernel_rfl) (by kernel_rfl)

theorem lwTexts_pc {h : H} {v1 v2 : Value} {l1 l2 : List (List UInt8)} (hv : Sl h v1 1 (strs l1)) (hu : Sl h v2 1 (strs l2)) (hn : l1.length ≤ 1048576) : PC Tryz.prog 22 [v1, v2] h (.bool (decide (l1 = l2))) := by
 obtain ⟨a, c, b, o, rfl, hc, r2, r3⟩ := hv
 obtain ⟨a', c', b', o', rfl, hc', q2, q3⟩ := hu
 have e1 : (strs l1).length = l1.length := by simp
 have e2 : (strs l2).length = l2.length := by simp
 rw [e1] at r2
 rw [e2] at q2
 skip
 by_cases hl : l1.length = l2.length
 rotate_left
 ·refine w_laws_lwTexts (by simp) ?_
  unfold b_laws_lwTexts
  simp -implicitDefEqProofs only [go_sem, hl, show ¬ ((l1.length : Int) = (l2.length : Int)) by omega, e1, e2]
  exact dec_f fun h => hl (by rw [h])
 have hl0 : decide ((l1.length : Int) = (l2.length : Int)) = true := decide_eq_true (by omega)
 have hl1 : ((l1.length : Int) ≠ (l2.length : Int)) = False := eq_false fun h => h (by omega)
 refine w_laws_lwTexts (by simp) ?_
 unfold b_laws_lwTexts
 simp -implicitDefEqProofs only [go_sem, hl0, hl1, e1, e2]
 refine loopW_of (fun m f h' => ∃ k, m + k = l1.length ∧ h' = h ∧ f 0 = .slice a l1.length c ∧ f 1 = .slice a' l2.length c' ∧ f 5 = i64 k ∧ l1.take k = l2.take k) l1.length
  ⟨0, by simp, rfl, by simp -implicitDefEqProofs only [go_sem, e1, e2], by simp -implicitDefEqProofs only [go_sem, e1, e2], by simp -implicitDefEqProofs only [go_sem, e1, e2]; rfl, by simp⟩ ?_
 rintro m f h' ⟨k, hm, rfl, f0, f1, f5, ht⟩
 skip
 by_cases hk : k < l1.length
 ·have hk2 : k < l2.length := by omega
  have d1 := r3 k _ (show (strs l1)[k]? = some [str l1[k]] by simp [hk])
  have d2 := q3 k _ (show (strs l2)[k]? = some [str l2[k]] by simp [hk2])
  have hs : l1.take (k + 1) = l2.take (k + 1) ↔ l1[k] = l2[k] := by
   rw [List.take_succ_eq_append_getElem hk, List.take_succ_eq_append_getElem hk2, ht]
   exact ⟨fun h => (List.cons.inj (List.append_cancel_left h)).1, fun h => by rw [h]⟩
  by_cases he : l1[k] = l2[k]
  ·skip
   simp -implicitDefEqProofs only [go_sem, hk, hk2, r2, q2, d1, d2, he, wrap_i64 (show -(9223372036854775808 : Int) ≤ ((k : Int) + 1) by omega) (show ((k : Int) + 1) < 9223372036854775808 by omega), e1, e2, f0, f1, f5, Int.ofNat_lt, Int.natCast_nonneg]
   exact ⟨m - 1, by omega, h', Ext.refl _, k + 1, by omega, rfl, rfl, hs.2 he⟩
  ·skip
   simp -implicitDefEqProofs only [go_sem, hk, hk2, r2, q2, d1, d2, he, e1, e2, f0, f1, f5, Int.ofNat_lt, Int.natCast_nonneg]
   exact dec_f fun h => he (hs.1 (by rw [h]))
 ·have e : k = l1.length := by omega
  subst e
  simp -implicitDefEqProofs only [go_sem, Nat.lt_irrefl, e1, e2, f0, f1, f5, Int.ofNat_lt, Int.natCast_nonneg]
  exact dec_t (by rw [List.take_length, hl, List.take_length] at ht; exact ht)
end Go.Proofs.YthjbhdmjfakfaaaGreatDoor
namespace Go.Proofs.YthjbhdmjfakfaaaGreatDoor
open Go.KH

end Go.Proofs.YthjbhdmjfakfaaaGreatDoor
namespace Go.Proofs.YthjbhdmjfakfaaaGreatDoor
open Go.KH

theorem bytes_of_rows2 (rows : List (List Value)) (h : ∀ r ∈ rows, fitsF [.int .u8] r) : ∃ l : List UInt8, rows = bys l := by
 obtain ⟨l, e, -⟩ := rows_of (fun b : UInt8 => [.int .u8 (b.toNat : Int)]) (fun _ => True) rows fun r hr => by
  obtain ⟨_, _, rfl, h1, h⟩ := fitsF_cons (h r hr)
  obtain rfl := fitsF_nil h
  obtain ⟨n, rfl, k1, k2⟩ := h1
  have m1 : IntKind.u8.min = 0 := rfl
  have m2 : IntKind.u8.max = 255 := rfl
  refine ⟨UInt8.ofNat n.toNat, ?_, trivial⟩
  have : ((UInt8.ofNat n.toNat).toNat : Int) = n := by simp; omega
  rw [this]
 exact ⟨l, e⟩
theorem okAs_codes {h : H} {args : List Value} (ha : okAs h [.one (.sl [.int .u8]), .one (.sl [.int .u8])] args) : ∃ (v w : Value) (l1 l2 : List UInt8), args = [v, w] ∧ Sl h v 1 (bys l1) ∧ Sl h w 1 (bys l2) := by
 obtain ⟨v, _, rfl, ⟨rows, hs, hf, hn⟩, a0⟩ := okAs_cons ha
 obtain ⟨w, _, rfl, ⟨rows2, hs2, hf2, hn2⟩, a1⟩ := okAs_cons a0
 obtain rfl := okAs_nil a1
 obtain ⟨l1, rfl⟩ := bytes_of_rows2 rows hf
 obtain ⟨l2, rfl⟩ := bytes_of_rows2 rows2 hf2
 exact ⟨v, w, l1, l2, rfl, hs, hs2⟩
end Go.Proofs.YthjbhdmjfakfaaaGreatDoor
namespace Go.Proofs.YthjbhdmjfakfaaaGreatDoor
open Go.KH

def b_laws_lwAt : C := (jo [q 6 (.mv (.c (i64 0)))]
 (.seq (jo [jm 7 2, jk 8 .leq 7 1, jm 9 8, qg 10 9 false (.mv (.t 0)), qg 11 9 false (.len (.t 10)), qg 12 9 false (.bin .eql (.t 11) (.c (i64 0))), q 13 (.pick (.t 9) (.c (.bool true)) (.t 12))]
 (.cond (.t 13) (jo [q 6 (.mv (.c (i64 0)))]
 .ret) .skip))
 (jo [jm 14 0, jm 15 1, jm 16 0, q 17 (.len (.t 16)), jb 18 .rem 15 17, q 19 (.idx 1 (.t 14) (.t 18)), jl 20 19, q 21 (.cv .i64 (.t 20)), jm 22 2, jb 23 .rem 21 22, jm 6 23]
 .ret)))
theorem w_laws_lwAt : Wk Tryz.prog 21 24 [.tmp 6] b_laws_lwAt := Wk.of mixedOrders Tryz.func21 (by kernel_rfl) (by kernel_rfl)

theorem lwAt_pc {h : H} {v : Value} {l : List UInt8} {at' : Nat} {most : Int} (hv : Sl h v 1 (bys l)) (hn : l.length ≤ 1048576) (ha : at' ≤ 1000) (hm : in64 most) : ∃ k : Int, (0 ≤ k ∧ (1 < most → k < most) ∧ (most ≤ 1 → k = 0)) ∧ PC Tryz.prog 21 [v, i64 at', i64 most] h (i64 k) := by
 obtain ⟨a, c, b, o, rfl, hc, r2, r3⟩ := hv
 have e1 : (bys l).length = l.length := by simp [bys]
 rw [e1] at r2
 by_cases h1 : most ≤ 1
 ·refine ⟨0, ⟨by omega, by omega, fun _ => rfl⟩, PC_of ?_⟩
  skip
  refine w_laws_lwAt (by simp) ?_
  unfold b_laws_lwAt
  simp -implicitDefEqProofs only [go_sem, h1, e1]
  exact Ext.refl _
 by_cases h0 : l.length = 0
 ·refine ⟨0, ⟨by omega, by omega, fun _ => rfl⟩, PC_of ?_⟩
  skip
  refine w_laws_lwAt (by simp) ?_
  unfold b_laws_lwAt
  simp -implicitDefEqProofs only [go_sem, h1, h0, show ((0 : Nat) : Int) = 0 from rfl, e1, e1]
  exact Ext.refl _
 ·have hlt := Nat.mod_lt at' (show l.length > 0 by omega)
  have hq : (at' : Int).tmod (l.length : Int) = ((at' % l.length : Nat) : Int) := by
   rw [Int.tmod_eq_emod_of_nonneg (by omega), ← Int.natCast_emod]
  have d := r3 (at' % l.length) [u8 (l[at' % l.length]).toNat] (by simp [bys, hlt])
  obtain ⟨x, hx⟩ : ∃ x : Nat, (l[at' % l.length]).toNat = x := ⟨_, rfl⟩
  have hx2 : x < 256 := by rw [← hx]; exact UInt8.toNat_lt _
  rw [hx] at d
  have hw : IntKind.i64.wrap (x : Int) = (x : Int) := wrap_i64 (by omega) (by omega)
  have h5 : (0 : Int) ≤ (x : Int).tmod most ∧ (x : Int).tmod most < most ∧ (x : Int).tmod most ≤ x := by
   rw [Int.tmod_eq_emod_of_nonneg (by omega)]
   exact ⟨Int.emod_nonneg _ (by omega), Int.emod_lt_of_pos _ (by omega), by
    have := Int.emod_add_mul_ediv (x : Int) most
    have h6 : 0 ≤ (x : Int) / most := Int.ediv_nonneg (by omega) (by omega)
    have h7 : 0 ≤ most * ((x : Int) / most) := Int.mul_nonneg (by omega) h6
    omega⟩
  refine ⟨(x : Int).tmod most, ⟨h5.1, fun _ => h5.2.1, fun h => absurd h h1⟩, PC_of ?_⟩
  have hw2 : IntKind.i64.wrap ((x : Int).tmod most) = (x : Int).tmod most := wrap_i64 (by omega) (by omega)
  skip
  refine w_laws_lwAt (by simp) ?_
  unfold b_laws_lwAt
  simp -implicitDefEqProofs only [go_sem, h1, show ¬ ((l.length : Int) = 0) by omega, hq, show ¬ (most = 0) by omega, Int.ofNat_lt, Int.natCast_nonneg, hlt, r2, d, hw, hw2, e1, e1, e1]
  exact Ext.refl _
end Go.Proofs.YthjbhdmjfakfaaaGreatDoor