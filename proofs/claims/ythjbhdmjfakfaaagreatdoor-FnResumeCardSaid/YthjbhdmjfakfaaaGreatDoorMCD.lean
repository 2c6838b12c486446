/- A helper of this seat's claims (contracts of the functions): what it shows is shown for every input that its statements name, on no other condition. -/
import Derived.Test.YthjbhdmjfakfaaaGreatDoorKD
import Derived.Test.YthjbhdmjfakfaaaGreatDoorMC14y
set_option linter.unusedVariables false
set_option linter.unusedSimpArgs false
set_option maxRecDepth 100000
namespace Go.Proofs.YthjbhdmjfakfaaaGreatDoor
open Go.KH

def Src (v : Value) (l : List UInt8) (h : H) (b : Nat) : Prop := ∃ (a : Nat) (mix size : Int), h.get b = some ⟨[v, i64 a, .int .u64 mix, i64 size], 4⟩ ∧ Sl h v 1 (bys l) ∧ h.base ≤ b ∧ l.length ≤ 1048576 ∧ a ≤ l.length ∧ (0 ≤ size ∧ size ≤ 12) ∧ ∀ c, blk v = some c → c ≠ b
theorem Src.known {v : Value} {l : List UInt8} {h : H} {b : Nat} (s : Src v l h b) : h.get b ≠ none := by obtain ⟨a, m, z, hg, _⟩ := s; rw [hg]; simp
theorem Src.sl {v : Value} {l : List UInt8} {h : H} {b : Nat} (s : Src v l h b) : Sl h v 1 (bys l) := by obtain ⟨a, m, z, hg, h1, _⟩ := s; exact h1
theorem Src.keep {S : Nat → Prop} {v : Value} {l : List UInt8} {h h' : H} {b : Nat} (s : Src v l h b) (k : Keep S h h') (hb : ¬ S b) (hv : ∀ c, blk v = some c → ¬ S c) : Src v l h' b := by
 obtain ⟨a, m, z, hg, h1, h2, h3, h4, h5, h6⟩ := s
 exact ⟨a, m, z, k.2.1 b _ hb hg, h1.keep k hv, by rw [k.1]; exact h2, h3, h4, h5, h6⟩
theorem Src.ext {v : Value} {l : List UInt8} {h h' : H} {b : Nat} (s : Src v l h b) (e : Ext h h') : Src v l h' b := by
 obtain ⟨a, m, z, hg, h1, h2, h3, h4, h5, h6⟩ := s
 exact ⟨a, m, z, e.2.g b _ hg, h1.ext e, by rw [e.1]; exact h2, h3, h4, h5, h6⟩
theorem Src.keepM {h0 : H} {v : Value} {l : List UInt8} {h h' : H} {b : Nat} (s : Src v l h b) (k : KeepM (fun x => h0.get x = none) (fun _ => False) h h') (hb : h0.get b ≠ none) (hv : Known h0 v) : Src v l h' b := by
 obtain ⟨a, m, z, hg, h1, h2, h3, h4, h5, h6⟩ := s
 exact ⟨a, m, z, k.2.1 b _ hb hg, k.sl h1 (fun c hc => hv c hc), by rw [k.1]; exact h2, h3, h4, h5, h6⟩
def Drew (v : Value) (l : List UInt8) (b : Nat) (h h' : H) : Prop := Keep (fun x => x = b) h h' ∧ Src v l h' b
theorem Drew.trans {v : Value} {l : List UInt8} {b : Nat} {h1 h2 h3 : H} (d : Drew v l b h1 h2) (e : Drew v l b h2 h3) : Drew v l b h1 h3 := ⟨d.1.trans e.1, e.2⟩
theorem Drew.ext {v : Value} {l : List UInt8} {b : Nat} {h1 h2 h3 : H} (d : Drew v l b h1 h2) (e : Ext h2 h3) : Drew v l b h1 h3 := ⟨d.1.trans (e.keep _), d.2.ext e⟩
theorem Drew.of_ext {v : Value} {l : List UInt8} {b : Nat} {h1 h2 : H} (s : Src v l h1 b) (e : Ext h1 h2) : Drew v l b h1 h2 := ⟨e.keep _, s.ext e⟩
theorem Drew.set {v : Value} {l : List UInt8} {b : Nat} {h1 h2 : H} (d : Drew v l b h1 h2) {c : Nat} (hn : h1.get c = none) (s : Src v l h1 b) (ob : Ob) : Drew v l b h1 (h2.set c ob) := by
 have hcb : c ≠ b := fun e => by subst e; exact s.known hn
 refine ⟨⟨d.1.1, fun x ox hx hg => ?_, d.1.2.2.1, fun x hx => ?_⟩, ?_⟩
 ·rw [H.set_get_ne _ _ _ _ (fun e => by subst e; rw [hn] at hg; cases hg)]; exact d.1.2.1 x ox hx hg
 ·by_cases e : x = c
  ·subst e; rw [H.set_get_same]; simp
  ·rw [H.set_get_ne _ _ _ _ e]; exact d.1.2.2.2 x hx
 ·obtain ⟨a, m, z, hg, q1, q2, q3, q4, q5, q6⟩ := d.2
  exact ⟨a, m, z, by rw [H.set_get_ne _ _ _ _ hcb.symm]; exact hg, q1.set (fun x hx e => by subst e; exact s.sl.known x hx hn) _, q2, q3, q4, q5, q6⟩
theorem draw_bound (X : Int) {most : Int} (h1 : 1 < most) (h2 : most < 9223372036854775808) : 0 ≤ IntKind.i64.wrap ((IntKind.u64.wrap X).tmod most) ∧ IntKind.i64.wrap ((IntKind.u64.wrap X).tmod most) < most := by
 have h0 : 0 ≤ IntKind.u64.wrap X := by
  rw [wrap_u64m]; omega
 have e := Int.tmod_eq_emod_of_nonneg (b := most) h0
 have l1 := Int.emod_nonneg (IntKind.u64.wrap X) (b := most) (by omega)
 have l2 := Int.emod_lt_of_pos (IntKind.u64.wrap X) (b := most) (by omega)
 rw [e, wrap_i64 (by omega) (by omega)]
 exact ⟨l1, l2⟩
def b_spec_l01Src_n : C := (jo [q 4 (.mv (.c (i64 0)))]
 (.seq (jo [jm 6 1, jk 7 .leq 6 1]
 (.cond (.t 7) (jo [q 4 (.mv (.c (i64 0)))]
 .ret) .skip))
 (jo [q 5 (.mv (.c (.int .u64 0)))]
 (.seq (.seq (.dops true (.tk (jm 8 0) (.tk (q 9 (.nck (.t 8))) (.tk (jf 10 1 9) (.tk (jl 11 10) (.tk (jm 12 0) (.tk (q 13 (.nck (.t 12))) (.tk (jf 14 0 13) (.tk (jl 15 14) (.tk (q 16 (.len (.t 15))) (.tk (jb 17 .lss 11 16) .nil)))))))))))
 (.cond (.t 17) (.seq (.dops true (.tk (jm 18 0) (.tk (q 19 (.nck (.t 18))) (.tk (jf 20 0 19) (.tk (jl 21 20) (.tk (jm 22 0) (.tk (q 23 (.nck (.t 22))) (.tk (jf 24 1 23) (.tk (jl 25 24) (.tk (q 26 (.idx 1 (.t 21) (.t 25))) (.tk (jl 27 26) (.tk (q 28 (.cv .u64 (.t 27))) (.tk (jm 5 28) .nil)))))))))))))
 (.ops [jm 29 0, jm 30 0, q 31 (.nck (.t 30)), jf 32 1 31, jl 33 32, jk 34 .add 33 1, q 35 (.nck (.t 29)), jf 36 1 35, js 1 36 34])) .skip))
 (.seq (.dops true (.tk (jm 37 0) (.tk (jm 38 0) (.tk (q 39 (.nck (.t 38))) (.tk (jf 40 2 39) (.tk (jl 41 40) (.tk (jm 42 0) (.tk (q 43 (.nck (.t 42))) (.tk (jf 44 2 43) (.tk (jl 45 44) (.tk (q 46 (.bin .shl (.t 45) (.c (.int .u64 13)))) (.tk (jb 47 .xor 41 46) (.tk (q 48 (.nck (.t 37))) (.tk (jf 49 2 48) (.lt (js 1 49 47) .nil)))))))))))))))
 (.seq (.dops true (.tk (jm 50 0) (.tk (jm 51 0) (.tk (q 52 (.nck (.t 51))) (.tk (jf 53 2 52) (.tk (jl 54 53) (.tk (jm 55 0) (.tk (q 56 (.nck (.t 55))) (.tk (jf 57 2 56) (.tk (jl 58 57) (.tk (q 59 (.bin .shr (.t 58) (.c (.int .u64 7)))) (.tk (jb 60 .xor 54 59) (.tk (q 61 (.nck (.t 50))) (.tk (jf 62 2 61) (.lt (js 1 62 60) .nil)))))))))))))))
 (.seq (.dops true (.tk (jm 63 0) (.tk (jm 64 0) (.tk (q 65 (.nck (.t 64))) (.tk (jf 66 2 65) (.tk (jl 67 66) (.tk (jm 68 0) (.tk (q 69 (.nck (.t 68))) (.tk (jf 70 2 69) (.tk (jl 71 70) (.tk (q 72 (.bin .shl (.t 71) (.c (.int .u64 17)))) (.tk (jb 73 .xor 67 72) (.tk (q 74 (.nck (.t 63))) (.tk (jf 75 2 74) (.lt (js 1 75 73) .nil)))))))))))))))
 (jo [jm 76 5, jm 77 0, q 78 (.nck (.t 77)), jf 79 2 78, jl 80 79, q 81 (.bin .shr (.t 80) (.c (.int .u64 20))), jb 82 .add 76 81, jm 83 1, q 84 (.cv .u64 (.t 83)), jb 85 .rem 82 84, q 86 (.cv .i64 (.t 85)), jm 4 86]
 .ret))))))))
theorem w_spec_l01Src_n : Wk Tryz.prog 43 87 [.tmp 4] b_spec_l01Src_n := Wk.of mixedOrders Tryz.func43 (by kernel_rfl) (by kernel_rfl)

theorem src_n {h : H} {b : Nat} {v : Value} {l : List UInt8} {most : Int} (hs : Src v l h b) (hm : most < 9223372036854775808) : AC Tryz.prog 43 [ptr b 0, i64 most] h fun r h' => (∃ k : Int, r = i64 k ∧ 0 ≤ k ∧ (1 < most → k < most) ∧ (most ≤ 1 → k = 0)) ∧ Drew v l b h h' := by
 have hs0 := hs
 obtain ⟨a, mix, size, hg, hv, hb, hl, ha, hz, hd⟩ := hs
 have hs' := hv
 obtain ⟨va, vc, vb, vo, rfl, hc, r2, r3⟩ := hv
 have hbl : (bys l).length = l.length := by simp [bys]
 rw [hbl] at r2 hs' hd
 have h1' : ¬ most ≤ 1 → 1 < most := by omega
 refine w_spec_l01Src_n (by simp) ?_
 unfold b_spec_l01Src_n
 simp -implicitDefEqProofs only [go_sem]
 by_cases h1 : most ≤ 1
 ·simp -implicitDefEqProofs only [go_sem, h1]
  exact ⟨⟨0, rfl, by omega, by omega, fun _ => rfl⟩, Keep.refl _ _, hs0⟩
 have hw : IntKind.u64.wrap most = most := wrap_u64 (by omega) (by omega)
 have hm0 : ¬ most = 0 := by omega
 have sub : ∀ X, Sl (h.set b X) (.slice va l.length vc) 1 (bys l) := fun X => hs'.set (fun c hc => hd c hc) _
 have kp : ∀ X, Keep (fun x => x = b) h (h.set b X) := fun X => (Keep.refl (fun x => x = b) h).set (.inl rfl) _
 by_cases h2 : a < l.length
 ·have e1 := r3 a [u8 (l[a]).toNat] (by simp [bys, h2])
  simp -implicitDefEqProofs only [go_sem, h1, hw, hm0, ldc_get hg, stc_get hg, hb, hbl, h2, r2, e1, Int.ofNat_lt, Int.natCast_nonneg, wrap_i64 (show -(9223372036854775808 : Int) ≤ ((a : Int) + 1) by omega) (show ((a : Int) + 1) < 9223372036854775808 by omega)]
  refine ⟨⟨_, rfl, ?_, ?_, ?_⟩, kp _, ⟨a + 1, _, size, H.set_get_same _ _ _, sub _, hb, hl, by omega, hz, hd⟩⟩
  ·exact (draw_bound (most := most) _ (h1' h1) hm).1
  ·intro _; exact (draw_bound (most := most) _ (h1' h1) hm).2
  ·intro q; exact q.elim
 ·simp -implicitDefEqProofs only [go_sem, h1, hw, hm0, ldc_get hg, stc_get hg, hb, hbl, h2, r2, Int.ofNat_lt, Int.natCast_nonneg]
  refine ⟨⟨_, rfl, ?_, ?_, ?_⟩, kp _, ⟨a, _, size, H.set_get_same _ _ _, sub _, hb, hl, by omega, hz, hd⟩⟩
  ·exact (draw_bound (most := most) _ (h1' h1) hm).1
  ·intro _; exact (draw_bound (most := most) _ (h1' h1) hm).2
  ·intro q; exact q.elim
def b_spec_l01Src_one : C := (jo [q 4 (.mv (.c (.bool false)))]
 (jo [jm 5 0, jm 6 1, jc 7 43 [(.t 5), (.t 6)], jk 8 .eql 7 0, jm 4 8]
 .ret))
theorem w_spec_l01Src_one : Wk Tryz.prog 48 9 [.tmp 4] b_spec_l01Src_one := Wk.of mixedOrders Tryz.func48 (by kernel_rfl) (by kernel_rfl)

theorem src_one {h : H} {b : Nat} {v : Value} {l : List UInt8} {most : Int} (hs : Src v l h b) (hm : most < 9223372036854775808) : AC Tryz.prog 48 [ptr b 0, i64 most] h fun r h' => (∃ x : Bool, r = .bool x) ∧ Drew v l b h h' := by
 refine w_spec_l01Src_one (by simp) ?_
 unfold b_spec_l01Src_one
 simp -implicitDefEqProofs only [go_sem]
 refine AC_of (src_n hs hm) ?_
 rintro _ h1 - ⟨⟨k, rfl, -⟩, d⟩
 simp -implicitDefEqProofs only [go_sem]
 exact ⟨⟨_, rfl⟩, d⟩
def b_spec_l01Src_pick : C := (jo [q 4 (.mv (.c (str [])))]
 (jo [jm 5 1, jm 6 0, jm 7 1, q 8 (.len (.t 7)), jc 9 43 [(.t 6), (.t 8)], q 10 (.idx 1 (.t 5) (.t 9)), jl 11 10, jm 4 11]
 .ret))
theorem w_spec_l01Src_pick : Wk Tryz.prog 171 12 [.tmp 4] b_spec_l01Src_pick := Wk.of mixedOrders Tryz.func171 (by kernel_rfl) (by kernel_rfl)

theorem src_pick {h : H} {b : Nat} {v u : Value} {l : List UInt8} {t : List (List UInt8)} (hs : Src v l h b) (hu : Sl h u 1 (strs t)) (ht : 1 < t.length ∧ t.length ≤ 1000) (hd : ∀ c, blk u = some c → c ≠ b) : AC Tryz.prog 171 [ptr b 0, u] h fun r h' => (∃ s, s ∈ t ∧ r = str s) ∧ Drew v l b h h' := by
 obtain ⟨a, c, rfl⟩ := hu.shape
 have hl : (strs t).length = t.length := by simp
 rw [hl] at hu hd
 refine w_spec_l01Src_pick (by simp) ?_
 unfold b_spec_l01Src_pick
 simp -implicitDefEqProofs only [go_sem, hl]
 refine AC_of (src_n hs (by omega)) ?_
 rintro _ h1 - ⟨⟨k, rfl, k0, k1, -⟩, d⟩
 have hu1 := hu.keep d.1 (fun c hc e => hd c hc e)
 obtain ⟨a', c', bu, ou, e, hc, r2, r3⟩ := hu1
 obtain ⟨n, rfl⟩ : ∃ n : Nat, k = n := ⟨k.toNat, by omega⟩
 have hn : n < t.length := by have := k1 (by omega); omega
 simp only [hl, Value.slice.injEq, true_and] at e
 obtain ⟨rfl, rfl⟩ := e
 rw [hl] at r2
 have e1 := r3 n [str t[n]] (by simp [hn])
 simp -implicitDefEqProofs only [go_sem, hl, hn, r2, e1, Int.ofNat_lt, Int.natCast_nonneg]
 exact ⟨⟨_, List.getElem_mem hn, rfl⟩, d⟩
def b_spec_l01Src_bytes : C := (jo [q 4 (.mv (.c (str [])))]
 (jo [⟨(some 7), none, .bsl 0 [] []⟩, jm 5 7]
 (.seq (jo [q 6 (.mv (.c (i64 0)))]
 (.block 0 (.loop (.seq (jo [jm 8 6, jm 9 1, jb 10 .lss 8 9]
 (.cond (.t 10) .skip (.exit 0)))
 (.seq (.block 1 (.ops [jm 13 5, jm 14 0, jc 15 43 [(.t 14), (.c (i64 256))], q 16 (.cv .u8 (.t 15)), ⟨(some 17), none, .bsl 1 [(u8 0)] [(0, 1, (.t 16))]⟩, ⟨(some 18), none, .app 1 1 (.t 13) (.t 17)⟩, jm 5 18]))
 (.ops [jm 11 6, jk 12 .add 11 1, jm 6 12]))))))
 (jo [jm 19 5, q 20 (.b2s (.t 19)), jm 4 20]
 .ret))))
theorem w_spec_l01Src_bytes : Wk Tryz.prog 102 21 [.tmp 4] b_spec_l01Src_bytes := Wk.of mixedOrders Tryz.func102 (by kernel_rfl) (by kernel_rfl)

theorem src_bytes {h : H} {b n : Nat} {v : Value} {l : List UInt8} (hs : Src v l h b) (hn : n ≤ 1000) : AC Tryz.prog 102 [ptr b 0, i64 n] h fun r h' => (∃ s : List UInt8, s.length = n ∧ r = str s) ∧ Drew v l b h h' := by
 have hS : ∀ x, x = b → h.get x ≠ none := fun x e => by subst e; exact hs.known
 refine w_spec_l01Src_bytes (by simp) ?_
 unfold b_spec_l01Src_bytes
 simp -implicitDefEqProofs only [go_sem]
 intro b0 hb0 n0
 simp -implicitDefEqProofs only [go_sem]
 refine loopW_of (fun m f h' => ∃ (k : Nat) (acc : List UInt8) (u : Value), m + k = n ∧ f 0 = ptr b 0 ∧ f 1 = i64 n ∧ f 5 = u ∧ f 6 = i64 k ∧ acc.length = k ∧ Drew v l b h h' ∧ Own h h' u 1 (bys acc)) n
  ⟨0, [], sl b0 0 0 0, by simp, by simp -implicitDefEqProofs only [go_sem], by simp -implicitDefEqProofs only [go_sem], by simp -implicitDefEqProofs only [go_sem], by simp -implicitDefEqProofs only [go_sem]; rfl, rfl, Drew.of_ext hs ((Ext.refl _).set n0 _), .inr ⟨b0, 0, 0, rfl, Nat.le_refl _, hb0, n0, H.set_get_same _ _ _, by simp, Wid.nil 1⟩⟩ ?_
 rintro m f h' ⟨k, acc, u, hm, f0, f1, f5, f6, hk, d, ho⟩
 obtain ⟨au, cu, rfl⟩ := ho.shape
 have hbl : (bys acc).length = k := by simp [bys, hk]
 rw [hbl] at f5 ho
 skip
 by_cases hkn : k < n
 ·simp -implicitDefEqProofs only [go_sem, hkn, f0, f1, f5, f6, Int.ofNat_lt, Int.natCast_nonneg]
  refine AC_of (src_n d.2 (by omega)) ?_
  rintro _ h1 - ⟨⟨q, rfl, q0, q1, -⟩, d1⟩
  have hq := q1 (by omega)
  obtain ⟨x, rfl⟩ : ∃ x : Nat, q = x := ⟨q.toNat, by omega⟩
  simp -implicitDefEqProofs only [go_sem, wrap_u8 (show (0 : Int) ≤ (x : Int) by omega) (show (x : Int) < 256 by omega), f0, f1, f5, f6, Int.ofNat_lt, Int.natCast_nonneg]
  intro bx hbx nx
  simp -implicitDefEqProofs only [go_sem, f0, f1, f5, f6, Int.ofNat_lt, Int.natCast_nonneg]
  have d2 := d.trans d1
  have o1 := (Own.keepS ho d1.1 hS).ext ((Ext.refl h1).set nx ⟨[.int .u8 x], 1⟩)
  refine appW_keep (h0 := h) (rows := bys acc) (new := bys [UInt8.ofNat x]) (fun c hc => Keep.nones d2.1 c (by
   by_cases e : c = bx
   ·subst e; rw [H.set_get_same] at hc; cases hc
   ·rw [H.set_get_ne _ _ _ _ e] at hc; exact hc)) o1 (by simp -implicitDefEqProofs only [go_sem, f0, f1, f5, f6, Int.ofNat_lt, Int.natCast_nonneg]; simp [bys]; omega) (by intro r hr; simp [bys] at hr; subst hr; rfl) (by simp [bys, Value.oneCell']) (by simp [bys]; omega) ?_
  intro v' h2 k2 o2
  obtain ⟨av, cv, rfl⟩ := o2.shape
  have hkn2 := hs.sl.known
  have d3 := d2.ext ((Ext.refl h1).set nx ⟨[.int .u8 x], 1⟩)
  simp -implicitDefEqProofs only [go_sem, hkn, wrap_i64 (show -(9223372036854775808 : Int) ≤ ((k : Int) + 1) by omega) (show ((k : Int) + 1) < 9223372036854775808 by omega), f0, f1, f5, f6, Int.ofNat_lt, Int.natCast_nonneg]
  exact ⟨m - 1, by omega, h2, Ext.refl _, k + 1, acc ++ [UInt8.ofNat x], _, by omega, rfl, rfl, by simp [hk], ⟨Keep.own d3.1 k2, Src.keepM d3.2 k2 hs.known hkn2⟩, by simpa [bys] using o2⟩
 ·have e : k = n := by omega
  subst e
  rcases ho with ⟨hv, he⟩ | ⟨bq, cq, z, hv, hlc, hbb, h0b, hg, hcz, hw⟩
  ·simp only [nils, Value.slice.injEq] at hv
   obtain ⟨rfl, hk0, rfl⟩ := hv
   have : acc = [] := by simpa [bys] using he
   subst this
   simp only [List.length_nil] at hk
   subst hk
   simp -implicitDefEqProofs only [go_sem, Nat.lt_irrefl, show asR (.slice none 0 0) = some (0, 0, 0) from rfl, f0, f1, f5, f6, Int.ofNat_lt, Int.natCast_nonneg]
   exact ⟨⟨[], rfl, rfl⟩, d⟩
  ·simp only [sl, Value.slice.injEq] at hv
   obtain ⟨rfl, hk0, rfl⟩ := hv
   rw [bys_flat] at hg
   have hul : (u8s acc).length = k := by simp [u8s, hk]
   have e1 : ldc h' bq 0 k = some (u8s acc) := by rw [ldc_get hg, if_pos (by simp [hul]), List.drop_zero, ← hul, List.take_length]
   by_cases h0 : k = 0
   ·have : acc = [] := List.length_eq_zero_iff.1 (by omega)
    subst this
    simp -implicitDefEqProofs only [go_sem, Nat.lt_irrefl, h0, f0, f1, f5, f6, Int.ofNat_lt, Int.natCast_nonneg]
    exact ⟨⟨[], by simp [← hk], rfl⟩, d⟩
   ·simp -implicitDefEqProofs only [go_sem, Nat.lt_irrefl, h0, e1, bytesOf_u8s, f0, f1, f5, f6, Int.ofNat_lt, Int.natCast_nonneg]
    exact ⟨⟨acc, hk, rfl⟩, d⟩
end Go.Proofs.YthjbhdmjfakfaaaGreatDoor
namespace Go.KH
open Go.RowKit

theorem or_w32 (x y : BitVec 32) : obin .or (w32 x) (w32 y) = some (w32 (x ||| y)) := by
 rw [bi_or, ofInt_w32, ofInt_w32]
 show some (Value.int .u32 (IntKind.u32.wrap ((x ||| y).toNat : Int))) = _
 rw [wrap_u32v]
theorem and_w32 (x y : BitVec 32) : obin .and (w32 x) (w32 y) = some (w32 (x &&& y)) := by
 rw [bi_and, ofInt_w32, ofInt_w32]
 show some (Value.int .u32 (IntKind.u32.wrap ((x &&& y).toNat : Int))) = _
 rw [wrap_u32v]
theorem add_w32 (x y : BitVec 32) : obin .add (w32 x) (w32 y) = some (w32 (x + y)) := by
 rw [bi_add]
 refine congrArg some (congrArg (Value.int .u32) ?_)
 rw [show ((x.toNat : Int) + (y.toNat : Int)) = ((x.toNat + y.toNat : Nat) : Int) from by push_cast; rfl, wrap_u32n, BitVec.toNat_add]
theorem shl_w32 (x : BitVec 32) (k : IntKind) (j : Nat) (hj : j ≤ 32) : obin .shl (w32 x) (.int k (j : Int)) = some (w32 (x <<< j)) := by
 rw [bi_shl, if_neg (by omega)]
 have : min (j : Int).toNat IntKind.u32.bits = j := by show min (j : Int).toNat 32 = j; omega
 rw [this]
 refine congrArg some (congrArg (Value.int .u32) ?_)
 rw [show ((x.toNat : Int) * 2 ^ j) = ((x.toNat * 2 ^ j : Nat) : Int) from by push_cast; rfl, wrap_u32n, BitVec.toNat_shiftLeft, Nat.shiftLeft_eq]
theorem shl24_w32 (x : BitVec 32) : obin .shl (w32 x) (.int .u64 24) = some (w32 (x <<< 24)) := shl_w32 x .u64 24 (by omega)
theorem shl16_w32 (x : BitVec 32) : obin .shl (w32 x) (.int .u64 16) = some (w32 (x <<< 16)) := shl_w32 x .u64 16 (by omega)
theorem shl8_w32 (x : BitVec 32) : obin .shl (w32 x) (.int .u64 8) = some (w32 (x <<< 8)) := shl_w32 x .u64 8 (by omega)
theorem shr3_w32 (x : BitVec 32) : obin .shr (w32 x) (.int .u64 3) = some (w32 (x >>> 3)) := shr_w32 x .u64 3 (by omega)
theorem shr10_w32 (x : BitVec 32) : obin .shr (w32 x) (.int .u64 10) = some (w32 (x >>> 10)) := shr_w32 x .u64 10 (by omega)
end Go.KH
namespace Go.KH

def rotW (x : BitVec 32) (k : Nat) : BitVec 32 := (x >>> k) ||| (x <<< (32 - k))
def shaKeys : List Nat := [1116352408, 1899447441, 3049323471, 3921009573, 961987163, 1508970993, 2453635748, 2870763221, 3624381080, 310598401, 607225278, 1426881987, 1925078388, 2162078206, 2614888103, 3248222580, 3835390401, 4022224774, 264347078, 604807628, 770255983, 1249150122, 1555081692, 1996064986, 2554220882, 2821834349, 2952996808, 3210313671, 3336571891, 3584528711, 113926993, 338241895, 666307205, 773529912, 1294757372, 1396182291, 1695183700, 1986661051, 2177026350, 2456956037, 2730485921, 2820302411, 3259730800, 3345764771, 3516065817, 3600352804, 4094571909, 275423344, 430227734, 506948616, 659060556, 883997877, 958139571, 1322822218, 1537002063, 1747873779, 1955562222, 2024104815, 2227730452, 2361852424, 2428436474, 2756734187, 3204031479, 3329325298]
def shaKey (i : Nat) : BitVec 32 := BitVec.ofNat 32 (shaKeys.getD i 0)
def wNext (w : List (BitVec 32)) : BitVec 32 :=
 let at' := fun k => w.getD (w.length - k) 0
 at' 16 + (rotW (at' 15) 7 ^^^ rotW (at' 15) 18 ^^^ at' 15 >>> 3) + at' 7 + (rotW (at' 2) 17 ^^^ rotW (at' 2) 19 ^^^ at' 2 >>> 10)
def wGrow (w : List (BitVec 32)) : Nat → List (BitVec 32)
 | 0 => w
 | n + 1 => wGrow w n ++ [wNext (wGrow w n)]
theorem wGrow_length (w : List (BitVec 32)) : ∀ n, (wGrow w n).length = w.length + n
 | 0 => rfl
 | n + 1 => by rw [wGrow, List.length_append, wGrow_length w n]; simp; omega
def beW (l : List UInt8) (i : Nat) : BitVec 32 :=
 b32 (l.getD (4 * i) 0) <<< 24 ||| b32 (l.getD (4 * i + 1) 0) <<< 16 ||| b32 (l.getD (4 * i + 2) 0) <<< 8 ||| b32 (l.getD (4 * i + 3) 0)
def w16 (l : List UInt8) (n : Nat) : List (BitVec 32) := (List.range n).map (beW l)
structure S8 where
 (a b c d e f g h : BitVec 32)
def S8.list (s : S8) : List (BitVec 32) := [s.a, s.b, s.c, s.d, s.e, s.f, s.g, s.h]
def rnd (s : S8) (k w : BitVec 32) : S8 :=
 let t1 := s.h + (rotW s.e 6 ^^^ rotW s.e 11 ^^^ rotW s.e 25) + (s.e &&& s.f ^^^ ~~~ s.e &&& s.g) + k + w
 let t2 := (rotW s.a 2 ^^^ rotW s.a 13 ^^^ rotW s.a 22) + (s.a &&& s.b ^^^ s.a &&& s.c ^^^ s.b &&& s.c)
 ⟨t1 + t2, s.a, s.b, s.c, s.d + t1, s.e, s.f, s.g⟩
def rnds (w : List (BitVec 32)) (s : S8) : Nat → S8
 | 0 => s
 | n + 1 => rnd (rnds w s n) (shaKey n) (w.getD n 0)
def S8.plus (s t : S8) : S8 := ⟨s.a + t.a, s.b + t.b, s.c + t.c, s.d + t.d, s.e + t.e, s.f + t.f, s.g + t.g, s.h + t.h⟩
def shaBlock (s : S8) (l : List UInt8) : S8 := s.plus (rnds (wGrow (w16 l 16) 48) s 64)
def shaBlocks (l : List UInt8) (s : S8) : Nat → S8
 | 0 => s
 | n + 1 => shaBlock (shaBlocks l s n) ((l.drop (64 * n)).take 64)
def shaStart : S8 := ⟨1779033703, 3144134277, 1013904242, 2773480762, 1359893119, 2600822924, 528734635, 1541459225⟩
def shaPad (l : List UInt8) : List UInt8 :=
 l ++ [128] ++ List.replicate ((119 - l.length % 64) % 64) 0 ++ (List.range 8).map fun k => UInt8.ofNat (8 * l.length / 2 ^ (56 - 8 * k))
def beB (x : BitVec 32) : List UInt8 := [UInt8.ofNat (x.toNat / 16777216), UInt8.ofNat (x.toNat / 65536), UInt8.ofNat (x.toNat / 256), UInt8.ofNat x.toNat]
def shaL (l : List UInt8) : List UInt8 := ((shaBlocks (shaPad l) shaStart ((shaPad l).length / 64)).list.map beB).flatten
theorem shaL_length (l : List UInt8) : (shaL l).length = 32 := by
 simp [shaL, S8.list, beB]
end Go.KH