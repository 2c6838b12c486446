/- A helper of this seat's claims (contracts of the functions): what it shows is shown for every input that its statements name, on no other condition. -/
import Derived.Test.YthjbhdmjfakfaaaGreatDoorCX
import Derived.Test.YthjbhdmjfakfaaaGreatDoorMCRb
import Derived.Test.YthjbhdmjfakfaaaGreatDoorC10s
set_option linter.unusedVariables false
set_option linter.unusedSimpArgs false
set_option maxRecDepth 100000
namespace Go.Proofs.YthjbhdmjfakfaaaGreatDoor
open Go.KH

theorem srcOf_some {h : H} {a : Option Addr} {n c b o w : Nat} {r : Nat × List Value} (hr : asR (.slice a (n + 1) c) = some (b, o, n + 1)) (hs : srcOf h w (.slice a (n + 1) c) = some r) : ldc h b o ((n + 1) * w) = some r.2 := by
 cases a with
 | none => simp [asR] at hr
 | some a =>
  have := asR_blk hr
  subst this
  rw [srcOf_sl, Option.bind_eq_some_iff] at hs
  obtain ⟨cs, h1, h2⟩ := hs
  simp only [Option.some.injEq] at h2
  rw [h1, ← h2]
theorem b2s_sl {h : H} {v : Value} {l : List UInt8} {K : Value → Prop} (s : Sl h v 1 (bys l)) (hk : K (str l)) :
  withO (asR v) fun p => Br (p.2.2 = 0) (withO (some (str [])) K) (withO (ldc h p.1 p.2.1 p.2.2) fun cs => withO (bytesOf cs) fun r => withO (some (str r)) K) := by
 have hsrc := s.src (Wid.map fun _ => rfl) (by decide)
 obtain ⟨a, c, b, o, rfl, hc, hr, hl⟩ := s
 have hbl : (bys l).length = l.length := by simp
 rw [hbl] at hr hsrc
 rw [hbl, hr]
 simp only [withO_some]
 refine Br.of (fun h0 => ?_) (fun h0 => ?_)
 ·have : l = [] := List.length_eq_zero_iff.1 h0
  subst this; exact hk
 ·obtain ⟨n, hn⟩ : ∃ n, l.length = n + 1 := ⟨l.length - 1, by omega⟩
  rw [hn] at hr hsrc
  have := srcOf_some hr hsrc
  rw [Nat.mul_one] at this
  rw [hn, this]
  simp only [withO_some, bytesOf_bys]
  exact hk
theorem bys_len (l : List UInt8) : (bys l).length = l.length := by simp
theorem bys_wid (l : List UInt8) : Wid 1 (bys l) := Wid.map fun _ => rfl
theorem tmod_nat (x y : Nat) : Int.tmod (x : Int) (y : Int) = ((x % y : Nat) : Int) := (Int.ofNat_tmod x y).symm
def padZ (n : Nat) : Nat := (119 - n % 64) % 64
theorem padZ_iff {n k : Nat} (hk : k ≤ padZ n) : (n + 1 + k) % 64 = 56 ↔ k = padZ n := by unfold padZ at *; omega
def pad1 (t : List UInt8) (k : Nat) : List UInt8 := t ++ [128] ++ List.replicate k 0
theorem pad1_len (t : List UInt8) (k : Nat) : (pad1 t k).length = t.length + 1 + k := by simp [pad1]; omega
theorem pad1_succ (t : List UInt8) (k : Nat) : pad1 t (k + 1) = pad1 t k ++ [0] := by simp [pad1, List.replicate_succ']
def pad2 (t : List UInt8) (j : Nat) : List UInt8 := pad1 t (padZ t.length) ++ (List.range j).map fun k => UInt8.ofNat (8 * t.length / 2 ^ (56 - 8 * k))
theorem pad2_len (t : List UInt8) (j : Nat) : (pad2 t j).length = t.length + 1 + padZ t.length + j := by simp [pad2, pad1_len]
theorem pad2_succ (t : List UInt8) (j : Nat) : pad2 t (j + 1) = pad2 t j ++ [UInt8.ofNat (8 * t.length / 2 ^ (56 - 8 * j))] := by simp [pad2, List.range_succ]
theorem pad2_all (t : List UInt8) : pad2 t 8 = shaPad t := rfl
theorem shaPad_len (t : List UInt8) : (shaPad t).length = 64 * ((shaPad t).length / 64) := by
 rw [← pad2_all, pad2_len]; unfold padZ; omega
def outB (s : S8) (k : Nat) : List UInt8 := ((s.list.take k).map beB).flatten
theorem outB_len (s : S8) (k : Nat) (hk : k ≤ 8) : (outB s k).length = 4 * k := by
 match k, hk with
 | 0, _ | 1, _ | 2, _ | 3, _ | 4, _ | 5, _ | 6, _ | 7, _ | 8, _ => rfl
theorem outB_succ {s : S8} {k : Nat} {x : BitVec 32} (h : s.list[k]? = some x) : outB s (k + 1) = outB s k ++ beB x := by
 unfold outB; rw [List.take_add_one, h]; simp
def b_spec_l02All : C := (jo [q 2 (.mv (.c (str [])))]
 (jo [jm 11 0, ⟨(some 12), none, .s2b (.t 11)⟩, ⟨(some 13), none, .bsl 1 [(u8 0)] [(0, 1, (.c (u8 128)))]⟩, ⟨(some 14), none, .app 1 1 (.t 12) (.t 13)⟩, jm 3 14]
 (.seq (.block 0 (.loop (.seq (jo [jm 15 3, q 16 (.len (.t 15)), jk 17 .rem 16 64, jk 18 .neq 17 56]
 (.cond (.t 18) .skip (.exit 0)))
 (.block 1 (.ops [jm 19 3, ⟨(some 20), none, .bsl 1 [(u8 0)] [(0, 1, (.c (u8 0)))]⟩, ⟨(some 21), none, .app 1 1 (.t 19) (.t 20)⟩, jm 3 21])))))
 (jo [jm 22 0, q 23 (.slen (.t 22)), q 24 (.bin .mul (.c (i64 8)) (.t 23)), q 25 (.cv .u64 (.t 24)), jm 4 25]
 (.seq (jo [q 5 (.mv (.c (i64 56)))]
 (.block 2 (.loop (.seq (jo [jm 26 5, jk 27 .geq 26 0]
 (.cond (.t 27) .skip (.exit 2)))
 (.seq (.block 3 (.ops [jm 30 3, jm 31 4, jm 32 5, q 33 (.cv .u64 (.t 32)), jb 34 .shr 31 33, q 35 (.cv .u8 (.t 34)), ⟨(some 36), none, .bsl 1 [(u8 0)] [(0, 1, (.t 35))]⟩, ⟨(some 37), none, .app 1 1 (.t 30) (.t 36)⟩, jm 3 37]))
 (.ops [jm 28 5, jk 29 .sub 28 8, jm 5 29]))))))
 (jo [jc 38 230 [], jm 6 38]
 (.seq (jo [q 7 (.mv (.c (i64 0)))]
 (.block 4 (.loop (.seq (jo [jm 39 7, jm 40 3, q 41 (.len (.t 40)), jb 42 .lss 39 41]
 (.cond (.t 42) .skip (.exit 4)))
 (.seq (.block 5 (.ops [jm 45 6, jm 46 3, jm 47 7, jm 48 7, jk 49 .add 48 64, q 50 (.lsl 1 (.t 46) (some (.t 47)) (some (.t 49))), q 51 (.b2s (.t 50)), jc 52 231 [(.t 45), (.t 51)], jm 6 52]))
 (.ops [jm 43 7, jk 44 .add 43 64, jm 7 44]))))))
 (jo [⟨(some 53), none, .bsl 0 [] []⟩, jm 8 53]
 (.seq (jo [q 9 (.mv (.c (i64 0)))]
 (.block 6 (.loop (.seq (jo [jm 54 9, jk 55 .lss 54 8]
 (.cond (.t 55) .skip (.exit 6)))
 (.seq (.block 7 (jo [jm 58 6, jm 59 9, q 60 (.idx 1 (.t 58) (.t 59)), jl 61 60, jm 10 61]
 (.ops [jm 62 8, jm 63 10, q 64 (.bin .shr (.t 63) (.c (.int .u64 24))), q 65 (.cv .u8 (.t 64)), jm 66 10, q 67 (.bin .shr (.t 66) (.c (.int .u64 16))), q 68 (.cv .u8 (.t 67)), jm 69 10, q 70 (.bin .shr (.t 69) (.c (.int .u64 8))), q 71 (.cv .u8 (.t 70)), jm 72 10, q 73 (.cv .u8 (.t 72)), ⟨(some 74), none, .bsl 4 [(u8 0), (u8 0), (u8 0), (u8 0)] [(0, 1, (.t 65)), (1, 1, (.t 68)), (2, 1, (.t 71)), (3, 1, (.t 73))]⟩, ⟨(some 75), none, .app 1 1 (.t 62) (.t 74)⟩, jm 8 75])))
 (.ops [jm 56 9, jk 57 .add 56 1, jm 9 57]))))))
 (jo [jm 76 8, q 77 (.b2s (.t 76)), jm 2 77]
 .ret))))))))))
theorem w_spec_l02All : Wk Tryz.prog 184 78 [.tmp 2] b_spec_l02All := Wk.of mixedOrders Tryz.func184 (by kernel_rfl) (by kernel_rfl)

theorem l02All_pc0 (h : H) (t d : List UInt8) (ht : t.length ≤ 8000) (hd : shaL t = d) : PC Tryz.prog 184 [str t] h (str d) := by
 refine PC_of ?_
 refine w_spec_l02All (by simp) ?_
 unfold b_spec_l02All
 simp -implicitDefEqProofs only [go_sem]
 intro b1 hb1 n1 c1 hc1
 simp -implicitDefEqProofs only [go_sem]
 intro b2 hb2 n2
 have e1 := (Ext.refl h).set n1 ⟨u8s t, c1⟩
 have hu8 : u8s t = (bys t).flatten := (bys_flat t).symm
 have o1 : Own h (h.set b1 ⟨u8s t, c1⟩) (sl b1 0 t.length c1) 1 (bys t) := .inr ⟨b1, c1, c1, by rw [bys_len], by rw [bys_len]; exact hc1, hb1, n1, by rw [H.set_get_same, hu8], by omega, bys_wid t⟩
 simp -implicitDefEqProofs only [go_sem]
 refine appW_own (new := [[u8 128]]) (e1.set n2 _) (o1.ext ((Ext.refl _).set n2 _)) rfl (by intro r hr; simp at hr; subst hr; rfl) rfl (by rw [bys_len]; simp; omega) ?_
 intro v1 h1 ea o2 _
 have q1 : bys t ++ [[u8 128]] = bys (pad1 t 0) := by simp [pad1]
 rw [q1] at o2
 obtain ⟨av1, cv1, rfl⟩ := o2.shape
 rw [bys_len, pad1_len] at o2 ⊢
 simp -implicitDefEqProofs only [go_sem]
 refine loopW_of (fun m f h' => ∃ (k : Nat) (u : Value), m + k = padZ t.length ∧ f 0 = str t ∧ f 3 = u ∧ Ext h h' ∧ Own h h' u 1 (bys (pad1 t k))) (padZ t.length)
  ⟨0, _, by simp, by simp -implicitDefEqProofs only [go_sem], by simp -implicitDefEqProofs only [go_sem], ea, o2⟩ ?_
 clear ea o2 o1 e1
 rintro m f h' ⟨k, u, hm, f0, rfl, ea, o2⟩
 obtain ⟨av1, cv1, f3⟩ := o2.shape
 rw [bys_len, pad1_len] at f3
 rw [f3] at o2
 have hz : padZ t.length < 64 := by unfold padZ; omega
 have hmod := padZ_iff (n := t.length) (k := k) (by omega)
 by_cases hk : k = padZ t.length
 rotate_left
 ·simp -implicitDefEqProofs only [go_sem, f0, f3, show ¬ ((((t.length + 1 + k : Nat) : Int).tmod 64) = 56) by rw [show (64 : Int) = ((64 : Nat) : Int) from rfl, tmod_nat]; omega]
  intro bx hbx nx
  simp -implicitDefEqProofs only [go_sem, f0, f3]
  refine appW_own (new := [[u8 0]]) (ea.set nx _) (o2.ext ((Ext.refl _).set nx _)) rfl (by intro r hr; simp at hr; subst hr; rfl) rfl (by rw [bys_len, pad1_len]; simp; omega) ?_
  intro v' h2 e2 o3 _
  simp -implicitDefEqProofs only [go_sem, f0]
  refine ⟨m - 1, by omega, _, Ext.refl _, k + 1, v', by omega, rfl, e2, ?_⟩
  rw [pad1_succ]; simpa using o3
 subst hk
 simp -implicitDefEqProofs only [go_sem, f0, f3, show (((t.length + 1 + padZ t.length : Nat) : Int).tmod 64) = 56 by rw [show (64 : Int) = ((64 : Nat) : Int) from rfl, tmod_nat]; omega, wrap_i64 (show -(9223372036854775808 : Int) ≤ (8 * (t.length : Int)) by omega) (show (8 * (t.length : Int)) < 9223372036854775808 by omega), wrap_u64 (n := 8 * (t.length : Int)) (by omega) (by omega)]
 have q8 : (8 * (t.length : Int)) = ((8 * t.length : Nat) : Int) := by omega
 rw [q8]
 have o20 : Own h h' (.slice av1 (t.length + 1 + padZ t.length) cv1) 1 (bys (pad2 t 0)) := by simpa [pad2] using o2
 refine loopW_of (fun m f h' => ∃ (j : Nat) (u : Value), m + j = 8 ∧ f 3 = u ∧ f 4 = .int .u64 ((8 * t.length : Nat) : Int) ∧ f 5 = i64 (56 - 8 * (j : Int)) ∧ Ext h h' ∧ Own h h' u 1 (bys (pad2 t j))) 8
  ⟨0, _, by simp, by simp -implicitDefEqProofs only [go_sem, f3], by simp -implicitDefEqProofs only [go_sem], by simp -implicitDefEqProofs only [go_sem]; rfl, ea, o20⟩ ?_
 clear f0 f3 hm m f ea o2 o20 hmod
 rintro m f h1 ⟨j, u, hm, rfl, f4, f5, ea, o2⟩
 obtain ⟨av1, cv1, f3⟩ := o2.shape
 rw [bys_len, pad2_len] at f3
 rw [f3] at o2
 by_cases hj : j = 8
 rotate_left
 ·have p5 : IntKind.u64.wrap (56 - 8 * (j : Int)) = ((56 - 8 * j : Nat) : Int) := by rw [wrap_u64 (by omega) (by omega)]; omega
  simp -implicitDefEqProofs only [go_sem, f3, f4, f5, show (0 : Int) ≤ 56 - 8 * (j : Int) by omega, p5, shr_nat .u64 (8 * t.length) (56 - 8 * j) (by simp [IntKind.bits]; omega), wrap_ofNat]
  intro bx hbx nx
  simp -implicitDefEqProofs only [go_sem, f3]
  refine appW_own (new := bys [UInt8.ofNat (8 * t.length / 2 ^ (56 - 8 * j))]) (ea.set nx _) (o2.ext ((Ext.refl _).set nx _)) rfl (by intro r hr; simp at hr; subst hr; rfl) rfl (by rw [bys_len, pad2_len]; simp; omega) ?_
  intro v' h2 e2 o3 _
  simp -implicitDefEqProofs only [go_sem, f4, f5, wrap_i64 (show -(9223372036854775808 : Int) ≤ (56 - 8 * (j : Int) - 8) by omega) (show (56 - 8 * (j : Int) - 8) < 9223372036854775808 by omega)]
  refine ⟨m - 1, by omega, _, Ext.refl _, j + 1, v', by omega, rfl, by rw [show (56 - 8 * (j : Int) - 8) = 56 - 8 * ((j + 1 : Nat) : Int) by omega], e2, ?_⟩
  rw [pad2_succ]; simpa using o3
 subst hj
 rw [pad2_all] at o2
 simp -implicitDefEqProofs only [go_sem, f3, f4, f5, show ¬ ((0 : Int) ≤ 56 - 8 * ((8 : Nat) : Int)) by omega]
 refine AC_of (start_ac h1) ?_
 rintro vs h2 - ⟨os, e2⟩
 simp -implicitDefEqProofs only [go_sem, f3]
 have os' := os.back ea
 have o2' := o2.ext e2
 have hL := shaPad_len t
 have hLp : (shaPad t).length = t.length + 1 + padZ t.length + 8 := by rw [← pad2_all, pad2_len]
 obtain ⟨L, hLd⟩ : ∃ L, (shaPad t).length / 64 = L := ⟨_, rfl⟩
 rw [hLd] at hL
 rw [← hLp, hL] at o2' f3
 refine loopW_of (fun m f h' => ∃ (j : Nat) (u : Value), m + j = L ∧ f 3 = .slice av1 (64 * L) cv1 ∧ f 6 = u ∧ f 7 = i64 (64 * (j : Int)) ∧ Ext h h' ∧ Own h h' (.slice av1 (64 * L) cv1) 1 (bys (shaPad t)) ∧ Own h h' u 1 (wsI (shaBlocks (shaPad t) shaStart j).list)) L
  ⟨0, vs, by simp, by simp -implicitDefEqProofs only [go_sem, f3], by simp -implicitDefEqProofs only [go_sem], by simp -implicitDefEqProofs only [go_sem]; rfl, ea.trans e2, o2', os'⟩ ?_
 clear f3 f4 f5 hm m f ea o2 o2' os os' e2
 rintro m f h3 ⟨j, u, hm, f3, rfl, f7, ea, o2, os⟩
 by_cases hj : j < L
 ·have hp := o2.sl.part (lo := 64 * j) (hi := 64 * j + 64) (by omega) (by omega)
  have hcap : 64 * L ≤ cv1 := by
   obtain ⟨_, _, _, _, e, hc', _⟩ := o2.sl
   simp only [Value.slice.injEq] at e
   rw [bys_len] at hc'
   omega
  have hpl : ((bys (shaPad t)).take (64 * j + 64)).drop (64 * j) = bys (((shaPad t).drop (64 * j)).take 64) := by
   rw [bys, bys, ← List.map_take, ← List.map_drop, List.drop_take]
   congr 2
   omega
  rw [hpl] at hp
  have hl64 : (((shaPad t).drop (64 * j)).take 64).length = 64 := by rw [List.length_take, List.length_drop]; omega
  have n1 : (64 * (j : Int)).toNat = 64 * j := by omega
  have n2 : (64 * (j : Int) + 64).toNat = 64 * j + 64 := by omega
  simp -implicitDefEqProofs only [go_sem, f3, f7, show 64 * (j : Int) < ((64 * L : Nat) : Int) by omega, wrap_i64 (show -(9223372036854775808 : Int) ≤ (64 * (j : Int) + 64) by omega) (show (64 * (j : Int) + 64) < 9223372036854775808 by omega), show (0 : Int) ≤ 64 * (j : Int) + 64 by omega, show 64 * (j : Int) + 64 ≤ (cv1 : Int) by omega, show (0 : Int) ≤ 64 * (j : Int) by omega, n1, n2, show (64 * (j : Int)) ≤ ((64 * j + 64 : Nat) : Int) by omega]
  refine b2s_sl hp ?_
  simp -implicitDefEqProofs only [go_sem]
  refine AC_of (block_ac (s := shaBlocks (shaPad t) shaStart j) os.sl hl64) ?_
  rintro v' h4 - ⟨o4, e4⟩
  simp -implicitDefEqProofs only [go_sem, f3, f7, wrap_i64 (show -(9223372036854775808 : Int) ≤ (64 * (j : Int) + 64) by omega) (show (64 * (j : Int) + 64) < 9223372036854775808 by omega)]
  exact ⟨m - 1, by omega, _, Ext.refl _, j + 1, v', by omega, rfl, by rw [show (64 * (j : Int) + 64) = 64 * ((j + 1 : Nat) : Int) by omega], ea.trans e4, o2.ext e4, o4.back ea⟩
 obtain rfl : j = L := by omega
 obtain ⟨S, hS⟩ : ∃ S, shaBlocks (shaPad t) shaStart j = S := ⟨_, rfl⟩
 have hdd : outB S 8 = d := by rw [← hd]; unfold shaL outB; rw [hLd, hS]; rfl
 rw [hS] at os
 clear hS hd
 simp -implicitDefEqProofs only [go_sem, f3, f7, show ¬ (64 * (j : Int) < ((64 * j : Nat) : Int)) by omega]
 intro b8 hb8 n8
 simp -implicitDefEqProofs only [go_sem]
 have o8 : Own h (h3.set b8 ⟨[], 0⟩) (sl b8 0 0 0) 1 (bys (outB S 0)) := .inr ⟨b8, 0, 0, rfl, Nat.le_refl _, by rw [H.set_base]; exact hb8, ea.none n8, H.set_get_same _ _ _, by simp, by intro r hr; simp [outB] at hr⟩
 have oS := os.ext ((Ext.refl _).set n8 ⟨[], 0⟩)
 refine loopW_of (fun m f h' => ∃ (k : Nat) (u w : Value), m + k = 8 ∧ f 6 = u ∧ f 8 = w ∧ f 9 = i64 k ∧ Ext h h' ∧ Own h h' u 1 (wsI S.list) ∧ Own h h' w 1 (bys (outB S k)) ∧ Ap u w) 8
  ⟨0, _, _, by simp, by simp -implicitDefEqProofs only [go_sem], by simp -implicitDefEqProofs only [go_sem], by simp -implicitDefEqProofs only [go_sem]; rfl, ea.set n8 _, oS, o8, ?_⟩ ?_
 ·intro b h1 h2
  simp only [ob, Option.some.injEq] at h2
  subst h2
  obtain ⟨z1, z2, z3, z4⟩ := os.ob_new h1
  rw [n8] at z4; cases z4
 clear f3 f7 hm m f ea os oS o8
 rintro m f h4 ⟨k, u, w, hm, rfl, rfl, f9, ea, oS, oW, hap⟩
 obtain ⟨au, cu, f6⟩ := oS.shape
 obtain ⟨aw, cw, f8⟩ := oW.shape
 have h8 : (wsI S.list).length = 8 := rfl
 rw [h8] at f6
 rw [bys_len] at f8
 rw [f6] at oS hap
 rw [f8] at oW hap
 by_cases hk : k < 8
 ·have hw4 := outB_len S k (by omega)
  obtain ⟨x, hx⟩ : ∃ x, S.list[k]? = some x := ⟨_, List.getElem?_eq_getElem (by show k < 8; exact hk)⟩
  obtain ⟨a', c', b', o', e', _, r2, r3⟩ := oS.sl
  simp only [Value.slice.injEq] at e'
  obtain ⟨rfl, _, rfl⟩ := e'
  rw [h8] at r2
  have dx := r3 k [i64 x.toNat] (by simp [wsI, hx])
  rw [Nat.mul_one] at dx
  simp -implicitDefEqProofs only [go_sem, f6, f9, show (k : Int) < 8 by omega, show (k : Int) < ((8 : Nat) : Int) by omega, r2, Int.natCast_nonneg, Nat.mul_one, dx, shr24 .i64 x.toNat (by decide), shr16 .i64 x.toNat (by decide), shr8 .i64 x.toNat (by decide), wrap_ofNat]
  intro bx hbx nx
  simp -implicitDefEqProofs only [go_sem, f8]
  have hc : ∀ b c n, (.slice aw (outB S k).length cw : Value) = sl b 0 n c → True := fun _ _ _ _ => trivial
  refine appW_ownB (new := bys (beB x)) (fun c hc => ea.none (by
   by_cases e : c = bx
   ·subst e; rw [H.set_get_same] at hc; cases hc
   ·rw [H.set_get_ne _ _ _ _ e] at hc; exact hc)) (oW.ext ((Ext.refl _).set nx _)) rfl (bys_wid _) rfl (by rw [bys_len, bys_len, hw4]; show (4 * k + 4) * 1 ≤ _; omega) ?_ (by intro h; simp [beB] at h)
  intro v' b'' y q1 q2 q3 q4
  have eX := ea.set nx ⟨(bys (beB x)).flatten, 4⟩
  have hne : ob (.slice au 8 cu) ≠ some b'' := by
   intro h
   rcases q2 with q2 | q2
   ·exact hap b'' h q2
   ·obtain ⟨_, _, z3, z4⟩ := oS.ob_new h
    by_cases e : b'' = bx
    ·subst e; rw [H.set_get_same] at q2; cases q2
    ·rw [H.set_get_ne _ _ _ _ e] at q2; rw [q2] at z4; cases z4
  simp -implicitDefEqProofs only [go_sem, f9, f6, wrap_i64 (show -(9223372036854775808 : Int) ≤ ((k : Int) + 1) by omega) (show ((k : Int) + 1) < 9223372036854775808 by omega)]
  refine ⟨m - 1, by omega, _, Ext.refl _, k + 1, _, v', by omega, rfl, rfl, rfl, eX.set' q1 _, (oS.ext ((Ext.refl _).set nx _)).setOb hne _, by rw [outB_succ hx]; simpa using q4, fun b h1 h2 => ?_⟩
  have := q3 b h2
  subst this
  exact hne h1
 obtain rfl : k = 8 := by omega
 rw [hdd] at oW
 simp -implicitDefEqProofs only [go_sem, f6, f8, f9, show ¬ (((8 : Nat) : Int) < 8) by omega]
 rw [hdd]
 refine b2s_sl oW.sl ?_
 simp -implicitDefEqProofs only [go_sem]
 exact ea
theorem l02All_pc (h : H) (t : List UInt8) (ht : t.length ≤ 8000) : PC Tryz.prog 184 [str t] h (str (shaL t)) := l02All_pc0 h t _ ht rfl
def b_spec_Digest : C := (jo [q 2 (.mv (.c (str [])))]
 (.seq (jo [jm 3 0, q 4 (.slen (.t 3)), jk 5 .gtr 4 8000]
 (.cond (.t 5) (jo [q 2 (.mv (.c (str [])))]
 .ret) .skip))
 (jo [jm 6 0, jc 7 184 [(.t 6)], jm 2 7]
 .ret)))
theorem w_spec_Digest : Wk Tryz.prog 101 8 [.tmp 2] b_spec_Digest := Wk.of mixedOrders Tryz.func101 (by kernel_rfl) (by kernel_rfl)

def digestOf (t : List UInt8) : List UInt8 := if 8000 < t.length then [] else shaL t
theorem specDigest_pc (h : H) (t : List UInt8) (ht : t.length ≤ 1099511627776) : PC Tryz.prog 101 [str t] h (str (digestOf t)) := by
 refine PC_of ?_
 unfold digestOf
 by_cases h1 : 8000 < t.length
 ·refine w_spec_Digest (by simp) ?_
  unfold b_spec_Digest
  simp -implicitDefEqProofs only [go_sem, show (8000 : Int) < (t.length : Int) by omega, h1]
  exact Ext.refl _
 ·refine w_spec_Digest (by simp) ?_
  unfold b_spec_Digest
  simp -implicitDefEqProofs only [go_sem, show ¬ (8000 : Int) < (t.length : Int) by omega, h1]
  refine (l02All_pc h t (by omega)).use ?_
  simp -implicitDefEqProofs only [go_sem, h1]
  exact Ext.refl _
end Go.Proofs.YthjbhdmjfakfaaaGreatDoor
namespace Go.Proofs.YthjbhdmjfakfaaaGreatDoor
open Go.KH Go.RowKit

theorem join_nosep : ∀ l : List (List UInt8), Lib.join l [] = l.flatten
 | [] => rfl
 | x :: l => by
  rw [Lib.join_cons, List.flatten_cons]
  congr 1
  unfold Lib.joinTail
  simp
theorem join_pc {h : H} {v : Value} {l : List (List UInt8)} (hv : Sl h v 1 (strs l)) (hb : l.flatten.length ≤ 1099511627776) (hl : l.length ≤ 1099511627776) : PC Tryz.prog 88 [v, str []] h (str l.flatten) := by
 refine PC_calls Tryz.func88 (by kernel_rfl) (by kernel_rfl) fun w0 w r => ?_
 rcases hv.texts with ⟨a, c, rfl, rfl⟩ | ⟨b, o, c, rfl, hc, hpos, hcells⟩
 ·exact (Tryz.strings_Join_none a c ⟨#[]⟩ w).mono fun e w' ⟨he, hw⟩ => ⟨he, below_same hw⟩
 ·obtain ⟨q1, q2⟩ := hcells r
  have hmap : (l.map fun x => (⟨x.toArray⟩ : ByteArray)).map (·.data.toList) = l := by rw [List.map_map]; simp [Function.comp_def]
  have hlen : (l.map fun x => (⟨x.toArray⟩ : ByteArray)).length = l.length := by simp
  have := Tryz.strings_Join b o c (l.map fun x => (⟨x.toArray⟩ : ByteArray)) ⟨#[]⟩ w q2 q1 (by rw [hlen]; omega) (by rw [hlen]; exact hc) (by
   rw [hmap, show (ByteArray.mk #[]).data.toList = [] from rfl, join_nosep]; omega)
  rw [hlen, hmap, show (ByteArray.mk #[]).data.toList = [] from rfl, join_nosep] at this
  exact this
theorem repeatL_rep (b : UInt8) : ∀ n, Lib.repeatL [b] n = List.replicate n b
 | 0 => rfl
 | n + 1 => by rw [Lib.repeatL, repeatL_rep b n, List.replicate_succ]; rfl
theorem repeat_pc (h : H) (b : UInt8) (n : Nat) (hn : n ≤ 1000000) : PC Tryz.prog 172 [str [b], i64 n] h (str (List.replicate n b)) := by
 refine PC_calls Tryz.func172 (by kernel_rfl) (by kernel_rfl) fun w0 w r => ?_
 have := Tryz.strings_Repeat ⟨#[b]⟩ n w (by omega) (by show 1 * n ≤ _; omega)
 refine this.mono fun e w' ⟨he, hw⟩ => ⟨?_, hw⟩
 rw [he, show (ByteArray.mk #[b]).data.toList = [b] from rfl, repeatL_rep]
 rfl
end Go.Proofs.YthjbhdmjfakfaaaGreatDoor
namespace Go.Proofs.YthjbhdmjfakfaaaGreatDoor
open Go.KH

def Tabs (h : H) : Prop := RepR h [.s 1 (wsV shaStart.list), .s 1 (wsV keysL)] [sl 0 0 8 8, sl 1 0 64 64]
theorem Tabs.ext {h h' : H} (t : Tabs h) (e : Ext h h') : Tabs h' := RepR.ext t e
theorem keysL_get {k : Nat} (hk : k < 64) : keysL[k]? = some (shaKey k) := by simp [keysL, hk]
theorem Tabs.key {h : H} (t : Tabs h) {k : Nat} (hk : k < 64) : ldc h 1 k 1 = some [w32 (shaKey k)] := by
 obtain ⟨_, _, b, o, e, _, h2, h3⟩ := t.2.1
 cases e
 cases h2
 have := h3 k [w32 (shaKey k)] (by rw [wsV, List.getElem?_map, keysL_get hk]; rfl)
 rw [Nat.zero_add, Nat.mul_one] at this
 exact this
theorem Tabs.start {h : H} (t : Tabs h) : ldc h 0 0 8 = some (wcl shaStart.list) := by
 have s : Sl h (sl 0 0 8 8) 1 (wsV shaStart.list) := t.1
 exact srcOf_some (n := 7) rfl (s.src (Wid.map fun _ => rfl) (by decide))
theorem neg31 {k : Nat} (h : 1 ≤ k ∧ k ≤ 31) : (BitVec.ofNat 64 (18446744073709551616 - k) &&& 31#64).toNat = 32 - k := by
 have : ∀ j : Fin 31, (BitVec.ofNat 64 (18446744073709551616 - (j.1 + 1)) &&& 31#64).toNat = 32 - (j.1 + 1) := by decide
 have := this ⟨k - 1, by omega⟩
 simp only at this
 rw [show k - 1 + 1 = k by omega] at this
 exact this
def b_math_bits_RotateLeft32 : C := (jo [q 4 (.mv (.c (.int .u32 0)))]
 (jo [jm 6 1, q 7 (.cv .u64 (.t 6)), q 8 (.bin .and (.t 7) (.c (.int .u64 31))), jm 5 8]
 (jo [jm 9 0, jm 10 5, jb 11 .shl 9 10, jm 12 0, jm 13 5, q 14 (.bin .sub (.c (.int .u64 32)) (.t 13)), jb 15 .shr 12 14, jb 16 .or 11 15, jm 4 16]
 .ret)))
theorem w_math_bits_RotateLeft32 : Wk Tryz.prog 237 17 [.tmp 4] b_math_bits_RotateLeft32 := Wk.of mixedOrders Tryz.func237 (by kernel_rfl) (by kernel_rfl)

def b_impl_turned : C := (jo [q 4 (.mv (.c (.int .u32 0)))]
 (jo [jm 5 0, jm 6 1, q 7 (.un .neg (.t 6)), jc 8 237 [(.t 5), (.t 7)], jm 4 8]
 .ret))
theorem w_impl_turned : Wk Tryz.prog 226 9 [.tmp 4] b_impl_turned := Wk.of mixedOrders Tryz.func226 (by kernel_rfl) (by kernel_rfl)

theorem rot32_pc (h : H) (x : BitVec 32) {k : Nat} (hk : 1 ≤ k ∧ k ≤ 31) : PC Tryz.prog 237 [w32 x, i64 (-(k : Int))] h (w32 (rotW x k)) := by
 have e1 : IntKind.u64.wrap (-(k : Int)) = ((18446744073709551616 - k : Nat) : Int) := by rw [wrap_u64m]; omega
 have e2 : obin .and (.int .u64 ((18446744073709551616 - k : Nat) : Int)) (.int .u64 31) = some (.int .u64 ((32 - k : Nat) : Int)) := by
  rw [bi_and]
  have q1 : BitVec.ofInt IntKind.u64.bits ((18446744073709551616 - k : Nat) : Int) = BitVec.ofNat 64 (18446744073709551616 - k) := BitVec.ofInt_natCast ..
  rw [q1]
  show some (Value.int .u64 (IntKind.u64.wrap ((BitVec.ofNat 64 (18446744073709551616 - k) &&& 31#64).toNat : Int))) = _
  rw [neg31 hk, wrap_u64 (by omega) (by omega)]
 have e3 : IntKind.u64.wrap (32 - ((32 - k : Nat) : Int)) = (k : Int) := by rw [wrap_u64 (by omega) (by omega)]; omega
 have e4 : x <<< (32 - k) ||| x >>> k = rotW x k := BitVec.or_comm ..
 have e5 : (32 - ((32 - k : Nat) : Int)) = (k : Int) := by omega
 refine PC_of ?_
 refine w_math_bits_RotateLeft32 (by simp) ?_
 unfold b_math_bits_RotateLeft32
 simp -implicitDefEqProofs only [go_sem, e1, e2, e3, shl_w32 x .u64 (32 - k) (by omega), shr_w32 x .u64 k (by omega), or_w32, e4]
 exact Ext.refl _
theorem turned_pc (h : H) (x : BitVec 32) {k : Nat} (hk : 1 ≤ k ∧ k ≤ 31) : PC Tryz.prog 226 [w32 x, i64 (k : Int)] h (w32 (rotW x k)) := by
 refine PC_of ?_
 refine w_impl_turned (by simp) ?_
 unfold b_impl_turned
 simp -implicitDefEqProofs only [go_sem, show (0 : Int) - (k : Int) = -(k : Int) by omega, wrap_i64 (show -(9223372036854775808 : Int) ≤ (-(k : Int)) by omega) (show (-(k : Int)) < 9223372036854775808 by omega)]
 refine (rot32_pc h x hk).use ?_
 simp -implicitDefEqProofs only [go_sem]
 exact Ext.refl _
def b_impl_bigWord : C := (jo [q 2 (.mv (.c (.int .u32 0)))]
 (.seq (.dops false (.tk (jm 3 0) (.tk (q 4 (.sidx (.t 3) (.c (i64 0)))) (.tk (q 5 (.cv .u32 (.t 4))) (.tk (q 6 (.bin .shl (.t 5) (.c (.int .u64 24)))) (.tk (jm 7 0) (.tk (q 8 (.sidx (.t 7) (.c (i64 1)))) (.tk (q 9 (.cv .u32 (.t 8))) (.tk (q 10 (.bin .shl (.t 9) (.c (.int .u64 16)))) (.tk (jb 11 .or 6 10) (.tk (jm 12 0) (.tk (q 13 (.sidx (.t 12) (.c (i64 2)))) (.tk (q 14 (.cv .u32 (.t 13))) (.tk (q 15 (.bin .shl (.t 14) (.c (.int .u64 8)))) (.tk (jb 16 .or 11 15) (.tk (jm 17 0) (.tk (q 18 (.sidx (.t 17) (.c (i64 3)))) (.tk (q 19 (.cv .u32 (.t 18))) (.tk (jb 20 .or 16 19) (.tk (jm 2 20) .nil))))))))))))))))))))
 .ret))
theorem w_impl_bigWord : Wk Tryz.prog 225 21 [.tmp 2] b_impl_bigWord := Wk.of mixedOrders Tryz.func225 (by kernel_rfl) (by kernel_rfl)

theorem bigWord_pc (h : H) {s : List UInt8} {a b c d : UInt8} (h0 : s[0]? = some a) (h1 : s[1]? = some b) (h2 : s[2]? = some c) (h3 : s[3]? = some d) : PC Tryz.prog 225 [str s] h (w32 (b32 a <<< 24 ||| b32 b <<< 16 ||| b32 c <<< 8 ||| b32 d)) := by
 refine PC_of ?_
 refine w_impl_bigWord (by simp) ?_
 unfold b_impl_bigWord
 simp -implicitDefEqProofs only [go_sem, Int.reduceToNat, h0, h1, h2, h3, wrap_b32, shl24_w32, shl16_w32, shl8_w32, or_w32]
 exact Ext.refl _
def bigTo (n c j : Nat) : List UInt8 := (List.range c).map fun p => if c ≤ p + j then UInt8.ofNat (n / 256 ^ (c - 1 - p)) else 0
def bigB (n c : Nat) : List UInt8 := (List.range c).map fun p => UInt8.ofNat (n / 256 ^ (c - 1 - p))
theorem bigTo_len (n c j : Nat) : (bigTo n c j).length = c := by simp [bigTo]
theorem bigTo_all (n c : Nat) : bigTo n c c = bigB n c := by
 unfold bigTo bigB
 refine List.map_congr_left fun p _ => ?_
 rw [if_pos (by omega)]
theorem bigTo_zero (n c : Nat) : bigTo n c 0 = List.replicate c 0 := by
 refine List.eq_replicate_iff.2 ⟨bigTo_len n c 0, fun b hb => ?_⟩
 obtain ⟨p, hp, rfl⟩ := List.mem_map.1 hb
 have := List.mem_range.1 hp
 rw [if_neg (by omega)]
theorem bigTo_set {n c j : Nat} (hj : j < c) : (bigTo n c j).set (c - 1 - j) (UInt8.ofNat (n / 256 ^ j)) = bigTo n c (j + 1) := by
 refine List.ext_getElem? fun i => ?_
 rw [List.getElem?_set, bigTo_len]
 by_cases hi : i < c
 ·simp only [bigTo, List.getElem?_map, List.getElem?_range hi, Option.map_some]
  by_cases e : c - 1 - j = i
  ·rw [if_pos e, if_pos (by omega), if_pos (by omega), show c - 1 - i = j by omega]
  ·rw [if_neg e]
   by_cases h1 : c ≤ i + j
   ·rw [if_pos h1, if_pos (by omega)]
   ·rw [if_neg h1, if_neg (by omega)]
 ·rw [if_neg (by omega), List.getElem?_eq_none (by rw [bigTo_len]; omega), List.getElem?_eq_none (by rw [bigTo_len]; omega)]
theorem bigB_8 (n : Nat) : bigB n 8 = (List.range 8).map fun k => UInt8.ofNat (n / 2 ^ (56 - 8 * k)) := by
 unfold bigB
 refine List.map_congr_left fun p hp => ?_
 have := List.mem_range.1 hp
 rw [show (256 : Nat) = 2 ^ 8 from rfl, ← Nat.pow_mul, show 8 * (8 - 1 - p) = 56 - 8 * p by omega]
theorem bigB_4 (x : BitVec 32) : bigB x.toNat 4 = beB x := by
 unfold bigB beB
 simp [List.range_succ]
def b_impl_bigBytes : C := (jo [q 4 (.mv (.c (str [])))]
 (jo [jm 7 1, ⟨(some 8), none, .mks 1 1 [(u8 0)] (.t 7) (.t 7)⟩, jm 5 8]
 (.seq (jo [jm 9 1, jk 10 .sub 9 1, jm 6 10]
 (.block 0 (.loop (.seq (jo [jm 11 6, jk 12 .geq 11 0]
 (.cond (.t 12) .skip (.exit 0)))
 (.seq (.block 1 (jo [jm 15 5, jm 16 6, jm 17 0, q 18 (.cv .u8 (.t 17)), q 19 (.idx 1 (.t 15) (.t 16)), js 1 19 18]
 (.ops [jm 20 0, q 21 (.bin .shr (.t 20) (.c (.int .u64 8))), jm 0 21])))
 (.ops [jm 13 6, jk 14 .sub 13 1, jm 6 14]))))))
 (jo [jm 22 5, q 23 (.b2s (.t 22)), jm 4 23]
 .ret))))
theorem w_impl_bigBytes : Wk Tryz.prog 173 24 [.tmp 4] b_impl_bigBytes := Wk.of mixedOrders Tryz.func173 (by kernel_rfl) (by kernel_rfl)

theorem bigBytes_pc (h : H) (n c : Nat) (hn : n < 18446744073709551616) (hc : 1 ≤ c ∧ c ≤ 8) : PC Tryz.prog 173 [.int .u64 (n : Int), i64 (c : Int)] h (str (bigB n c)) := by
 refine PC_of ?_
 refine w_impl_bigBytes (by simp) ?_
 unfold b_impl_bigBytes
 simp -implicitDefEqProofs only [go_sem, Int.natCast_nonneg]
 refine Req.of (by omega) ?_
 refine Req.of (by omega) ?_
 simp -implicitDefEqProofs only [go_sem]
 intro b8 hb8 n8
 simp -implicitDefEqProofs only [go_sem, Int.toNat_natCast, wrap_i64 (show -(9223372036854775808 : Int) ≤ ((c : Int) - 1) by omega) (show ((c : Int) - 1) < 9223372036854775808 by omega)]
 have q0 : (List.replicate c [u8 0]).flatten = (bys (bigTo n c 0)).flatten := by rw [bigTo_zero]; simp
 rw [q0]
 refine loopW_of (fun m f h' => ∃ j, m + j = c ∧ f 0 = .int .u64 ((n / 256 ^ j : Nat) : Int) ∧ f 5 = sl b8 0 c c ∧ f 6 = i64 ((c : Int) - 1 - j) ∧ h' = h.set b8 ⟨(bys (bigTo n c j)).flatten, c⟩) c
  ⟨0, by simp, by simp -implicitDefEqProofs only [go_sem]; simp, by simp -implicitDefEqProofs only [go_sem], by simp -implicitDefEqProofs only [go_sem]; simp, by simp⟩ ?_
 rintro m f h' ⟨j, hm, f0, f5, f6, rfl⟩
 have hx : n / 256 ^ j < 18446744073709551616 := Nat.lt_of_le_of_lt (Nat.div_le_self _ _) hn
 by_cases hj : j < c
 ·have hsp := flat_splice (w := 1) (rows := bys (bigTo n c j)) (bys_wid _) (c - 1 - j) (by rw [bys_len, bigTo_len]; omega) (r := [u8 ((UInt8.ofNat (n / 256 ^ j)).toNat)]) rfl
  rw [Nat.mul_one] at hsp
  have hset : (bys (bigTo n c j)).set (c - 1 - j) [u8 ((UInt8.ofNat (n / 256 ^ j)).toNat)] = bys (bigTo n c (j + 1)) := by
   rw [← bigTo_set hj, bys, bys, List.map_set]
  rw [hset] at hsp
  have hl : (bys (bigTo n c j)).flatten.length = c := by rw [flat_length (bys_wid _), bys_len, bigTo_len]; omega
  have hst : stc (h.set b8 ⟨(bys (bigTo n c j)).flatten, c⟩) b8 (c - 1 - j) [u8 ((UInt8.ofNat (n / 256 ^ j)).toNat)] 1 = some (h.set b8 ⟨(bys (bigTo n c (j + 1))).flatten, c⟩) := by
   rw [stc_same, if_pos ⟨rfl, by simp only [hl]; omega, rfl⟩]
   simp only [hsp]
  have p1 : ((c : Int) - 1 - (j : Int)).toNat = c - 1 - j := by omega
  simp -implicitDefEqProofs only [go_sem, f0, f5, f6, show (0 : Int) ≤ (c : Int) - 1 - (j : Int) by omega, show (c : Int) - 1 - (j : Int) < (c : Int) by omega, p1, Nat.mul_one, wrap_ofNat, hb8, hst, shr8 .u64 (n / 256 ^ j) (by decide), wrap_i64 (show -(9223372036854775808 : Int) ≤ ((c : Int) - 1 - (j : Int) - 1) by omega) (show ((c : Int) - 1 - (j : Int) - 1) < 9223372036854775808 by omega)]
  refine ⟨m - 1, by omega, _, Ext.refl _, j + 1, by omega, ?_, ?_, rfl⟩
  ·rw [Nat.div_div_eq_div_mul, ← Nat.pow_succ]
  ·rw [show (c : Int) - 1 - (j : Int) - 1 = (c : Int) - 1 - ((j + 1 : Nat) : Int) by omega]
 ·obtain rfl : j = c := by omega
  rw [bigTo_all]
  have hbl : (bigB n j).length = j := by rw [← bigTo_all, bigTo_len]
  have hfl : (bys (bigB n j)).flatten.length = j := by rw [flat_length (bys_wid _), bys_len, hbl]; omega
  have hld : ldc (h.set b8 ⟨(bys (bigB n j)).flatten, j⟩) b8 0 j = some (bys (bigB n j)).flatten := by
   rw [ldc_set_same, if_pos (by simp only [hfl]; omega), List.drop_zero, List.take_of_length_le (by simp only [hfl]; omega)]
  simp -implicitDefEqProofs only [go_sem, f0, f5, f6, show ¬ ((0 : Int) ≤ (j : Int) - 1 - (j : Int)) by omega, show ¬ (j = 0) by omega, hld, bytesOf_bys]
  exact (Ext.refl _).set n8 _
end Go.Proofs.YthjbhdmjfakfaaaGreatDoor