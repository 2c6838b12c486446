/- A helper of this seat's claims (contracts of the functions): what it shows is shown for every input that its statements name, on no other condition. -/
import Derived.Test.YthjbhdmjfakfaaaGreatDoorMC10t
import Derived.Test.YthjbhdmjfakfaaaGreatDoorC11t
import Derived.Test.YthjbhdmjfakfaaaGreatDoorMC0
import Derived.Test.YthjbhdmjfakfaaaGreatDoorMC08
import Derived.Test.YthjbhdmjfakfaaaGreatDoorMC13b
set_option linter.unusedVariables false
set_option linter.unusedSimpArgs false
set_option maxRecDepth 100000
namespace Go.Proofs.YthjbhdmjfakfaaaGreatDoor
open Go.KH

noncomputable def planOut (l : List UStep) (b : Int) : List UMove × Int := if 400 < l.length then ([], 2) else if codeOf l b = 0 then (planB (l.filter isW), 0) else ([], codeOf l b)
theorem steps_dst {l : List UStep} {b : Int} (h : stepsOk l b) : ∀ s ∈ l.filter isW, 0 ≤ s.dst ∧ s.dst ≤ 7 := by
 intro s hs
 rw [List.mem_filter] at hs
 have h1 := h.2.2 s hs.1
 have h5 : s.kind ≠ 5 := by simpa [isW] using hs.2
 have := h1.2.1
 rw [if_neg h5] at this
 have := h.2.1
 omega
theorem planOut_small (l : List UStep) (b : Int) : (planOut l b).1.length ≤ 28 := by
 unfold planOut
 split
 ·simp
 split
 ·rename_i h
  have hok := (code_zero h).1
  have := planB_len (steps_dst hok)
  have := List.length_filter_le isW l
  have := hok.1
  simp only; omega
 ·simp
end Go.Proofs.YthjbhdmjfakfaaaGreatDoor
namespace Go.Proofs.YthjbhdmjfakfaaaGreatDoor
open Go.KH

def slots (l : List UMove) : Int := (l.filter fun m => m.kind = 1).length
theorem slots_take (l : List UMove) (k : Nat) (hk : k < l.length) : slots (l.take (k + 1)) = slots (l.take k) + if l[k].kind = 1 then 1 else 0 := by
 unfold slots
 rw [List.take_succ_eq_append_getElem hk, List.filter_append]
 by_cases h : l[k].kind = 1 <;> simp [h]
theorem slots_le (l : List UMove) : 0 ≤ slots l ∧ slots l ≤ l.length := by
 unfold slots; have := List.length_filter_le (fun m : UMove => decide (m.kind = 1)) l; omega
def b_impl_slotsOf : C := (jo [q 2 (.mv (.c (i64 0)))]
 (jo [q 3 (.mv (.c (i64 0)))]
 (.seq (jo [jm 6 0, q 7 (.len (.t 6)), q 8 (.mv (.c (i64 0)))]
 (.block 0 (.loop (jo [jb 9 .lss 8 7]
 (.seq (.cond (.t 9) .skip (.exit 0))
 (.seq (.block 1 (jo [q 10 (.idx 4 (.t 6) (.t 8)), jd 11 4 10, ⟨(some 5), none, .alloc [(i64 0), (i64 0), (i64 0), (i64 0)]⟩, js 4 5 11]
 (jo [jf 12 0 5, jl 13 12, jk 14 .eql 13 1]
 (.cond (.t 14) (.ops [jm 15 3, jk 16 .add 15 1, jm 3 16]) .skip))))
 (.ops [jk 17 .add 8 1, jm 8 17])))))))
 (jo [jm 18 3, jm 2 18]
 .ret))))
theorem w_impl_slotsOf : Wk Tryz.prog 138 19 [.tmp 2] b_impl_slotsOf := Wk.of mixedOrders Tryz.func138 (by kernel_rfl) (by kernel_rfl)

theorem slotsOf_pc {h : H} {v : Value} {l : List UMove} (hv : Sl h v 4 (l.map UMove.cells)) (hb : l.length ≤ 1048576) : PC Tryz.prog 138 [v] h (i64 (slots l)) := by
 obtain ⟨a, c, b, o, rfl, hcap, h2, h3⟩ := hv
 refine PC_of ?_
 simp only [List.length_map] at h2
 refine w_impl_slotsOf (by simp) ?_
 unfold b_impl_slotsOf
 simp -implicitDefEqProofs only [go_sem, List.length_map]
 refine loopW_of (fun m f h' => ∃ k, m + k = l.length ∧ h' = h ∧ f 6 = .slice a l.length c ∧ f 7 = i64 l.length ∧ f 8 = i64 k ∧ f 3 = i64 (slots (l.take k))) l.length ⟨0, by simp, rfl, by simp -implicitDefEqProofs only [go_sem, List.length_map], by simp -implicitDefEqProofs only [go_sem, List.length_map], by simp -implicitDefEqProofs only [go_sem]; rfl, by simp -implicitDefEqProofs only [go_sem]; rfl⟩ ?_
 rintro m f h' ⟨k, hm, rfl, f6, f7, f8, f3⟩
 skip
 by_cases hk : k < l.length
 ·have e1 := h3 k (l[k]).cells (by simp [hk])
  have hs := slots_le (l.take k)
  have hs2 : (l.take k).length = k := by simp; omega
  have ht := slots_take l k hk
  simp -implicitDefEqProofs only [go_sem, hk, e1, f6, f7, f8, f3, h2, Int.ofNat_lt, Int.natCast_nonneg]
  intro b1 hb_b1 n_b1
  simp -implicitDefEqProofs only [go_sem, wrap_i64 (show -(9223372036854775808 : Int) ≤ (slots (l.take k) + 1) by omega) (show (slots (l.take k) + 1) < 9223372036854775808 by omega), wrap_i64 (show -(9223372036854775808 : Int) ≤ ((k : Int) + 1) by omega) (show ((k : Int) + 1) < 9223372036854775808 by omega), f6, f7, f8, f3, h2, Int.ofNat_lt, Int.natCast_nonneg, hb_b1]
  refine Br.of (fun hkind => ?_) (fun hkind => ?_)
  ·simp -implicitDefEqProofs only [go_sem, hkind, wrap_i64 (show -(9223372036854775808 : Int) ≤ (slots (l.take k) + 1) by omega) (show (slots (l.take k) + 1) < 9223372036854775808 by omega), wrap_i64 (show -(9223372036854775808 : Int) ≤ ((k : Int) + 1) by omega) (show ((k : Int) + 1) < 9223372036854775808 by omega), f6, f7, f8, f3, h2, Int.ofNat_lt, Int.natCast_nonneg, hb_b1]
   refine ⟨m - 1, by omega, _, ((Ext.refl _).set' n_b1 _), k + 1, by omega, ?_⟩
   rw [ht, if_pos hkind]
   repeat' first | apply And.intro | rfl | trivial | assumption | omega
  ·simp -implicitDefEqProofs only [go_sem, hkind, wrap_i64 (show -(9223372036854775808 : Int) ≤ ((k : Int) + 1) by omega) (show ((k : Int) + 1) < 9223372036854775808 by omega), f6, f7, f8, f3, h2, Int.ofNat_lt, Int.natCast_nonneg, hb_b1]
   refine ⟨m - 1, by omega, _, ((Ext.refl _).set' n_b1 _), k + 1, by omega, ?_⟩
   rw [ht, if_neg hkind, Int.add_zero]
   repeat' first | apply And.intro | rfl | trivial | assumption | omega
 ·have e : k = l.length := by omega
  subst e
  skip
  simp -implicitDefEqProofs only [go_sem, Nat.lt_irrefl, List.take_length, f6, f7, f8, f3, h2, Int.ofNat_lt, Int.natCast_nonneg]
  exact Ext.refl _
def isStash (block : Int) (m : UMove) : Bool := decide (m.kind = 1 ∧ m.block = block)
def source (l : List UMove) (block : Int) : Int := match l.find? (isStash block) with | some m => m.slot | none => -1
theorem source_some {l : List UMove} {block : Int} {k : Nat} (hk : k < l.length) (h : isStash block l[k] = true) (hn : ∀ i, (hi : i < k) → isStash block (l[i]'(by omega)) = false) : source l block = l[k].slot := by
 unfold source
 rw [List.find?_eq_some_iff_getElem.2 ⟨h, k, hk, rfl, fun j hj => by simp [hn j hj]⟩]
theorem source_none {l : List UMove} {block : Int} (hn : ∀ i, (hi : i < l.length) → isStash block l[i] = false) : source l block = -1 := by
 unfold source
 rw [List.find?_eq_none.2 (fun x hx => by obtain ⟨i, hi, rfl⟩ := List.getElem_of_mem hx; simp [hn i hi])]
def b_impl_sourceOf : C := (jo [q 6 (.mv (.c (i64 0)))]
 (.seq (jo [jm 9 0, jm 10 1, q 11 (.lsl 4 (.t 9) none (some (.t 10))), q 12 (.len (.t 11)), q 13 (.mv (.c (i64 0)))]
 (.block 0 (.loop (jo [jb 14 .lss 13 12]
 (.seq (.cond (.t 14) .skip (.exit 0))
 (.seq (.block 1 (jo [q 15 (.idx 4 (.t 11) (.t 13)), jd 16 4 15, ⟨(some 8), none, .alloc [(i64 0), (i64 0), (i64 0), (i64 0)]⟩, js 4 8 16]
 (jo [jf 17 0 8, jl 18 17, jk 19 .eql 18 1, jm 20 19, qg 21 20 true (.fld 2 (.t 8)), qg 22 20 true (.ld false 1 (.t 21)), qg 23 20 true (.mv (.t 2)), qg 24 20 true (.bin .eql (.t 22) (.t 23)), q 25 (.pick (.t 20) (.t 24) (.c (.bool false)))]
 (.cond (.t 25) (jo [jf 26 3 8, jl 27 26, jm 6 27]
 .ret) .skip))))
 (.ops [jk 28 .add 13 1, jm 13 28])))))))
 (jo [q 6 (.mv (.c (i64 (-1))))]
 .ret)))
theorem w_impl_sourceOf : Wk Tryz.prog 217 29 [.tmp 6] b_impl_sourceOf := Wk.of mixedOrders Tryz.func217 (by kernel_rfl) (by kernel_rfl)

theorem sourceOf_pc {h : H} {v : Value} {l : List UMove} {d : Nat} {block : Int} (hv : Sl h v 4 (l.map UMove.cells)) (hb : l.length ≤ 1048576) (hd : d ≤ l.length) : PC Tryz.prog 217 [v, i64 d, i64 block] h (i64 (source (l.take d) block)) := by
 obtain ⟨a, n, c, rfl, hcap, hp⟩ : ∃ a n c, v = .slice a n c ∧ d ≤ c ∧ Sl h (.slice a d c) 4 ((l.take d).map UMove.cells) := by
  obtain ⟨a, c, b, o, rfl, hcap, h2, h3⟩ := id hv
  exact ⟨a, _, c, rfl, by simp at hcap; omega, by rw [List.map_take]; exact hv.take (by simpa using hd)⟩
 obtain ⟨t, ht⟩ : ∃ t, t = l.take d := ⟨_, rfl⟩
 have hlen : d = t.length := by rw [ht]; simp; omega
 rw [← ht] at hp ⊢
 have htb : d ≤ 1048576 := by omega
 clear hd hv
 subst hlen
 obtain ⟨a', c', b', o', hsl, hcap', k2, k3⟩ := hp
 simp only [Value.slice.injEq, List.length_map, true_and] at hsl
 obtain ⟨rfl, rfl⟩ := hsl
 simp only [List.length_map] at k2
 refine PC_of ?_
 refine w_impl_sourceOf (by simp) ?_
 unfold b_impl_sourceOf
 simp -implicitDefEqProofs only [go_sem, Int.natCast_nonneg, Int.ofNat_le, show t.length ≤ c by omega]
 refine loopW_of (fun m f h' => ∃ k, m + k = t.length ∧ h' = h ∧ f 2 = i64 block ∧ f 11 = .slice a t.length c ∧ f 12 = i64 t.length ∧ f 13 = i64 k ∧ ∀ i, (hi : i < t.length) → i < k → isStash block t[i] = false) t.length
  ⟨0, by simp, rfl, by simp -implicitDefEqProofs only [go_sem], by simp -implicitDefEqProofs only [go_sem], by simp -implicitDefEqProofs only [go_sem], by simp -implicitDefEqProofs only [go_sem]; rfl, by omega⟩ ?_
 rintro m f h' ⟨k, hm, rfl, f2, f11, f12, f13, hno⟩
 skip
 by_cases hk : k < t.length
 ·have e1 := k3 k (t[k]).cells (by simp [hk])
  simp -implicitDefEqProofs only [go_sem, hk, e1, f2, f11, f12, f13, k2, Int.ofNat_lt, Int.natCast_nonneg]
  intro b1 hb_b1 n_b1
  simp -implicitDefEqProofs only [go_sem, f2, f11, f12, f13, k2, Int.ofNat_lt, Int.natCast_nonneg, hb_b1]
  refine Br.of (fun hk1 => ?_) (fun hk1 => ?_)
  ·simp -implicitDefEqProofs only [go_sem, hk1, f2, f11, f12, f13, k2, Int.ofNat_lt, Int.natCast_nonneg, hb_b1]
   refine Br.of (fun hk2 => ?_) (fun hk2 => ?_)
   ·simp -implicitDefEqProofs only [go_sem, hk1, hk2, f2, f11, f12, f13, k2, Int.ofNat_lt, Int.natCast_nonneg, hb_b1]
    rw [source_some (k := k) (by omega) (by simp [isStash, hk1, hk2]) (fun i hi => hno i (by omega) hi)]
    exact ⟨((Ext.refl _).set' n_b1 _), rfl⟩
   ·simp -implicitDefEqProofs only [go_sem, hk1, hk2, wrap_i64 (show -(9223372036854775808 : Int) ≤ ((k : Int) + 1) by omega) (show ((k : Int) + 1) < 9223372036854775808 by omega), f2, f11, f12, f13, k2, Int.ofNat_lt, Int.natCast_nonneg, hb_b1]
    refine ⟨m - 1, by omega, _, ((Ext.refl _).set' n_b1 _), k + 1, by omega, rfl, rfl, fun i hi1 hi2 => ?_⟩
    by_cases e : i = k
    ·subst e; simp [isStash, hk2]
    ·exact hno i hi1 (by omega)
  ·simp -implicitDefEqProofs only [go_sem, hk1, wrap_i64 (show -(9223372036854775808 : Int) ≤ ((k : Int) + 1) by omega) (show ((k : Int) + 1) < 9223372036854775808 by omega), f2, f11, f12, f13, k2, Int.ofNat_lt, Int.natCast_nonneg, hb_b1]
   refine ⟨m - 1, by omega, _, ((Ext.refl _).set' n_b1 _), k + 1, by omega, rfl, rfl, fun i hi1 hi2 => ?_⟩
   by_cases e : i = k
   ·subst e; simp [isStash, hk1]
   ·exact hno i hi1 (by omega)
 ·have e : k = t.length := by omega
  subst e
  skip
  simp -implicitDefEqProofs only [go_sem, Nat.lt_irrefl, f2, f11, f12, f13, k2, Int.ofNat_lt, Int.natCast_nonneg]
  rw [source_none (fun i hi => hno i hi (by omega))]
  exact ⟨Ext.refl _, rfl⟩
end Go.Proofs.YthjbhdmjfakfaaaGreatDoor
namespace Go.Proofs.YthjbhdmjfakfaaaGreatDoor
open Go.KH

def baseTo (m : UMach) (k : Nat) : List (List UInt8) := (List.range k).map fun j : Nat => flashGet m.flash (3 + (j : Int))
def baseOf (m : UMach) : List (List UInt8) := baseTo m m.blocks.toNat
theorem baseTo_len (m : UMach) (k : Nat) : (baseTo m k).length = k := by unfold baseTo; simp
theorem baseTo_succ (m : UMach) (k : Nat) : baseTo m (k + 1) = baseTo m k ++ [flashGet m.flash (3 + (k : Int))] := by unfold baseTo; rw [List.range_succ, List.map_append]; rfl
theorem baseOf_len {m : UMach} (hf : machFit m) : (baseOf m).length ≤ 8 ∧ ((baseOf m).length : Int) = m.blocks := by
 have := hf.1
 unfold baseOf
 rw [baseTo_len]
 omega
def b_impl_Machine_base : C := (jo [⟨(some 1), none, .box (.t 0)⟩, q 2 (.mv (.c nils))]
 (jo [q 3 (.mv (.c nils))]
 (.seq (jo [jf 5 0 1, jl 6 5, q 7 (.mv (.c (i64 0)))]
 (.block 0 (.loop (jo [jb 8 .lss 7 6]
 (.seq (.cond (.t 8) .skip (.exit 0))
 (.seq (.block 1 (jo [jm 9 7, jm 4 9]
 (.ops [jm 10 3, jf 11 1 1, jd 12 2 11, jm 13 4, q 14 (.bin .add (.c (i64 3)) (.t 13)), jc 15 166 [(.t 12), (.t 14)], ⟨(some 16), none, .bsl 1 [(str [])] [(0, 1, (.t 15))]⟩, ⟨(some 17), none, .app 1 16 (.t 10) (.t 16)⟩, jm 3 17])))
 (.ops [jk 18 .add 7 1, jm 7 18])))))))
 (jo [jm 19 3, jm 2 19]
 .ret))))
theorem w_impl_Machine_base : Wk Tryz.prog 136 20 [.tmp 2] b_impl_Machine_base := Wk.of mixedOrders Tryz.func136 (by kernel_rfl) (by kernel_rfl)

theorem base_ac {h : H} {cs : List Value} {m : UMach} (hv : RepR h (spMach m) cs) (hf : machFit m) : AC Tryz.prog 136 [.agg cs.toArray] h fun r h' => Ext h h' ∧ Own h h' r 1 (strs (baseOf m)) := by
 obtain ⟨vs, vd, rfl, fr⟩ := mach_r.1 hv
 have o4 := fr.1.one
 have o5 := fr.2.one
 have c4 : vcl vs = [vs] := fr.1.vcl
 have c5 : vcl vd = [vd] := fr.2.vcl
 have hd := flashOk_small hf.2.1
 have h27 := hf.2.2
 have hb := hf.1
 skip
 refine w_impl_Machine_base (by simp) ?_
 unfold b_impl_Machine_base
 simp -implicitDefEqProofs only [go_sem, o4, o5, c4, c5]
 intro b1 hb_b1 n_b1
 have E0 : Ext h (h.set b1 ⟨[i64 m.blocks, vs, vd], 3⟩) := ((Ext.refl _).set' n_b1 _)
 have frS := fr.ext E0
 have g1 : (h.set b1 ⟨[i64 m.blocks, vs, vd], 3⟩).get b1 = some ⟨[i64 m.blocks, vs, vd], 3⟩ := H.set_get_same _ _ _
 simp -implicitDefEqProofs only [go_sem, o4, o5, c4, c5, hb_b1]
 generalize hH : h.set b1 ⟨[i64 m.blocks, vs, vd], 3⟩ = hS at E0 frS g1 ⊢
 skip
 refine loopW_of (fun n f h' => ∃ (k : Nat) (w : Value), n + k = m.blocks.toNat ∧ f 1 = ptr b1 0 ∧ f 6 = i64 m.blocks ∧ f 7 = i64 k ∧ f 3 = w ∧ Ext hS h' ∧ Own hS h' w 1 (strs (baseTo m k))) m.blocks.toNat
  ⟨0, nils, by simp, by simp -implicitDefEqProofs only [go_sem, o4, o5, c4, c5], by simp -implicitDefEqProofs only [go_sem, o4, o5, c4, c5], by simp -implicitDefEqProofs only [go_sem, o4, o5, c4, c5]; rfl, by simp -implicitDefEqProofs only [go_sem, o4, o5, c4, c5], Ext.refl _, Own.nil _ _ _⟩ ?_
 rintro n f h' ⟨k, w, hn, f1, f6, f7, f3, he, ho⟩
 obtain ⟨aw, cw, rfl⟩ := ho.shape
 have hlw : (strs (baseTo m k)).length = k := by rw [List.length_map, baseTo_len]
 rw [hlw] at ho f3
 have gh := he.2.g b1 _ g1
 skip
 by_cases hk : k < m.blocks.toNat
 ·simp -implicitDefEqProofs only [go_sem, show (k : Int) < m.blocks by omega, wrap_i64 (show -(9223372036854775808 : Int) ≤ (3 + (k : Int)) by omega) (show (3 + (k : Int)) < 9223372036854775808 by omega), o4, o5, c4, c5, f1, f6, f7, f3, Int.ofNat_lt, Int.natCast_nonneg, ldc_get gh]
  refine (read_pc (frS.ext he) (by omega) (by omega)).use ?_
  simp -implicitDefEqProofs only [go_sem, o4, o5, c4, c5, f1, f6, f7, f3, Int.ofNat_lt, Int.natCast_nonneg, ldc_get gh]
  intro b8 hb8 n8
  simp -implicitDefEqProofs only [go_sem, o4, o5, c4, c5, f1, f6, f7, f3, Int.ofNat_lt, Int.natCast_nonneg, ldc_get gh]
  refine appW_own (new := [[str (flashGet m.flash (3 + (k : Int)))]]) (he.set n8 _) (ho.ext ((Ext.refl _).set n8 _)) rfl (by intro r hr; simp at hr; subst hr; rfl) rfl (by rw [hlw]; show (k + 1) * 16 ≤ _; omega) ?_
  intro v' h'' he2 ho2 _
  simp -implicitDefEqProofs only [go_sem, wrap_i64 (show -(9223372036854775808 : Int) ≤ ((k : Int) + 1) by omega) (show ((k : Int) + 1) < 9223372036854775808 by omega), o4, o5, c4, c5, f1, f6, f7, f3, Int.ofNat_lt, Int.natCast_nonneg, ldc_get gh]
  exact ⟨n - 1, by omega, h'', Ext.refl _, k + 1, v', by omega, rfl, rfl, he2, by rw [baseTo_succ]; simpa using ho2⟩
 ·have e : k = m.blocks.toNat := by omega
  subst e
  simp -implicitDefEqProofs only [go_sem, show ¬ ((m.blocks.toNat : Int) < m.blocks) by omega, o4, o5, c4, c5, f1, f6, f7, f3, Int.ofNat_lt, Int.natCast_nonneg, ldc_get gh]
  exact ⟨E0.trans he, ho.back E0⟩
noncomputable def movesM (m : UMach) (s : UState) : List UMove := planB ((logOf m s).filter isW)
def soundM (m : UMach) (s : UState) : Prop := s.phase ≤ 2 ∨ (codeOf (logOf m s) m.blocks = 0 ∧ slots (movesM m s) ≤ s.stash ∧ s.done ≤ (movesM m s).length)
noncomputable instance (m : UMach) (s : UState) : Decidable (soundM m s) := by unfold soundM; infer_instance
noncomputable def rightOut (m : UMach) : Bool := match stM m with | some s => decide (imageOk (baseOf m) ∧ soundM m s) | none => false
theorem moves_28 {m : UMach} {s : UState} (h : codeOf (logOf m s) m.blocks = 0) : (movesM m s).length ≤ 28 := by
 have h1 := planOut_small (logOf m s) m.blocks
 unfold planOut at h1
 have := (code_zero h).1.1
 rw [if_neg (by omega), if_pos h] at h1
 exact h1
def b_impl_isMachine : C := (jo [⟨(some 1), none, .box (.t 0)⟩, q 2 (.mv (.c (.bool false)))]
 (jo [jd 8 3 1, jc 9 76 [(.t 8)], jm 7 9, q 10 (.ext 0 (.t 7)), q 11 (.ext 1 (.t 7)), ⟨(some 3), none, .alloc [(i64 0), (i64 0), (i64 0), (i64 0), (i64 0), (str []), nils, nils]⟩, js 8 3 10, jm 4 11]
 (.seq (jo [jm 12 4, q 13 (.un .not (.t 12)), jm 14 13, qg 15 14 false (.ld true 3 (.t 1)), jcg 16 14 false 136 [(.t 15)], jcg 17 14 false 34 [(.t 16)], qg 18 14 false (.un .not (.t 17)), q 19 (.pick (.t 14) (.c (.bool true)) (.t 18))]
 (.cond (.t 19) (jo [q 2 (.mv (.c (.bool false)))]
 .ret) .skip))
 (.seq (jo [jf 20 0 3, jl 21 20, jk 22 .eql 21 1, jm 23 22, qg 24 23 false (.fld 0 (.t 3)), qg 25 23 false (.ld false 1 (.t 24)), qg 26 23 false (.bin .eql (.t 25) (.c (i64 2))), q 27 (.pick (.t 23) (.c (.bool true)) (.t 26))]
 (.cond (.t 27) (jo [q 2 (.mv (.c (.bool true)))]
 .ret) .skip))
 (jo [jd 28 3 1, jd 29 8 3, jc 30 81 [(.t 28), (.t 29)], jm 5 30]
 (.seq (jo [jm 31 5, jf 32 0 1, jl 33 32, jc 34 64 [(.t 31), (.t 33)], jk 35 .neq 34 0]
 (.cond (.t 35) (jo [q 2 (.mv (.c (.bool false)))]
 .ret) .skip))
 (jo [jm 36 5, jc 37 137 [(.t 36)], jm 6 37]
 (.seq (.dops true (.tk (jm 38 6) (.tk (jf 40 3 3) (.tk (jl 41 40) (.sq (jc 39 138 [(.t 38)]) (.tk (jb 42 .leq 39 41) (.tk (jm 43 42) (.tk (qg 44 43 true (.mv (.t 6))) (.tk (qg 46 43 true (.fld 4 (.t 3))) (.tk (qg 47 43 true (.ld false 1 (.t 46))) (.sq (jcg 45 43 true 139 [(.t 44)]) (.tk (qg 48 43 true (.bin .geq (.t 45) (.t 47))) (.tk (q 49 (.pick (.t 43) (.t 48) (.c (.bool false)))) (.tk (jm 2 49) .nil))))))))))))))
 .ret))))))))
theorem w_impl_isMachine : Wk Tryz.prog 71 50 [.tmp 2] b_impl_isMachine := Wk.of mixedOrders Tryz.func71 (by kernel_rfl) (by kernel_rfl)

set_option maxHeartbeats 1600000 in
theorem isMachine_pc {h : H} {cs : List Value} {m : UMach} (hv : RepR h (spMach m) cs) (hs : m.flash.fin1) : PC Tryz.prog 71 [.agg cs.toArray] h (.bool (rightOut m)) := by
 obtain ⟨R, hR⟩ : ∃ R, R = rightOut m := ⟨_, rfl⟩
 rw [← hR]
 unfold rightOut at hR
 have hv0 := hv
 obtain ⟨vs, vd, rfl, fr⟩ := mach_r.1 hv
 have o4 := fr.1.one
 have o5 := fr.2.one
 have c4 : vcl vs = [vs] := fr.1.vcl
 have c5 : vcl vd = [vd] := fr.2.vcl
 refine PC_of ?_
 skip
 refine w_impl_isMachine (by simp) ?_
 unfold b_impl_isMachine
 simp -implicitDefEqProofs only [go_sem, o4, o5, c4, c5]
 intro b1 hb_b1 n_b1
 simp -implicitDefEqProofs only [go_sem, o4, o5, c4, c5, hb_b1]
 refine AC_of (stateOf_ac (hv0.ext ((Ext.refl _).set' n_b1 _)) hs) ?_
 rintro _ h2 - ⟨e2, cs2, rfl, F2⟩
 have l2 := F2.r.len
 have t2 := take_len l2
 have o2 := F2.r.one
 have g1 := e2.2.g b1 _ (H.set_get_same _ _ _)
 have E2 := (((Ext.refl _).set' n_b1 _)).trans e2
 skip
 simp -implicitDefEqProofs only [go_sem, l2, t2, o2, o4, o5, c4, c5]
 intro b3 hb3 n3
 have z31 : (b1 = b3) = False := eq_false fun e => by rw [← e, g1] at n3; cases n3
 have e3 := (Ext.refl h2).set n3 ⟨cs2, 8⟩
 have E3 := E2.trans e3
 have G1 := e3.2.g b1 _ g1
 have G3 : (h2.set b3 ⟨cs2, 8⟩).get b3 = some ⟨cs2, 8⟩ := H.set_get_same _ _ _
 cases hst : stM m with
 | none =>
  simp -implicitDefEqProofs only [go_sem, l2, t2, o2, hb3, Option.isSome_none, o4, o5, c4, c5]
  exact ⟨E3, by rw [hR, hst]⟩
 | some s =>
  rw [hst] at F2
  simp only [Option.getD_some] at F2
  have hok := stM_ok hst
  have h20 := logOf_len m hok.2
  have hb8 := baseOf_len hok.1
  have hR2 : R = decide (imageOk (baseOf m) ∧ soundM m s) := by rw [hR, hst]
  simp -implicitDefEqProofs only [go_sem, l2, t2, o2, hb3, z31, ldc_get g1, Option.isSome_some, o4, o5, c4, c5]
  generalize hH : h2.set b3 ⟨cs2, 8⟩ = h3 at e3 E3 G1 G3 ⊢
  refine AC_of (base_ac (hv0.ext E3) hok.1) ?_
  rintro v4 h4 - ⟨e4, f4⟩
  have G1 := e4.2.g b1 _ G1
  have G3 := e4.2.g b3 _ G3
  have E4 := E3.trans e4
  simp -implicitDefEqProofs only [go_sem, f4.sl.vcl, o4, o5, c4, c5]
  refine (isImage_pc f4.sl (by omega)).use ?_
  by_cases hi : imageOk (baseOf m)
  rotate_left
  ·simp -implicitDefEqProofs only [go_sem, hi, o4, o5, c4, c5]
   exact ⟨E4, by rw [hR2]; simp [hi]⟩
  obtain ⟨uh, um, rfl, sh, sm⟩ := F2.r
  have o6 := sh.vcl
  have o7 := sm.vcl
  have ph := hok.2.1
  have sd : ∀ x : Bool, (x = true ↔ soundM m s) → Value.bool x = Value.bool R := fun x hx => by rw [hR2]; cases x <;> simp [hi] at hx ⊢ <;> exact hx
  by_cases p1 : s.phase = 1
  ·simp -implicitDefEqProofs only [go_sem, hi, ldc_get G3, o6, o7, p1, o4, o5, c4, c5]
   exact ⟨E4, sd true ⟨fun _ => .inl (by omega), fun _ => rfl⟩⟩
  by_cases p2 : s.phase = 2
  ·simp -implicitDefEqProofs only [go_sem, hi, ldc_get G3, o6, o7, p2, o4, o5, c4, c5]
   exact ⟨E4, sd true ⟨fun _ => .inl (by omega), fun _ => rfl⟩⟩
  have p3 : ¬ s.phase ≤ 2 := by omega
  simp -implicitDefEqProofs only [go_sem, hi, ldc_get G3, o6, o7, p1, p2, ldc_get G1, o4, o5, c4, c5]
  refine AC_of (log_ac (hv0.ext E4) hok.1 ((F2.ext (e3.trans e4)).r) hok.2) ?_
  rintro v5 h5 - ⟨e5, f5⟩
  have G1 := e5.2.g b1 _ G1
  have G3 := e5.2.g b3 _ G3
  have E5 := E4.trans e5
  simp -implicitDefEqProofs only [go_sem, f5.sl.vcl, ldc_get G1, o4, o5, c4, c5]
  refine (stepsCode_pc f5.sl (by omega)).use ?_
  by_cases hc : codeOf (logOf m s) m.blocks = 0
  rotate_left
  ·simp -implicitDefEqProofs only [go_sem, hc, o4, o5, c4, c5]
   exact ⟨E5, sd false ⟨fun h => by simp at h, fun h => absurd (h.resolve_left p3).1 hc⟩⟩
  have hco := (code_zero hc).1
  have h28 := moves_28 hc
  simp -implicitDefEqProofs only [go_sem, hc, o4, o5, c4, c5]
  refine AC_of (planOf_ac f5.sl h20 (steps_dst hco)) ?_
  rintro v6 h6 - ⟨e6, f6⟩
  have G3 := e6.2.g b3 _ G3
  have E6 := E5.trans e6
  simp -implicitDefEqProofs only [go_sem, f6.sl.vcl, ldc_get G3, o6, o7, o4, o5, c4, c5]
  refine (slotsOf_pc f6.sl (by unfold movesM at h28; omega)).use ?_
  by_cases k1 : slots (movesM m s) ≤ s.stash
  rotate_left
  ·have k1' : ¬ slots (planB ((logOf m s).filter isW)) ≤ s.stash := k1
   simp -implicitDefEqProofs only [go_sem, k1', ldc_get G3, o6, o7, Sub.refl, o4, o5, c4, c5]
   exact ⟨E6, sd false ⟨fun h => by simp at h, fun h => absurd (h.resolve_left p3).2.1 k1⟩⟩
  have k1' : slots (planB ((logOf m s).filter isW)) ≤ s.stash := k1
  simp -implicitDefEqProofs only [go_sem, k1', ldc_get G3, o6, o7, Sub.refl, o4, o5, c4, c5]
  refine (sizeMove_pc f6.sl).use ?_
  have hl : ((planB ((logOf m s).filter isW)).map UMove.cells).length = (movesM m s).length := by simp [movesM]
  by_cases k2 : s.done ≤ (movesM m s).length
  ·have k2' : ((movesM m s).length : Int) ≥ s.done := k2
   simp -implicitDefEqProofs only [go_sem, k2', hl, ldc_get G3, o6, o7, Sub.refl, o4, o5, c4, c5]
   exact ⟨E6, sd true ⟨fun _ => .inr ⟨hc, k1, k2⟩, fun _ => rfl⟩⟩
  ·have k2' : ¬ ((movesM m s).length : Int) ≥ s.done := k2
   simp -implicitDefEqProofs only [go_sem, k2', hl, ldc_get G3, o6, o7, Sub.refl, o4, o5, c4, c5]
   exact ⟨E6, sd false ⟨fun h => by simp at h, fun h => absurd (h.resolve_left p3).2.2 k2⟩⟩
end Go.Proofs.YthjbhdmjfakfaaaGreatDoor