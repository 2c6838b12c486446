/- A helper of this seat's claims (contracts of the functions): what it shows is shown for every input that its statements name, on no other condition. -/
import Derived.Test.YthjbhdmjfakfaaaGreatDoorC06c
import Derived.Test.YthjbhdmjfakfaaaGreatDoorMC06
import Derived.Test.YthjbhdmjfakfaaaGreatDoorMC09r
import Derived.Test.YthjbhdmjfakfaaaGreatDoorMC12r
set_option linter.unusedVariables false
set_option linter.unusedSimpArgs false
set_option maxRecDepth 100000
namespace Go.Proofs.YthjbhdmjfakfaaaGreatDoor
open Go.KH

structure UPkg where
 blocks : Int
 digest : List UInt8
 steps : List UStep
deriving DecidableEq
abbrev UPkg.cells (p : UPkg) (v : Value) : List Value := [i64 p.blocks, str p.digest, v]
def pkgOk (p : UPkg) : Prop := codeOf p.steps p.blocks = 0 ∧ p.digest.length = 32
noncomputable instance (p : UPkg) : Decidable (pkgOk p) := inferInstanceAs (Decidable (_ ∧ _))
def UPkg.fin (p : UPkg) : Prop := p.steps.length ≤ maxLen
def UPkg.ok (p : UPkg) : Prop := in64 p.blocks ∧ p.digest.length ≤ maxLen ∧ p.steps.length ≤ maxLen ∧ ∀ s ∈ p.steps, s.ok
theorem stepB_60 {s : UStep} {b : Int} (hs : s.ok) (h : stepOk s b) : (stepB s).length ≤ 60 := by
 have hd := stepOk_data h
 have l1 := putNum_le hs.1
 have l2 := putNum_le hs.2.1
 have l3 := putNum_le hs.2.2.1
 have l4 := putText_le (t := s.data) (by omega)
 unfold stepB
 simp only [List.length_append]; omega
def b_impl_size_impl_Step : C := (jo [q 2 (.mv (.c (i64 0)))]
 (jo [jm 3 0, q 4 (.len (.t 3)), jm 2 4]
 .ret))
theorem w_impl_size_impl_Step : Wk Tryz.prog 96 5 [.tmp 2] b_impl_size_impl_Step := Wk.of mixedOrders Tryz.func96 (by kernel_rfl) (by kernel_rfl)

theorem sizeStep_pc {h : H} {v : Value} {l : List UStep} (hv : Sl h v 4 (l.map UStep.cells)) : PC Tryz.prog 96 [v] h (i64 l.length) := by
 obtain ⟨a, c, b, o, rfl, hcap, h2, h3⟩ := hv
 rw [List.length_map]
 refine w_impl_size_impl_Step (by simp) ?_
 unfold b_impl_size_impl_Step
 simp -implicitDefEqProofs only [go_sem]
end Go.Proofs.YthjbhdmjfakfaaaGreatDoor
namespace Go.Proofs.YthjbhdmjfakfaaaGreatDoor
open Go.KH

def scanN (n : Nat) : List (List UInt8) → List UStep
 | [] => []
 | t :: ts => if (recR t n).2 = 0 then (recR t n).1 :: scanN (n + 1) ts else []
theorem scanN_len : ∀ (ts : List (List UInt8)) (n : Nat), (scanN n ts).length ≤ ts.length
 | [], n => by simp [scanN]
 | t :: ts, n => by
  unfold scanN
  split
  ·have := scanN_len ts (n + 1); simp only [List.length_cons]; omega
  ·simp
theorem scanN_step {ts : List (List UInt8)} {k : Nat} (hk : k < ts.length) : scanN k (ts.drop k) = if (recR ts[k] k).2 = 0 then (recR ts[k] k).1 :: scanN (k + 1) (ts.drop (k + 1)) else [] := by
 rw [List.drop_eq_getElem_cons hk, scanN]
def b_impl_scan : C := (jo [q 2 (.mv (.c nils))]
 (jo [q 3 (.mv (.c nils))]
 (.seq (jo [jm 8 0, q 9 (.len (.t 8)), q 10 (.mv (.c (i64 0)))]
 (.block 0 (.loop (jo [jb 11 .lss 10 9]
 (.seq (.cond (.t 11) .skip (.exit 0))
 (.seq (.block 1 (jo [jm 12 10, q 13 (.idx 1 (.t 8) (.t 10)), jl 14 13, jm 4 12, jm 5 14]
 (jo [jm 16 5, jm 17 4, jc 18 221 [(.t 16), (.t 17)], jm 15 18, q 19 (.ext 0 (.t 15)), q 20 (.ext 1 (.t 15)), ⟨(some 6), none, .alloc [(i64 0), (i64 0), (i64 0), (str [])]⟩, js 4 6 19, jm 7 20]
 (.seq (jo [jm 21 7, jk 22 .neq 21 0]
 (.cond (.t 22) (.exit 0) .skip))
 (.ops [jm 23 3, jd 24 4 6, ⟨(some 25), none, .bsl 1 [(i64 0), (i64 0), (i64 0), (str [])] [(0, 4, (.t 24))]⟩, ⟨(some 26), none, .app 4 40 (.t 23) (.t 25)⟩, jm 3 26])))))
 (.ops [jk 27 .add 10 1, jm 10 27])))))))
 (jo [jm 28 3, jm 2 28]
 .ret))))
theorem w_impl_scan : Wk Tryz.prog 170 29 [.tmp 2] b_impl_scan := Wk.of mixedOrders Tryz.func170 (by kernel_rfl) (by kernel_rfl)

theorem scan_own {h : H} {v : Value} {l : List (List UInt8)} (hv : Sl h v 1 (strs l)) (hn : l.length ≤ 1000) (ht : ∀ t ∈ l, t.length ≤ 1048576) : AC Tryz.prog 170 [v] h fun r h' => Ext h h' ∧ Own h h' r 4 ((scanN 0 l).map UStep.cells) := by
 obtain ⟨a, c, b, o, rfl, hcap, h2, h3⟩ := hv
 simp only [List.length_map] at h2
 skip
 refine w_impl_scan (by simp) ?_
 unfold b_impl_scan
 simp -implicitDefEqProofs only [go_sem, List.length_map]
 refine loopW_of (fun m f h' => ∃ (k : Nat) (acc : List UStep) (w : Value), m + k = l.length ∧ f 8 = .slice a l.length c ∧ f 9 = i64 l.length ∧ f 10 = i64 k ∧ f 3 = w ∧ scanN 0 l = acc ++ scanN k (l.drop k) ∧ acc.length = k ∧ Ext h h' ∧ Own h h' w 4 (acc.map UStep.cells)) l.length
  ⟨0, [], nils, by simp, by simp -implicitDefEqProofs only [go_sem, List.length_map], by simp -implicitDefEqProofs only [go_sem, List.length_map], by simp -implicitDefEqProofs only [go_sem, List.length_map]; rfl, by simp -implicitDefEqProofs only [go_sem, List.length_map], by simp, rfl, Ext.refl _, Own.nil _ _ _⟩ ?_
 rintro m f h' ⟨k, acc, w, hm, f8, f9, f10, f3, hsc, hak, he, ho⟩
 obtain ⟨aw, cw, rfl⟩ := ho.shape
 rw [List.length_map] at ho f3
 skip
 by_cases hk : k < l.length
 ·have e1 := ldc_sub he.2 (h3 k [str l[k]] (by simp [hk]))
  have hmem := ht _ (List.getElem_mem hk)
  simp -implicitDefEqProofs only [go_sem, hk, e1, List.length_map, f8, f9, f10, f3, h2, Int.ofNat_lt, Int.natCast_nonneg]
  refine (recordRead_pc _ l[k] k hmem).use ?_
  rw [scanN_step hk] at hsc
  simp -implicitDefEqProofs only [go_sem, List.length_map, f8, f9, f10, f3, h2, Int.ofNat_lt, Int.natCast_nonneg]
  intro b6 hb_b6 n_b6
  by_cases hc : (recR l[k] k).2 = 0
  ·rw [if_pos hc] at hsc
   simp -implicitDefEqProofs only [go_sem, hc, List.length_map, f8, f9, f10, f3, h2, Int.ofNat_lt, Int.natCast_nonneg, hb_b6]
   intro b7 hb_b7 m0_b7
   obtain ⟨z_b7_b6, y_b7_b6, n_b7⟩ := fne m0_b7
   simp only [H.set_base] at hb_b7
   simp -implicitDefEqProofs only [go_sem, List.length_map, f8, f9, f10, f3, h2, Int.ofNat_lt, Int.natCast_nonneg, hb_b6, hb_b7, z_b7_b6, y_b7_b6]
   refine appW_own (new := [(recR l[k] k).1.cells]) ((he.set n_b6 _).set m0_b7 _) (ho.ext (((Ext.refl _).set n_b6 _).set m0_b7 _)) rfl (by intro r hr; simp at hr; subst hr; rfl) rfl (by simp; omega) ?_
   intro v' h'' he2 ho2 _
   simp -implicitDefEqProofs only [go_sem, wrap_i64 (show -(9223372036854775808 : Int) ≤ ((k : Int) + 1) by omega) (show ((k : Int) + 1) < 9223372036854775808 by omega), List.length_map, f8, f9, f10, f3, h2, Int.ofNat_lt, Int.natCast_nonneg, hb_b6, hb_b7, z_b7_b6, y_b7_b6]
   exact ⟨m - 1, by omega, h'', Ext.refl _, k + 1, acc ++ [(recR l[k] k).1], v', by omega, rfl, rfl, by rw [hsc]; simp, by simp [hak], he2, by simpa using ho2⟩
  ·skip
   rw [if_neg hc, List.append_nil] at hsc
   simp -implicitDefEqProofs only [go_sem, hc, List.length_map, f8, f9, f10, f3, h2, Int.ofNat_lt, Int.natCast_nonneg, hb_b6]
   rw [hsc]
   exact ⟨he.set n_b6 _, ho.ext ((Ext.refl _).set n_b6 _)⟩
 ·skip
  have e : k = l.length := by omega
  subst e
  rw [List.drop_length, scanN, List.append_nil] at hsc
  simp -implicitDefEqProofs only [go_sem, Nat.lt_irrefl, List.length_map, f8, f9, f10, f3, h2, Int.ofNat_lt, Int.natCast_nonneg]
  rw [hsc]
  exact ⟨he, ho⟩
structure UScan where
 steps : List UStep
 kept : Int
deriving DecidableEq
abbrev UScan.cells (o : UScan) (v : Value) : List Value := [v, i64 o.kept]
abbrev spScan (o : UScan) : List Sp := [.s 4 (o.steps.map UStep.cells), .v (i64 o.kept)]
theorem scan_f {h0 h : H} {o : UScan} {cs : List Value} : RepF h0 h (spScan o) cs ↔ ∃ v, cs = o.cells v ∧ Fre h0 h v 4 (o.steps.map UStep.cells) := by
 simp only [spScan, RepF_i, RepF_s, RepF_nil]
 constructor
 ·rintro ⟨v, _, rfl, h1, _, _, rfl, rfl⟩; exact ⟨v, rfl, h1⟩
 ·rintro ⟨v, rfl, h1⟩; exact ⟨v, _, rfl, h1, fun d hd => by simp only [List.mem_singleton] at hd; subst hd; exact Dj.nb rfl, _, rfl, rfl⟩
def UScan.fin (o : UScan) : Prop := o.steps.length ≤ maxLen
def UScan.small (o : UScan) : Prop := o.steps.length ≤ 1048576
end Go.Proofs.YthjbhdmjfakfaaaGreatDoor
namespace Go.Proofs.YthjbhdmjfakfaaaGreatDoor
open Go.KH

theorem stateOk_log {s : UState} (hok : stateOk s) : s.stash.toNat ≤ s.mine.length ∧ s.mine.length - s.stash.toNat ≤ 20 ∧ s.mine.length ≤ 24 ∧ (∀ x ∈ s.mine, 0 ≤ x ∧ x ≤ 23) := by
 have h5 := hok.2.2.2.2
 have h3 := listOk_le hok.2.2.1
 have hm := fun x hx => listOk_mem hok.2.2.1 x hx
 by_cases p : s.phase = 1
 ·rw [if_pos p] at h5
  obtain ⟨_, _, q, _, _, e⟩ := h5
  rw [q, e]
  exact ⟨by simp, by simp, by simp, fun x hx => by cases hx⟩
 ·rw [if_neg p] at h5
  exact ⟨by omega, by omega, h3, hm⟩
def areasOf (m : UMach) (l : List Int) : List (List UInt8) := l.map (areaOf m)
def logOf (m : UMach) (s : UState) : List UStep := scanN 0 (areasOf m (s.mine.drop s.stash.toNat))
theorem logOf_len {s : UState} (m : UMach) (hok : stateOk s) : (logOf m s).length ≤ 20 := by
 have h1 := scanN_len (areasOf m (s.mine.drop s.stash.toNat)) 0
 have h2 := (stateOk_log hok).2.1
 unfold areasOf at h1
 rw [List.length_map, List.length_drop] at h1
 unfold logOf areasOf
 omega
theorem areas_ok {m : UMach} {s : UState} (hf : machFit m) (hok : stateOk s) : (areasOf m (s.mine.drop s.stash.toNat)).length ≤ 1000 ∧ ∀ t ∈ areasOf m (s.mine.drop s.stash.toNat), t.length ≤ 1048576 := by
 have h2 := stateOk_log hok
 unfold areasOf
 refine ⟨by rw [List.length_map, List.length_drop]; omega, fun t ht => ?_⟩
 obtain ⟨x, _, rfl⟩ := List.mem_map.1 ht
 have := areaOf_len hf x
 omega
def b_impl_Machine_log : C := (jo [⟨(some 2), none, .box (.t 0)⟩, ⟨(some 3), none, .box (.t 1)⟩, q 4 (.mv (.c nils))]
 (jo [q 5 (.mv (.c nils))]
 (.seq (jo [jf 8 7 3, jl 9 8, jf 10 3 3, jl 11 10, q 12 (.lsl 1 (.t 9) (some (.t 11)) none), q 13 (.len (.t 12)), q 14 (.mv (.c (i64 0)))]
 (.block 0 (.loop (jo [jb 15 .lss 14 13]
 (.seq (.cond (.t 15) .skip (.exit 0))
 (.seq (.block 1 (jo [q 16 (.idx 1 (.t 12) (.t 14)), jl 17 16, jm 7 17]
 (.ops [jm 18 5, jd 19 3 2, jm 20 7, jc 21 163 [(.t 19), (.t 20)], ⟨(some 22), none, .bsl 1 [(str [])] [(0, 1, (.t 21))]⟩, ⟨(some 23), none, .app 1 16 (.t 18) (.t 22)⟩, jm 5 23])))
 (.ops [jk 24 .add 14 1, jm 14 24])))))))
 (jo [jm 25 5, jc 26 170 [(.t 25)], jm 4 26]
 .ret))))
theorem w_impl_Machine_log : Wk Tryz.prog 81 27 [.tmp 4] b_impl_Machine_log := Wk.of mixedOrders Tryz.func81 (by kernel_rfl) (by kernel_rfl)

theorem log_own {h : H} {cs c2 : List Value} {m : UMach} {s : UState} (hv : RepR h (spMach m) cs) (hf : machFit m) (hst : StR h c2 s) (hok : stateOk s) : AC Tryz.prog 81 [.agg cs.toArray, .agg c2.toArray] h fun r h' => Ext h h' ∧ Own h h' r 4 ((logOf m s).map UStep.cells) := by
 have hL := stateOk_log hok
 have l1 := hv.len
 simp only [List.length_cons, List.length_nil, Nat.reduceAdd] at l1
 have t1 := take_len l1
 have o1 := hv.one
 have hsz := areas_ok hf hok
 have hs4 := stateOk_stash hok
 unfold logOf
 obtain ⟨L, hLd⟩ : ∃ L, L = s.mine.drop s.stash.toNat := ⟨_, rfl⟩
 have lL : L.length = s.mine.length - s.stash.toNat := by rw [hLd]; simp
 have hmem : ∀ x ∈ L, 0 ≤ x ∧ x ≤ 23 := fun x hx => hL.2.2.2 x (by rw [hLd] at hx; exact List.mem_of_mem_drop hx)
 rw [← hLd] at hsz ⊢
 obtain ⟨uh, um, rfl, sh, sm⟩ := hst
 have o2 := sh.one
 have o3 := sm.one
 have l2 : (ints s.mine).length = s.mine.length := by simp
 have hsh := sm.shape
 rw [l2] at hsh
 obtain ⟨am, cm, rfl⟩ := hsh
 have sp := sm.part (show s.stash.toNat ≤ s.mine.length from hL.1) (Nat.le_refl _)
 have hdr : ((ints s.mine).take s.mine.length).drop s.stash.toNat = ints L := by rw [← l2, List.take_length, hLd]; simp
 rw [hdr, ← lL] at sp
 skip
 refine w_impl_Machine_log (by simp) ?_
 unfold b_impl_Machine_log
 simp -implicitDefEqProofs only [go_sem, l1, t1, o1, o2, o3, l2]
 intro b2 hb_b2 n_b2
 simp -implicitDefEqProofs only [go_sem, l1, t1, o1, o2, o3, l2, hb_b2]
 intro b3 hb_b3 m0_b3
 obtain ⟨z_b3_b2, y_b3_b2, n_b3⟩ := fne m0_b3
 simp only [H.set_base] at hb_b3
 have E0 : Ext h ((h.set b2 ⟨cs, 3⟩).set b3 ⟨s.cells uh (.slice am s.mine.length cm), 8⟩) := (((Ext.refl _).set' n_b2 _).set' n_b3 _)
 simp -implicitDefEqProofs only [go_sem, show 0 ≤ s.stash ∧ s.stash ≤ (s.mine.length : Int) by omega, ← lL, l1, t1, o1, o2, o3, l2, hb_b2, hb_b3, z_b3_b2, y_b3_b2]
 obtain ⟨asl, hasl⟩ : ∃ a, a = (if cm = s.stash.toNat then am else am.map (·.add (s.stash.toNat * 1))) := ⟨_, rfl⟩
 obtain ⟨csl, hcsl⟩ : ∃ a, a = cm - s.stash.toNat := ⟨_, rfl⟩
 rw [← hasl, ← hcsl] at sp ⊢
 have hSv := hv.ext E0
 have g2 : ((h.set b2 ⟨cs, 3⟩).set b3 ⟨s.cells uh (.slice am s.mine.length cm), 8⟩).get b2 = some ⟨cs, 3⟩ := by simp -implicitDefEqProofs only [go_sem, l1, t1, o1, o2, o3, l2, hb_b2, hb_b3, z_b3_b2, y_b3_b2]
 have d1 := (sp.ext E0)
 generalize hH : (h.set b2 ⟨cs, 3⟩).set b3 ⟨s.cells uh (.slice am s.mine.length cm), 8⟩ = hS at E0 hSv g2 d1 ⊢
 skip
 obtain ⟨_, _, b, o, e, hcap, r2, r3⟩ := d1
 simp only [Value.slice.injEq, List.length_map] at e r2
 have step : ∀ k, (hk : k < L.length) → areasOf m (L.take (k + 1)) = areasOf m (L.take k) ++ [areaOf m L[k]] := fun k hk => by
  unfold areasOf; rw [List.take_succ_eq_append_getElem hk, List.map_append]; rfl
 have len : ∀ k, k ≤ L.length → (areasOf m (L.take k)).length = k := fun k hk => by unfold areasOf; rw [List.length_map, List.length_take]; omega
 refine loopW_of (fun n f h' => ∃ (k : Nat) (w : Value), n + k = L.length ∧ f 2 = ptr b2 0 ∧ f 12 = .slice asl L.length csl ∧ f 13 = i64 L.length ∧ f 14 = i64 k ∧ f 5 = w ∧ Ext hS h' ∧ Own hS h' w 1 (strs (areasOf m (L.take k)))) L.length
  ⟨0, nils, by simp, by simp -implicitDefEqProofs only [go_sem, l1, t1, o1, o2, o3, l2], by simp -implicitDefEqProofs only [go_sem, l1, t1, o1, o2, o3, l2], by simp -implicitDefEqProofs only [go_sem, l1, t1, o1, o2, o3, l2], by simp -implicitDefEqProofs only [go_sem, l1, t1, o1, o2, o3, l2]; rfl, by simp -implicitDefEqProofs only [go_sem, l1, t1, o1, o2, o3, l2], Ext.refl _, Own.nil _ _ _⟩ ?_
 rintro n f h' ⟨k, w, hn, f2, f12, f13, f14, f5, he, ho⟩
 obtain ⟨aw, cw, rfl⟩ := ho.shape
 have hle := len k (by omega)
 have hlw : (strs (areasOf m (L.take k))).length = k := by rw [List.length_map]; exact hle
 rw [hlw] at ho f5
 have gg := he.2.g b2 _ g2
 skip
 by_cases hk : k < L.length
 ·have e1 := ldc_sub he.2 (r3 k [i64 L[k]] (by simp [hk]))
  have hx := hmem _ (List.getElem_mem hk)
  simp -implicitDefEqProofs only [go_sem, hk, e1, l1, t1, o1, o2, o3, l2, f2, f12, f13, f14, f5, r2, Int.ofNat_lt, Int.natCast_nonneg, ldc_get gg]
  refine (area_pc (hSv.ext he) hf hx).use ?_
  simp -implicitDefEqProofs only [go_sem, l1, t1, o1, o2, o3, l2, f2, f12, f13, f14, f5, r2, Int.ofNat_lt, Int.natCast_nonneg, ldc_get gg]
  intro b7 hb7 n7
  simp -implicitDefEqProofs only [go_sem, l1, t1, o1, o2, o3, l2, f2, f12, f13, f14, f5, r2, Int.ofNat_lt, Int.natCast_nonneg, ldc_get gg]
  refine appW_own (new := [[str (areaOf m L[k])]]) (he.set n7 _) (ho.ext ((Ext.refl _).set n7 _)) rfl (by intro r hr; simp at hr; subst hr; rfl) rfl (by simp; omega) ?_
  intro v' h'' he2 ho2 _
  simp -implicitDefEqProofs only [go_sem, wrap_i64 (show -(9223372036854775808 : Int) ≤ ((k : Int) + 1) by omega) (show ((k : Int) + 1) < 9223372036854775808 by omega), l1, t1, o1, o2, o3, l2, f2, f12, f13, f14, f5, r2, Int.ofNat_lt, Int.natCast_nonneg, ldc_get gg]
  exact ⟨n - 1, by omega, h'', Ext.refl _, k + 1, v', by omega, rfl, rfl, he2, by rw [step k hk]; simpa using ho2⟩
 ·have e : k = L.length := by omega
  subst e
  rw [List.take_length] at ho
  simp -implicitDefEqProofs only [go_sem, Nat.lt_irrefl, l1, t1, o1, o2, o3, l2, f2, f12, f13, f14, f5, r2, Int.ofNat_lt, Int.natCast_nonneg, ldc_get gg]
  refine AC_of (scan_own ho.fre.sl hsz.1 hsz.2) ?_
  rintro v1 h1 - ⟨e1, f1⟩
  simp -implicitDefEqProofs only [go_sem, f1.sl.vcl, l1, t1, o1, o2, o3, l2, f2, f12, f13, f14, f5, r2, Int.ofNat_lt, Int.natCast_nonneg, ldc_get gg]
  exact ⟨(E0.trans he).trans e1, f1.back (E0.trans he)⟩
theorem log_ac {h : H} {cs c2 : List Value} {m : UMach} {s : UState} (hv : RepR h (spMach m) cs) (hf : machFit m) (hst : StR h c2 s) (hok : stateOk s) : AC Tryz.prog 81 [.agg cs.toArray, .agg c2.toArray] h fun r h' => Ext h h' ∧ Fre h h' r 4 ((logOf m s).map UStep.cells) := (log_own hv hf hst hok).mono fun _ _ _ q => ⟨q.1, q.2.fre⟩
def logOfOut (m : UMach) : UScan := match stM m with | some s => ⟨logOf m s, kept (logOf m s)⟩ | none => ⟨[], 0⟩
def b_impl_LogOf : C := (jo [⟨(some 1), none, .box (.t 0)⟩, ⟨(some 2), none, .alloc [nils, (i64 0)]⟩]
 (jo [jd 7 3 1, jc 8 76 [(.t 7)], jm 6 8, q 9 (.ext 0 (.t 6)), q 10 (.ext 1 (.t 6)), ⟨(some 3), none, .alloc [(i64 0), (i64 0), (i64 0), (i64 0), (i64 0), (str []), nils, nils]⟩, js 8 3 9, jm 4 10]
 (.seq (jo [jm 11 4, q 12 (.un .not (.t 11))]
 (.cond (.t 12) (jo [q 13 (.build [nils, (i64 0)] []), js 2 2 13]
 .ret) .skip))
 (jo [jd 14 3 1, jd 15 8 3, jc 16 81 [(.t 14), (.t 15)], jm 5 16]
 (jo [jm 17 5, jm 18 5, jc 19 82 [(.t 18)], q 20 (.build [nils, (i64 0)] [(0, 1, (.t 17)), (1, 1, (.t 19))]), js 2 2 20]
 .ret)))))
theorem w_impl_LogOf : Wk Tryz.prog 32 21 [.cell 2 true 2] b_impl_LogOf := Wk.of mixedOrders Tryz.func32 (by kernel_rfl) (by kernel_rfl)

theorem implLogOf_ac {h : H} {cs : List Value} {m : UMach} (hv : RepR h (spMach m) cs) (hs : m.flash.fin1) : AC Tryz.prog 32 [.agg cs.toArray] h fun r h' => Ext h h' ∧ ∃ cs', r = .agg cs'.toArray ∧ RepF h h' (spScan (logOfOut m)) cs' := by
 have l1 := hv.len
 simp only [List.length_cons, List.length_nil, Nat.reduceAdd] at l1
 have t1 := take_len l1
 have o1 := hv.one
 unfold logOfOut
 skip
 refine w_impl_LogOf (by simp) ?_
 unfold b_impl_LogOf
 simp -implicitDefEqProofs only [go_sem, l1, t1, o1]
 intro b1 hb_b1 n_b1
 simp -implicitDefEqProofs only [go_sem, l1, t1, o1, hb_b1]
 intro b2 hb_b2 m0_b2
 obtain ⟨z_b2_b1, y_b2_b1, n_b2⟩ := fne m0_b2
 simp only [H.set_base] at hb_b2
 simp -implicitDefEqProofs only [go_sem, l1, t1, o1, hb_b1, hb_b2, z_b2_b1, y_b2_b1]
 refine AC_of (stateOf_ac (hv.ext (((Ext.refl _).set' n_b1 _).set' n_b2 _)) hs) ?_
 rintro _ h2 - ⟨e2, cs2, rfl, F2⟩
 have l2 := F2.r.len
 have t2 := take_len l2
 have o2 := F2.r.one
 have g1 := e2.2.g b1 _ (by simp -implicitDefEqProofs only [go_sem, l1, t1, o1, hb_b1, hb_b2, z_b2_b1, y_b2_b1]; rfl)
 have g2 := e2.2.g b2 _ (by simp -implicitDefEqProofs only [go_sem, l1, t1, o1, hb_b1, hb_b2, z_b2_b1, y_b2_b1]; rfl)
 have hb5 := e2.1
 simp only [H.set_base] at hb5
 simp -implicitDefEqProofs only [go_sem, l2, t2, o2, l1, t1, o1, hb_b1, hb_b2, z_b2_b1, y_b2_b1]
 intro b3 hb3 n3
 have z32 : (b2 = b3) = False := eq_false fun e => by rw [← e, g2] at n3; cases n3
 have y32 : (b3 = b2) = False := eq_false fun e => (of_eq_false z32) e.symm
 have z31 : (b1 = b3) = False := eq_false fun e => by rw [← e, g1] at n3; cases n3
 have e3 := fun x => (Ext.refl h2).set n3 x
 have hb3' := hb3
 rw [hb5] at hb3'
 have E2 := ((((Ext.refl _).set' n_b1 _).set' n_b2 _)).trans e2
 have n3h := E2.none n3
 cases hst : stM m with
 | none =>
  simp -implicitDefEqProofs only [go_sem, l2, t2, o2, hb3, hb3', z32, y32, stc_get g2, hb5, Option.isSome_none, l1, t1, o1, hb_b1, hb_b2, z_b2_b1, y_b2_b1]
  exact ⟨(E2.set' n_b2 _).set' n3h _, _, rfl, scan_f.2 ⟨nils, rfl, .inl ⟨none, 0, rfl, rfl⟩⟩⟩
 | some s =>
  rw [hst] at F2
  simp only [Option.getD_some] at F2
  have hok := stM_ok hst
  have h20 := logOf_len m hok.2
  have E3 := E2.trans (e3 ⟨cs2, 8⟩)
  have G2 := (e3 ⟨cs2, 8⟩).2.g b2 _ g2
  have hb3b : (h2.set b3 ⟨cs2, 8⟩).base ≤ b2 := by rw [H.set_base, hb5]; exact hb_b2
  simp -implicitDefEqProofs only [go_sem, l2, t2, o2, hb3, hb3', z32, y32, z31, stc_get g2, hb5, Option.isSome_some, ldc_get g1, l1, t1, o1, hb_b1, hb_b2, z_b2_b1, y_b2_b1]
  refine AC_of (log_ac (hv.ext E3) hok.1 (F2.r.ext (e3 _)) hok.2) ?_
  rintro v6 h6 - ⟨e6, f6⟩
  have G6 := e6.2.g b2 _ G2
  have hb6 : h6.base ≤ b2 := by rw [e6.1]; exact hb3b
  simp -implicitDefEqProofs only [go_sem, f6.sl.vcl, l1, t1, o1, hb_b1, hb_b2, z_b2_b1, y_b2_b1]
  refine (keptOf_pc f6.sl (by omega)).use ?_
  simp -implicitDefEqProofs only [go_sem, f6.sl.vcl, f6.sl.one, stc_get G6, hb6, l1, t1, o1, hb_b1, hb_b2, z_b2_b1, y_b2_b1]
  exact ⟨(E3.trans e6).set' n_b2 _, _, rfl, scan_f.2 ⟨v6, rfl, (f6.set (b := b2) G2 _).back E3⟩⟩
end Go.Proofs.YthjbhdmjfakfaaaGreatDoor