/- A helper of this seat's claims (contracts of the functions): what it shows is shown for every input that its statements name, on no other condition. -/
import Derived.Test.YtiokibikhanfcaaGreatMC14m
import Derived.Test.YtiokibikhanfcaaGreatC11k
import Derived.Test.YtiokibikhanfcaaGreatC07m
import Derived.Test.YtiokibikhanfcaaGreatC06c
import Derived.Test.YtiokibikhanfcaaGreatMP12
set_option linter.unusedVariables false
set_option linter.unusedSimpArgs false
set_option maxRecDepth 100000
namespace Go.Proofs.YtiokibikhanfcaaGreat
open Go.KH

/-! ## What a machine presents -/
noncomputable def slotM (m : UMach) (s : UState) (b : Int) : Int := source ((movesM m s).take s.done.toNat) b
noncomputable def srcM (m : UMach) (s : UState) (x : UStep) : List UInt8 := if x.kind = 3 ∨ x.kind = 4 then (if 0 ≤ slotM m s x.src then areaOf m (s.mine.getD (slotM m s x.src).toNat 0) else flashGet m.flash (3 + x.src)) else []
noncomputable def madeM (m : UMach) (s : UState) (x : UStep) : List UInt8 := if x.kind = 4 ∧ (srcM m s x).length ≠ 8 then [] else makeB x (srcM m s x)
/-- A machine in the middle of a merge. -/
structure Fold (m : UMach) (s : UState) : Prop where
  fit : machFit m
  ok : stateOk s
  img : imageOk (baseOf m)
  code : codeOf (logOf m s) m.blocks = 0
  room : slots (movesM m s) ≤ s.stash
  done : s.done ≤ (movesM m s).length
theorem Fold.of {m : UMach} {s : UState} (hf : machFit m) (hok : stateOk s) (hi : imageOk (baseOf m)) (hs : soundM m s) (p : 2 < s.phase) : Fold m s := by
  rcases hs with h | ⟨h1, h2, h3⟩
  · omega
  · exact ⟨hf, hok, hi, h1, h2, h3⟩
abbrev wrM (m : UMach) (s : UState) : List UStep := (logOf m s).filter isW
theorem Fold.runs {m : UMach} {s : UState} (f : Fold m s) : Runs (wrM m s) (baseOf m).length ∧ ∀ x ∈ wrM m s, x.src < (baseOf m).length ∧ makeOk x (at8 (baseOf m) x.src) := by
  have hl := (baseOf_len f.fit).2
  obtain ⟨h1, h2, _⟩ := code_zero f.code
  exact runs_of f.img h2 (fun x hx => by rw [hl]; exact h1.2.2 x hx)
theorem source_mem {l : List UMove} {b : Int} (h : 0 ≤ source l b) : ∃ m ∈ l, m.kind = 1 ∧ source l b = m.slot := by
  unfold source at h ⊢
  cases hf : l.find? (isStash b) with
  | none => rw [hf] at h; simp at h
  | some m =>
    have h1 := List.mem_of_find?_eq_some hf
    have h2 := List.find?_some hf
    simp only [isStash, decide_eq_true_eq] at h2
    exact ⟨m, h1, h2.1, rfl⟩
theorem Fold.slot {m : UMach} {s : UState} (f : Fold m s) {b : Int} (h : 0 ≤ slotM m s b) : (slotM m s b).toNat < s.mine.length ∧ ((slotM m s b).toNat : Int) = slotM m s b := by
  obtain ⟨x, hx, hk, he⟩ := source_mem h
  have hx := List.mem_of_mem_take hx
  obtain ⟨n, _, h2, _⟩ := plan_has (f.runs.1.apart)
  have h2 : (stashes (movesM m s)).map (fun m => m.slot) = (List.range n).map (fun j : Nat => (j : Int)) := h2
  have h3 := congrArg List.length h2
  simp only [List.length_map, List.length_range] at h3
  have h4 : slots (movesM m s) = n := by rw [← h3]; rfl
  have h5 : x.slot ∈ (stashes (movesM m s)).map (fun m => m.slot) := List.mem_map.2 ⟨x, List.mem_filter.2 ⟨hx, by simpa using hk⟩, rfl⟩
  rw [h2] at h5
  obtain ⟨j, hj, hj2⟩ := List.mem_map.1 h5
  have hj := List.mem_range.1 hj
  have h6 := f.room
  have h7 := (stateOk_log f.ok).1
  have he : slotM m s b = x.slot := he
  omega
theorem Fold.x {m : UMach} {s : UState} (f : Fold m s) {x : UStep} (hx : x ∈ wrM m s) : (1 ≤ x.kind ∧ x.kind ≤ 4) ∧ (0 ≤ x.src ∧ x.src < m.blocks) ∧ (0 ≤ x.dst ∧ x.dst < m.blocks) ∧ (x.kind = 4 → x.data.length = 8) := by
  have hl := (baseOf_len f.fit).2
  obtain ⟨r, q⟩ := f.runs
  have h1 := r.dst x hx
  have h2 := r.src x hx
  have h3 := r.kind x hx
  have h4 := q x hx
  exact ⟨h3, by omega, by omega, fun h => (h4.2.2 h).1⟩
theorem specXored0_pc (h : H) {x y : List UInt8} (hx : ¬ x.length = 8) : PC Tryz.prog 227 [str x, str y] h (str []) := by
  refine w_spec_Xored (by simp) ?_
  unfold b_spec_Xored
  simp -implicitDefEqProofs only [go_sem, show ¬ ((x.length : Int) = 8) by omega]
  try exact ⟨Ext.refl _, rfl⟩
theorem l07MakeG_pc (h : H) (s : UStep) {src : List UInt8} (hk : 1 ≤ s.kind ∧ s.kind ≤ 4) (h8 : s.kind = 4 → s.data.length = 8) : PC Tryz.prog 190 [.agg s.cells.toArray, str src] h (str (if s.kind = 4 ∧ src.length ≠ 8 then [] else makeB s src)) := by
  by_cases h4 : s.kind = 4 ∧ src.length ≠ 8
  · rw [if_pos h4]
    obtain ⟨kind, dst, sr, data⟩ := s
    obtain ⟨rfl, h4⟩ := h4
    refine PC_of ?_
    refine w_spec_l07Make (by simp) ?_
    unfold b_spec_l07Make
    simp -implicitDefEqProofs only [go_sem]
    intro b2 hb_b2 n_b2
    simp -implicitDefEqProofs only [go_sem, hb_b2]
    refine (specXored0_pc _ h4).use ?_
    simp -implicitDefEqProofs only [go_sem, hb_b2]
    exact ((Ext.refl _).set' n_b2 _)
  · rw [if_neg h4]
    exact l07Make_pc h s ⟨hk, fun h => ⟨h8 h, Classical.byContradiction fun h' => h4 ⟨h, h'⟩⟩⟩
/-- (impl.Machine).made -/
def b_impl_Machine_made : C := (.seq (.ops [⟨(some 4), none, .box (.t 0)⟩, ⟨(some 5), none, .box (.t 1)⟩, ⟨(some 7), none, .box (.t 3)⟩, q 8 (.mv (.c (str [])))])
 (.seq (.ops [q 9 (.mv (.c (str [])))])
 (.seq (.seq (.ops [q 11 (.fld 0 (.t 7)), q 12 (.ld false 1 (.t 11)), q 13 (.bin .eql (.t 12) (.c (i64 3))), q 14 (.mv (.t 13)), qg 15 14 false (.fld 0 (.t 7)), qg 16 14 false (.ld false 1 (.t 15)), qg 17 14 false (.bin .eql (.t 16) (.c (i64 4))), q 18 (.pick (.t 14) (.c (.bool true)) (.t 17))])
 (.cond (.t 18) (.seq (.ops [q 19 (.fld 1 (.t 4)), q 20 (.ld true 2 (.t 19)), q 21 (.fld 2 (.t 7)), q 22 (.ld false 1 (.t 21)), q 23 (.bin .add (.c (i64 3)) (.t 22)), ⟨(some 24), none, .call (.c (.func (.func 99) #[] #[])) [(.t 20), (.t 23)]⟩, q 9 (.mv (.t 24))])
 (.seq (.ops [q 25 (.mv (.t 2)), q 26 (.fld 4 (.t 5)), q 27 (.ld false 1 (.t 26)), q 28 (.fld 2 (.t 7)), q 29 (.ld false 1 (.t 28)), ⟨(some 30), none, .call (.c (.func (.func 196) #[] #[])) [(.t 25), (.t 27), (.t 29)]⟩, q 10 (.mv (.t 30))])
 (.seq (.ops [q 31 (.mv (.t 10)), q 32 (.bin .geq (.t 31) (.c (i64 0)))])
 (.cond (.t 32) (.dops true (.tk (q 33 (.ld true 3 (.t 4))) (.tk (q 34 (.fld 7 (.t 5))) (.tk (q 35 (.ld false 1 (.t 34))) (.tk (q 36 (.mv (.t 10))) (.tk (q 37 (.idx 1 (.t 35) (.t 36))) (.tk (q 38 (.ld false 1 (.t 37))) (.sq (⟨(some 39), none, .call (.c (.func (.func 114) #[] #[])) [(.t 33), (.t 38)]⟩) (.tk (q 9 (.mv (.t 39))) .nil))))))))) .skip)))) .skip))
 (.seq (.seq (.ops [q 40 (.fld 0 (.t 7)), q 41 (.ld false 1 (.t 40)), q 42 (.bin .eql (.t 41) (.c (i64 4))), q 43 (.mv (.t 42)), qg 44 43 true (.mv (.t 9)), qg 45 43 true (.slen (.t 44)), qg 46 43 true (.bin .neq (.t 45) (.c (i64 8))), q 47 (.pick (.t 43) (.t 46) (.c (.bool false)))])
 (.cond (.t 47) (.seq (.ops [q 8 (.mv (.c (str [])))])
 .ret) .skip))
 (.seq (.ops [q 48 (.ld true 4 (.t 7)), q 49 (.mv (.t 9)), ⟨(some 50), none, .call (.c (.func (.func 191) #[] #[])) [(.t 48), (.t 49)]⟩, q 8 (.mv (.t 50))])
 .ret)))))
theorem w_impl_Machine_made {args : List Value} {h : H} {Q : Value → H → Prop} (hl : args.length ≤ 51) (hk : wpc Tryz.prog b_impl_Machine_made (retw [.tmp 8] Q) (argsFr args) h) : AC Tryz.prog 132 args h Q :=
  AC.of_wpc mixedOrders Tryz.func132 (by kernel_rfl) (by kernel_rfl : prepF Tryz.prog Tryz.f132 = some ⟨51, [.tmp 8], b_impl_Machine_made⟩) hl hk

set_option maxHeartbeats 1600000 in
theorem made_pc {h : H} {cs c2 : List Value} {vm : Value} {m : UMach} {s : UState} {x : UStep} (hv : RepR h (spMach m) cs) (hst : StR h c2 s) (f : Fold m s) (hm : Sl h vm 4 ((movesM m s).map UMove.cells)) (hx : x ∈ wrM m s) : PC Tryz.prog 132 [.agg cs.toArray, .agg c2.toArray, vm, .agg x.cells.toArray] h (str (madeM m s x)) := by
  obtain ⟨hk, hsr, hds, h8⟩ := f.x hx
  have hv0 := hv
  have hf := f.fit
  have hdn := ok_done f.ok
  have hd := flashOk_small hf.2.1
  have h27 := hf.2.2
  have hb := hf.1
  have hdl := f.done
  have h28 := moves_28 f.code
  have hls := fun (q : 0 ≤ slotM m s x.src) => f.slot q
  have hmm := (stateOk_log f.ok).2.2.2
  obtain ⟨vs, vd, rfl, fr⟩ := mach_r.1 hv
  have o4 := fr.1.one
  have o5 := fr.2.one
  have c4 : vcl vs = [vs] := fr.1.vcl
  have c5 : vcl vd = [vd] := fr.2.vcl
  obtain ⟨uh, um, rfl, sh, sm⟩ := hst
  have o6 := sh.vcl
  have o7 := sm.vcl
  have o8 := sh.one
  have o9 := sm.one
  have l2 : (ints s.mine).length = s.mine.length := by simp
  have hsh := sm.shape
  rw [l2] at hsh
  obtain ⟨am, cm, rfl⟩ := hsh
  refine PC_of ?_
  unfold madeM
  skip
  obtain ⟨kind, dst, src, data⟩ := x
  simp only at hk hsr hds h8 hls
  refine w_impl_Machine_made (by simp) ?_
  unfold b_impl_Machine_made
  refine wpc_cut2 (fun f1 h1 => ∃ b4 b5 b7, f1 4 = ptr b4 0 ∧ f1 5 = ptr b5 0 ∧ f1 7 = ptr b7 0 ∧ f1 2 = vm ∧ f1 9 = str [] ∧ h1.get b4 = some ⟨[i64 m.blocks, vs, vd], 3⟩ ∧ h1.get b5 = some ⟨s.cells uh (.slice am s.mine.length cm), 8⟩ ∧ h1.get b7 = some ⟨[i64 kind, i64 dst, i64 src, str data], 4⟩ ∧ Ext h h1) ?_ ?_
  · simp -implicitDefEqProofs only [go_sem, o4, o5, c4, c5, o6, o7, o8, o9]
    intro b4 hb_b4 n_b4
    simp -implicitDefEqProofs only [go_sem, o4, o5, c4, c5, o6, o7, o8, o9, hb_b4]
    intro b5 hb_b5 m0_b5
    obtain ⟨z_b5_b4, y_b5_b4, n_b5⟩ := fne m0_b5
    simp only [H.set_base] at hb_b5
    simp -implicitDefEqProofs only [go_sem, o4, o5, c4, c5, o6, o7, o8, o9, hb_b4, hb_b5, z_b5_b4, y_b5_b4]
    intro b7 hb_b7 m0_b7
    obtain ⟨z_b7_b5, y_b7_b5, m1_b7⟩ := fne m0_b7
    obtain ⟨z_b7_b4, y_b7_b4, n_b7⟩ := fne m1_b7
    simp only [H.set_base] at hb_b7
    simp -implicitDefEqProofs only [go_sem, o4, o5, c4, c5, o6, o7, o8, o9, hb_b4, hb_b5, z_b5_b4, y_b5_b4, hb_b7, z_b7_b5, y_b7_b5, z_b7_b4, y_b7_b4]
    exact ⟨b4, b5, b7, rfl, rfl, rfl, by simp -implicitDefEqProofs only [go_sem, o4, o5, c4, c5, o6, o7, o8, o9, hb_b4, hb_b5, z_b5_b4, y_b5_b4, hb_b7, z_b7_b5, y_b7_b5, z_b7_b4, y_b7_b4], by simp -implicitDefEqProofs only [go_sem, o4, o5, c4, c5, o6, o7, o8, o9, hb_b4, hb_b5, z_b5_b4, y_b5_b4, hb_b7, z_b7_b5, y_b7_b5, z_b7_b4, y_b7_b4], by simp -implicitDefEqProofs only [go_sem, o4, o5, c4, c5, o6, o7, o8, o9, hb_b4, hb_b5, z_b5_b4, y_b5_b4, hb_b7, z_b7_b5, y_b7_b5, z_b7_b4, y_b7_b4], ((((Ext.refl _).set' n_b4 _).set' n_b5 _).set' n_b7 _)⟩
  skip
  rintro f1 h1 ⟨b4, b5, b7, q4, q5, q7, q2, q9, g4, g5, g7, E1⟩
  have sp : PC Tryz.prog 196 [vm, i64 s.done, i64 src] h1 (i64 (slotM m s src)) := by
    have := sourceOf_pc (hm.ext E1) (d := s.done.toNat) (block := src) (by omega) (by omega)
    rwa [show ((s.done.toNat : Nat) : Int) = s.done by omega] at this
  refine wpc_cut (fun f2 h2 => h2 = h1 ∧ f2 7 = ptr b7 0 ∧ f2 9 = str (srcM m s ⟨kind, dst, src, data⟩)) ?_ ?_
  · unfold srcM
    simp only
    by_cases h34 : kind = 3 ∨ kind = 4
    rotate_left
    · rw [if_neg h34]
      simp -implicitDefEqProofs only [go_sem, q4, q5, q7, q9, ldc_get g7, eq_false (fun h => h34 (.inl h) : ¬ kind = 3), eq_false (fun h => h34 (.inr h) : ¬ kind = 4), o4, o5, c4, c5, o6, o7, o8, o9]
    rw [if_pos h34]
    have body : ∀ hc : kind = 3 ∨ kind = 4, True := fun _ => trivial
    rcases h34 with h3 | h4
    · simp -implicitDefEqProofs only [go_sem, q4, q5, q7, q9, ldc_get g7, eq_true h3, ldc_get g4, wrap_i64 (show -(9223372036854775808 : Int) ≤ (3 + src) by omega) (show (3 + src) < 9223372036854775808 by omega), o4, o5, c4, c5, o6, o7, o8, o9]
      refine (read_pc (fr.ext E1) (by omega) (by omega)).use ?_
      simp -implicitDefEqProofs only [go_sem, q2, q4, q5, q7, q9, ldc_get g7, ldc_get g5, o4, o5, c4, c5, o6, o7, o8, o9]
      refine sp.use ?_
      by_cases hsl : 0 ≤ slotM m s src
      rotate_left
      · rw [if_neg hsl]
        simp -implicitDefEqProofs only [go_sem, hsl, q7, o4, o5, c4, c5, o6, o7, o8, o9]
      rw [if_pos hsl]
      obtain ⟨w1, w2⟩ := hls hsl
      obtain ⟨_, _, b, o, e, hcap, r2, r3⟩ := (sm.ext E1)
      simp only [Value.slice.injEq, List.length_map] at e r2
      have d1 := r3 (slotM m s src).toNat [i64 (s.mine.getD (slotM m s src).toNat 0)] (by simp [List.getD_eq_getElem?_getD, w1])
      have hx := hmm _ (List.getElem_mem w1)
      simp -implicitDefEqProofs only [go_sem, hsl, q4, q5, q7, ldc_get g4, ldc_get g5, r2, d1, w1, Int.ofNat_lt, show slotM m s src < (s.mine.length : Int) by omega, o4, o5, c4, c5, o6, o7, o8, o9]
      refine (area_pc (hv0.ext E1) hf (by rw [List.getD_eq_getElem?_getD, List.getElem?_eq_getElem w1]; exact hx)).use ?_
      simp -implicitDefEqProofs only [go_sem, Sub.refl, q7, o4, o5, c4, c5, o6, o7, o8, o9]
    · simp -implicitDefEqProofs only [go_sem, q4, q5, q7, q9, ldc_get g7, eq_false (show ¬ kind = 3 by omega), eq_true h4, ldc_get g4, wrap_i64 (show -(9223372036854775808 : Int) ≤ (3 + src) by omega) (show (3 + src) < 9223372036854775808 by omega), o4, o5, c4, c5, o6, o7, o8, o9]
      refine (read_pc (fr.ext E1) (by omega) (by omega)).use ?_
      simp -implicitDefEqProofs only [go_sem, q2, q4, q5, q7, q9, ldc_get g7, ldc_get g5, o4, o5, c4, c5, o6, o7, o8, o9]
      refine sp.use ?_
      by_cases hsl : 0 ≤ slotM m s src
      rotate_left
      · rw [if_neg hsl]
        simp -implicitDefEqProofs only [go_sem, hsl, q7, o4, o5, c4, c5, o6, o7, o8, o9]
      rw [if_pos hsl]
      obtain ⟨w1, w2⟩ := hls hsl
      obtain ⟨_, _, b, o, e, hcap, r2, r3⟩ := (sm.ext E1)
      simp only [Value.slice.injEq, List.length_map] at e r2
      have d1 := r3 (slotM m s src).toNat [i64 (s.mine.getD (slotM m s src).toNat 0)] (by simp [List.getD_eq_getElem?_getD, w1])
      have hx := hmm _ (List.getElem_mem w1)
      simp -implicitDefEqProofs only [go_sem, hsl, q4, q5, q7, ldc_get g4, ldc_get g5, r2, d1, w1, Int.ofNat_lt, show slotM m s src < (s.mine.length : Int) by omega, o4, o5, c4, c5, o6, o7, o8, o9]
      refine (area_pc (hv0.ext E1) hf (by rw [List.getD_eq_getElem?_getD, List.getElem?_eq_getElem w1]; exact hx)).use ?_
      simp -implicitDefEqProofs only [go_sem, Sub.refl, q7, o4, o5, c4, c5, o6, o7, o8, o9]
  rintro f2 h2 ⟨rfl, r7, r9⟩
  have hmk : ¬ (kind = 4 ∧ (srcM m s ⟨kind, dst, src, data⟩).length ≠ 8) → makeOk ⟨kind, dst, src, data⟩ (srcM m s ⟨kind, dst, src, data⟩) := fun hn => ⟨hk, fun h => ⟨h8 h, Classical.byContradiction fun h' => hn ⟨h, h'⟩⟩⟩
  by_cases hc : kind = 4 ∧ (srcM m s ⟨kind, dst, src, data⟩).length ≠ 8
  · rw [if_pos hc]
    simp -implicitDefEqProofs only [go_sem, r7, r9, ldc_get g7, eq_true hc.1, show ¬ (((srcM m s ⟨kind, dst, src, data⟩).length : Int) = 8) by omega, o4, o5, c4, c5, o6, o7, o8, o9]
    exact E1
  rw [if_neg hc]
  by_cases h4 : kind = 4
  · have hl : (srcM m s ⟨kind, dst, src, data⟩).length = 8 := Classical.byContradiction fun h' => hc ⟨h4, h'⟩
    simp -implicitDefEqProofs only [go_sem, r7, r9, ldc_get g7, eq_true h4, eq_true (show ((srcM m s ⟨kind, dst, src, data⟩).length : Int) = 8 by omega), o4, o5, c4, c5, o6, o7, o8, o9]
    refine (madeBy_pc _ ⟨kind, dst, src, data⟩ (hmk hc)).use ?_
    simp -implicitDefEqProofs only [go_sem, o4, o5, c4, c5, o6, o7, o8, o9]
    exact E1
  · simp -implicitDefEqProofs only [go_sem, r7, r9, ldc_get g7, eq_false h4, o4, o5, c4, c5, o6, o7, o8, o9]
    refine (madeBy_pc _ ⟨kind, dst, src, data⟩ (hmk hc)).use ?_
    simp -implicitDefEqProofs only [go_sem, o4, o5, c4, c5, o6, o7, o8, o9]
    exact E1
/-- spec.l14Made -/
def b_spec_l14Made : C := (.seq (.ops [⟨(some 4), none, .box (.t 0)⟩, ⟨(some 5), none, .box (.t 1)⟩, ⟨(some 7), none, .box (.t 3)⟩, q 8 (.mv (.c (str [])))])
 (.seq (.ops [q 9 (.mv (.c (str [])))])
 (.seq (.seq (.ops [q 11 (.fld 0 (.t 7)), q 12 (.ld false 1 (.t 11)), q 13 (.bin .eql (.t 12) (.c (i64 3))), q 14 (.mv (.t 13)), qg 15 14 false (.fld 0 (.t 7)), qg 16 14 false (.ld false 1 (.t 15)), qg 17 14 false (.bin .eql (.t 16) (.c (i64 4))), q 18 (.pick (.t 14) (.c (.bool true)) (.t 17))])
 (.cond (.t 18) (.seq (.ops [q 19 (.fld 1 (.t 4)), q 20 (.ld true 2 (.t 19)), q 21 (.fld 2 (.t 7)), q 22 (.ld false 1 (.t 21)), q 23 (.bin .add (.c (i64 3)) (.t 22)), ⟨(some 24), none, .call (.c (.func (.func 95) #[] #[])) [(.t 20), (.t 23)]⟩, q 9 (.mv (.t 24))])
 (.seq (.ops [q 25 (.mv (.t 2)), q 26 (.fld 4 (.t 5)), q 27 (.ld false 1 (.t 26)), q 28 (.fld 2 (.t 7)), q 29 (.ld false 1 (.t 28)), ⟨(some 30), none, .call (.c (.func (.func 188) #[] #[])) [(.t 25), (.t 27), (.t 29)]⟩, q 10 (.mv (.t 30))])
 (.seq (.ops [q 31 (.mv (.t 10)), q 32 (.bin .geq (.t 31) (.c (i64 0)))])
 (.cond (.t 32) (.ops [q 33 (.ld true 3 (.t 4)), q 34 (.ld true 8 (.t 5)), q 35 (.mv (.t 10)), ⟨(some 36), none, .call (.c (.func (.func 189) #[] #[])) [(.t 33), (.t 34), (.t 35)]⟩, q 9 (.mv (.t 36))]) .skip)))) .skip))
 (.seq (.ops [q 37 (.ld true 4 (.t 7)), q 38 (.mv (.t 9)), ⟨(some 39), none, .call (.c (.func (.func 190) #[] #[])) [(.t 37), (.t 38)]⟩, q 8 (.mv (.t 39))])
 .ret))))
theorem w_spec_l14Made {args : List Value} {h : H} {Q : Value → H → Prop} (hl : args.length ≤ 40) (hk : wpc Tryz.prog b_spec_l14Made (retw [.tmp 8] Q) (argsFr args) h) : AC Tryz.prog 126 args h Q :=
  AC.of_wpc mixedOrders Tryz.func126 (by kernel_rfl) (by kernel_rfl : prepF Tryz.prog Tryz.f126 = some ⟨40, [.tmp 8], b_spec_l14Made⟩) hl hk

set_option maxHeartbeats 1600000 in
theorem l14Made_pc {h : H} {cs c2 : List Value} {vm : Value} {m : UMach} {s : UState} {x : UStep} (hv : RepR h (spMach m) cs) (hst : StR h c2 s) (f : Fold m s) (hm : Sl h vm 4 ((movesM m s).map UMove.cells)) (hx : x ∈ wrM m s) : PC Tryz.prog 126 [.agg cs.toArray, .agg c2.toArray, vm, .agg x.cells.toArray] h (str (madeM m s x)) := by
  obtain ⟨hk, hsr, hds, h8⟩ := f.x hx
  have hv0 := hv
  have hst0 := hst
  have hf := f.fit
  have hdn := ok_done f.ok
  have hd := flashOk_small hf.2.1
  have h27 := hf.2.2
  have hb := hf.1
  have hdl := f.done
  have h28 := moves_28 f.code
  have hls := fun (q : 0 ≤ slotM m s x.src) => f.slot q
  have hmm := (stateOk_log f.ok).2.2.2
  obtain ⟨vs, vd, rfl, fr⟩ := mach_r.1 hv
  have o4 := fr.1.one
  have o5 := fr.2.one
  have c4 : vcl vs = [vs] := fr.1.vcl
  have c5 : vcl vd = [vd] := fr.2.vcl
  obtain ⟨uh, um, rfl, sh, sm⟩ := hst
  have o6 := sh.vcl
  have o7 := sm.vcl
  have o8 := sh.one
  have o9 := sm.one
  have l2 : (ints s.mine).length = s.mine.length := by simp
  have hsh := sm.shape
  rw [l2] at hsh
  obtain ⟨am, cm, rfl⟩ := hsh
  refine PC_of ?_
  unfold madeM
  skip
  obtain ⟨kind, dst, src, data⟩ := x
  simp only at hk hsr hds h8 hls
  refine w_spec_l14Made (by simp) ?_
  unfold b_spec_l14Made
  refine wpc_cut2 (fun f1 h1 => ∃ b4 b5 b7, f1 4 = ptr b4 0 ∧ f1 5 = ptr b5 0 ∧ f1 7 = ptr b7 0 ∧ f1 2 = vm ∧ f1 9 = str [] ∧ h1.get b4 = some ⟨[i64 m.blocks, vs, vd], 3⟩ ∧ h1.get b5 = some ⟨s.cells uh (.slice am s.mine.length cm), 8⟩ ∧ h1.get b7 = some ⟨[i64 kind, i64 dst, i64 src, str data], 4⟩ ∧ Ext h h1) ?_ ?_
  · simp -implicitDefEqProofs only [go_sem, o4, o5, c4, c5, o6, o7, o8, o9]
    intro b4 hb_b4 n_b4
    simp -implicitDefEqProofs only [go_sem, o4, o5, c4, c5, o6, o7, o8, o9, hb_b4]
    intro b5 hb_b5 m0_b5
    obtain ⟨z_b5_b4, y_b5_b4, n_b5⟩ := fne m0_b5
    simp only [H.set_base] at hb_b5
    simp -implicitDefEqProofs only [go_sem, o4, o5, c4, c5, o6, o7, o8, o9, hb_b4, hb_b5, z_b5_b4, y_b5_b4]
    intro b7 hb_b7 m0_b7
    obtain ⟨z_b7_b5, y_b7_b5, m1_b7⟩ := fne m0_b7
    obtain ⟨z_b7_b4, y_b7_b4, n_b7⟩ := fne m1_b7
    simp only [H.set_base] at hb_b7
    simp -implicitDefEqProofs only [go_sem, o4, o5, c4, c5, o6, o7, o8, o9, hb_b4, hb_b5, z_b5_b4, y_b5_b4, hb_b7, z_b7_b5, y_b7_b5, z_b7_b4, y_b7_b4]
    exact ⟨b4, b5, b7, rfl, rfl, rfl, by simp -implicitDefEqProofs only [go_sem, o4, o5, c4, c5, o6, o7, o8, o9, hb_b4, hb_b5, z_b5_b4, y_b5_b4, hb_b7, z_b7_b5, y_b7_b5, z_b7_b4, y_b7_b4], by simp -implicitDefEqProofs only [go_sem, o4, o5, c4, c5, o6, o7, o8, o9, hb_b4, hb_b5, z_b5_b4, y_b5_b4, hb_b7, z_b7_b5, y_b7_b5, z_b7_b4, y_b7_b4], by simp -implicitDefEqProofs only [go_sem, o4, o5, c4, c5, o6, o7, o8, o9, hb_b4, hb_b5, z_b5_b4, y_b5_b4, hb_b7, z_b7_b5, y_b7_b5, z_b7_b4, y_b7_b4], ((((Ext.refl _).set' n_b4 _).set' n_b5 _).set' n_b7 _)⟩
  skip
  rintro f1 h1 ⟨b4, b5, b7, q4, q5, q7, q2, q9, g4, g5, g7, E1⟩
  have sp : PC Tryz.prog 188 [vm, i64 s.done, i64 src] h1 (i64 (slotM m s src)) := by
    have := l11Source_pc (hm.ext E1) (d := s.done.toNat) (block := src) (by omega) (by omega)
    rwa [show ((s.done.toNat : Nat) : Int) = s.done by omega] at this
  refine wpc_cut (fun f2 h2 => h2 = h1 ∧ f2 7 = ptr b7 0 ∧ f2 9 = str (srcM m s ⟨kind, dst, src, data⟩)) ?_ ?_
  · unfold srcM
    simp only
    by_cases h34 : kind = 3 ∨ kind = 4
    rotate_left
    · rw [if_neg h34]
      simp -implicitDefEqProofs only [go_sem, q4, q5, q7, q9, ldc_get g7, eq_false (fun h => h34 (.inl h) : ¬ kind = 3), eq_false (fun h => h34 (.inr h) : ¬ kind = 4), o4, o5, c4, c5, o6, o7, o8, o9]
    rw [if_pos h34]
    have body : ∀ hc : kind = 3 ∨ kind = 4, True := fun _ => trivial
    rcases h34 with h3 | h4
    · simp -implicitDefEqProofs only [go_sem, q4, q5, q7, q9, ldc_get g7, eq_true h3, ldc_get g4, wrap_i64 (show -(9223372036854775808 : Int) ≤ (3 + src) by omega) (show (3 + src) < 9223372036854775808 by omega), o4, o5, c4, c5, o6, o7, o8, o9]
      refine (l03Get_pc (fr.ext E1) (by omega) (by omega)).use ?_
      simp -implicitDefEqProofs only [go_sem, q2, q4, q5, q7, q9, ldc_get g7, ldc_get g5, o4, o5, c4, c5, o6, o7, o8, o9]
      refine sp.use ?_
      by_cases hsl : 0 ≤ slotM m s src
      rotate_left
      · rw [if_neg hsl]
        simp -implicitDefEqProofs only [go_sem, hsl, q7, o4, o5, c4, c5, o6, o7, o8, o9]
      rw [if_pos hsl]
      obtain ⟨w1, w2⟩ := hls hsl
      have st : PC Tryz.prog 189 [.agg #[i64 m.blocks, vs, vd], .agg #[i64 s.phase, i64 s.tries, i64 s.need, i64 s.stash, i64 s.done, str s.digest, uh, .slice am s.mine.length cm], i64 (slotM m s src)] h1 (str (areaOf m (s.mine.getD (slotM m s src).toNat 0))) := by
        have := l13Stash_pc (hv0.ext E1) hf (hst0.ext E1) f.ok w1
        rw [w2] at this
        rwa [List.getD_eq_getElem?_getD, List.getElem?_eq_getElem w1]
      simp -implicitDefEqProofs only [go_sem, hsl, q4, q5, q7, ldc_get g4, ldc_get g5, o4, o5, c4, c5, o6, o7, o8, o9]
      refine st.use ?_
      simp -implicitDefEqProofs only [go_sem, q7, o4, o5, c4, c5, o6, o7, o8, o9]
    · simp -implicitDefEqProofs only [go_sem, q4, q5, q7, q9, ldc_get g7, eq_false (show ¬ kind = 3 by omega), eq_true h4, ldc_get g4, wrap_i64 (show -(9223372036854775808 : Int) ≤ (3 + src) by omega) (show (3 + src) < 9223372036854775808 by omega), o4, o5, c4, c5, o6, o7, o8, o9]
      refine (l03Get_pc (fr.ext E1) (by omega) (by omega)).use ?_
      simp -implicitDefEqProofs only [go_sem, q2, q4, q5, q7, q9, ldc_get g7, ldc_get g5, o4, o5, c4, c5, o6, o7, o8, o9]
      refine sp.use ?_
      by_cases hsl : 0 ≤ slotM m s src
      rotate_left
      · rw [if_neg hsl]
        simp -implicitDefEqProofs only [go_sem, hsl, q7, o4, o5, c4, c5, o6, o7, o8, o9]
      rw [if_pos hsl]
      obtain ⟨w1, w2⟩ := hls hsl
      have st : PC Tryz.prog 189 [.agg #[i64 m.blocks, vs, vd], .agg #[i64 s.phase, i64 s.tries, i64 s.need, i64 s.stash, i64 s.done, str s.digest, uh, .slice am s.mine.length cm], i64 (slotM m s src)] h1 (str (areaOf m (s.mine.getD (slotM m s src).toNat 0))) := by
        have := l13Stash_pc (hv0.ext E1) hf (hst0.ext E1) f.ok w1
        rw [w2] at this
        rwa [List.getD_eq_getElem?_getD, List.getElem?_eq_getElem w1]
      simp -implicitDefEqProofs only [go_sem, hsl, q4, q5, q7, ldc_get g4, ldc_get g5, o4, o5, c4, c5, o6, o7, o8, o9]
      refine st.use ?_
      simp -implicitDefEqProofs only [go_sem, q7, o4, o5, c4, c5, o6, o7, o8, o9]
  rintro f2 h2 ⟨rfl, r7, r9⟩
  have hmk : ¬ (kind = 4 ∧ (srcM m s ⟨kind, dst, src, data⟩).length ≠ 8) → makeOk ⟨kind, dst, src, data⟩ (srcM m s ⟨kind, dst, src, data⟩) := fun hn => ⟨hk, fun h => ⟨h8 h, Classical.byContradiction fun h' => hn ⟨h, h'⟩⟩⟩
  simp -implicitDefEqProofs only [go_sem, r7, r9, ldc_get g7, o4, o5, c4, c5, o6, o7, o8, o9]
  refine (l07MakeG_pc _ ⟨kind, dst, src, data⟩ hk h8).use ?_
  simp -implicitDefEqProofs only [go_sem, o4, o5, c4, c5, o6, o7, o8, o9]
  exact E1
end Go.Proofs.YtiokibikhanfcaaGreat
