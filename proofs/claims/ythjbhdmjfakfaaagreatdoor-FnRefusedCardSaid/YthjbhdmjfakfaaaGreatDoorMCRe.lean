/- A helper of this seat's claims (contracts of the functions): what it shows is shown for every input that its statements name, on no other condition. -/
import Derived.Test.YthjbhdmjfakfaaaGreatDoorCRd
import Derived.Test.YthjbhdmjfakfaaaGreatDoorMC14x
import Derived.Test.YthjbhdmjfakfaaaGreatDoorMC14m
import Derived.Test.YthjbhdmjfakfaaaGreatDoorMCZ
set_option linter.unusedVariables false
set_option linter.unusedSimpArgs false
set_option maxRecDepth 100000
namespace Go.Proofs.YthjbhdmjfakfaaaGreatDoor
open Go.KH

/-! ## What is done, what is cut -/
theorem wipeAll_ok {m : UMach} {L : List Int} (hf : machFit m) (hL : ∀ x ∈ L, 0 ≤ x ∧ x ≤ 23) : ∀ a ∈ wipeAll m L, actOk m.flash.sec.length a := fun a ha => by
  have h27 := hf.2.2
  have hb := hf.1
  unfold wipeAll at ha
  rcases List.mem_append.1 ha with ha | ha
  · obtain ⟨x, hx, rfl⟩ := List.mem_map.1 ha
    have := hL x hx
    exact fun _ => ⟨by unfold wipe; simp only; omega, by unfold wipe; simp⟩
  · rw [List.mem_singleton.1 ha]; exact sync_ok _
theorem recordB_96 {n : Int} {x : UStep} (hn : 0 ≤ n ∧ n ≤ 1000000) (hx : x.ok) (hk : stepOk x 8) : (recordB n x).length ≤ 96 := by
  have l1 := stepB_60 hx hk
  have l2 := putNum_le (n := n) (by constructor <;> omega)
  unfold recordB
  rw [sealB_len, List.length_append]; omega
theorem stepOk_wide {s : UStep} {b : Int} (h : stepOk s b) (hb : b ≤ 8) : stepOk s 8 := by
  obtain ⟨a1, a2, a3, a4⟩ := h
  refine ⟨a1, ?_, ?_, a4⟩
  · split at a2
    · rename_i c; rw [if_pos c]; exact a2
    · rename_i c; rw [if_neg c]; omega
  · split at a3
    · rename_i c; rw [if_pos c]; exact a3
    · rename_i c
      rw [if_neg c]
      split at a3
      · rename_i c2; rw [if_pos c2]; omega
      · rename_i c2; rw [if_neg c2]; exact a3
theorem stepActs_ok {m : UMach} {s : UState} {n : Nat} {x : UStep} (hf : machFit m) (hok : stateOk s) (hn : n ≤ 20) (hin : s.stash.toNat + n < s.mine.length) (hx : x.ok) (hk : stepOk x m.blocks) : ∀ a ∈ stepActs m s n x, actOk m.flash.sec.length a := fun a ha => by
  have h27 := hf.2.2
  have hb := hf.1
  have hm := (stateOk_log hok).2.2.2 (s.mine.getD (s.stash.toNat + n) 0) (by rw [List.getD_eq_getElem?_getD, List.getElem?_eq_getElem hin]; exact List.getElem_mem hin)
  unfold stepActs at ha
  rcases List.mem_cons.1 ha with rfl | ha
  · exact fun _ => ⟨by simp only; omega, recordB_96 (by omega) hx (stepOk_wide hk hb.2)⟩
  · split at ha
    · rw [List.mem_singleton.1 ha]; exact sync_ok _
    · cases ha
theorem finOut_ok {m : UMach} {s : UState} {l : List UStep} (hf : machFit m) (hok : stateOk s) (p2 : s.phase = 2) : (∀ a ∈ (finOut m s l).1, actOk m.flash.sec.length a) ∧ (finOut m s l).1.length ≤ 3 := by
  have hI := saveActs_ok hf (show stateOk (idleOf s) from ok_idle hok)
  have lI := saveActs_len m (idleOf s)
  have hR := saveActs_ok hf (ok_ready hok p2)
  have lR := saveActs_len m { s with phase := 3 }
  unfold finOut
  split
  · exact ⟨hI, by simp only; omega⟩
  split
  · exact ⟨hI, by simp only; omega⟩
  split
  · exact ⟨hI, by simp only; omega⟩
  split
  · exact ⟨hI, by simp only; omega⟩
  · refine ⟨fun a ha => ?_, by simp only [List.length_cons]; omega⟩
    rcases List.mem_cons.1 ha with rfl | ha
    · exact sync_ok _
    · exact hR a ha
theorem Does.ok {m : UMach} {s : UState} {c : UCmd} {o : List UAct × Int} (hf : machFit m) (hok : stateOk s) (d : Does m s c o) : (∀ a ∈ o.1, actOk m.flash.sec.length a) ∧ o.1.length ≤ 1000 := by
  rcases d with ⟨k, p1, ha, hb, hdg, x, hx, hh, rfl⟩ | ⟨k, p2, hn, hxo, hxd, hc, rfl⟩ | ⟨k, p2, rfl⟩ | ⟨k, hh, hm, ha, p1, rfl⟩ | ⟨k, rfl⟩
  · have hS2 := beginS_ok (c := c) (x := x) hok hh ha hb hdg
    unfold beginOut
    split
    · rename_i h24
      have hR := saveActs_ok hf (hS2 h24)
      have lR := saveActs_len m (beginS s c (runI x (c.a + c.b).toNat))
      refine ⟨fun a ha => ?_, ?_⟩
      · rcases List.mem_append.1 ha with ha | ha
        · exact wipeAll_ok hf (fun y hy => by have := runI_mem hy; omega) a ha
        · exact hR a ha
      · unfold wipeAll
        simp only [List.length_append, List.length_map, runI_len, List.length_cons, List.length_nil]
        omega
    · exact ⟨(fun a ha => by cases ha), by simp⟩
  · have h20 := logOf_len m hok
    have h5 := hok.2.2.2.2
    rw [if_neg (by omega)] at h5
    have hco := (code_zero hc).1.2.2 c.step (by simp)
    refine ⟨stepActs_ok hf hok h20 (by omega) hxo hco, ?_⟩
    unfold stepActs
    split <;> simp
  · have := finOut_ok (l := logOf m s) hf hok p2
    exact ⟨this.1, by omega⟩
  · have := saveActs_len m { s with held := runI 0 c.a.toNat }
    exact ⟨saveActs_ok hf (hold_ok hok hm (by omega)), by simp only; omega⟩
  · have := bootActs_len m hok
    exact ⟨bootActs_ok hf hok, by simp only; omega⟩
def b_impl_Do : C := (jo [⟨(some 2), none, .box (.t 0)⟩, ⟨(some 3), none, .box (.t 1)⟩, ⟨(some 4), none, .alloc [(i64 0), nils, nils, (str []), nils, (i64 0)]⟩]
 (.seq (jo [jd 6 3 2, jc 7 71 [(.t 6)], q 8 (.un .not (.t 7)), jm 9 8, qg 10 9 false (.ld true 8 (.t 3)), jcg 11 9 false 72 [(.t 10)], qg 12 9 false (.un .not (.t 11)), q 13 (.pick (.t 9) (.c (.bool true)) (.t 12))]
 (.cond (.t 13) (jo [q 14 (.build [(i64 0), nils, nils, (str []), nils, (i64 0)] [(5, 1, (.c (i64 1)))]), js 6 4 14]
 .ret) .skip))
 (jo [jd 15 3 2, jd 16 8 3, jc 17 73 [(.t 15), (.t 16)], ⟨(some 5), none, .alloc [nils, (str []), nils, (i64 0)]⟩, js 4 5 17]
 (.seq (.dops true (.tk (jf 18 0 2) (.tk (jl 19 18) (.tk (jf 20 1 2) (.tk (jd 21 2 20) (.tk (jf 22 0 5) (.tk (jl 23 22) (.tk (jf 26 1 5) (.tk (jl 27 26) (.tk (jf 28 2 5) (.tk (jl 29 28) (.tk (jf 30 3 5) (.tk (jl 31 30) (.sq (jc 24 74 [(.t 21), (.t 23)]) (.tk (q 25 (.build [(i64 0), nils, nils] [(0, 1, (.t 19)), (1, 2, (.t 24))])) (.tk (q 32 (.build [(i64 0), nils, nils, (str []), nils, (i64 0)] [(0, 3, (.t 25)), (3, 1, (.t 27)), (4, 1, (.t 29)), (5, 1, (.t 31))])) (.lt (js 6 4 32) .nil)))))))))))))))))
 .ret))))
theorem w_impl_Do : Wk Tryz.prog 26 33 [.cell 4 true 6] b_impl_Do := Wk.of mixedOrders Tryz.func26 (by kernel_rfl) (by kernel_rfl)

set_option maxHeartbeats 1600000 in
theorem implDo_ac {h : H} {cs : List Value} {m : UMach} {s : UState} {c : UCmd} {o : List UAct × Int} (tb : Tabs h) (hv : RepR h (spMach m) cs) (hs : m.flash.fin1) (hst : stM m = some s) (hr : rightOut m = true) (hc : cmdOk c) (hg : (metaGet m.flash).1.1.1 ≠ 1000000) (hd : Does m s c o) :
    AC Tryz.prog 26 [.agg cs.toArray, .agg c.cells.toArray] h fun r h' => Ext h h' ∧ ∃ us ud, r = .agg #[i64 m.blocks, us, ud, str [], nils, i64 o.2] ∧ FlF h h' (actsDo m.flash o.1) us ud := by
  have hv0 := hv
  obtain ⟨hf, hok⟩ := stM_ok hst
  obtain ⟨_, _, _, _, hi, _⟩ := right_of hr
  obtain ⟨hA, hA2⟩ := hd.ok hf hok
  obtain ⟨vs, vd, rfl, fr⟩ := mach_r.1 hv
  have o4 := fr.1.one
  have o5 := fr.2.one
  have c4 : vcl vs = [vs] := fr.1.vcl
  have c5 : vcl vd = [vd] := fr.2.vcl
  skip
  refine w_impl_Do (by simp) ?_
  unfold b_impl_Do
  refine wpc_cut (fun f1 h1 => ∃ b2 b3 b4, f1 2 = ptr b2 0 ∧ f1 3 = ptr b3 0 ∧ f1 4 = ptr b4 0 ∧ h1.get b2 = some ⟨[i64 m.blocks, vs, vd], 3⟩ ∧ h1.get b3 = some ⟨c.cells, 8⟩ ∧ h1.get b4 = some ⟨[i64 0, nils, nils, str [], nils, i64 0], 6⟩ ∧ h1.base ≤ b4 ∧ h.get b4 = none ∧ Ext h h1) ?_ ?_
  · simp -implicitDefEqProofs only [go_sem, o4, o5, c4, c5]
    intro b2 hb_b2 n_b2
    simp -implicitDefEqProofs only [go_sem, o4, o5, c4, c5, hb_b2]
    intro b3 hb_b3 m0_b3
    obtain ⟨z_b3_b2, y_b3_b2, n_b3⟩ := fne m0_b3
    simp only [H.set_base] at hb_b3
    simp -implicitDefEqProofs only [go_sem, o4, o5, c4, c5, hb_b2, hb_b3, z_b3_b2, y_b3_b2]
    intro b4 hb_b4 m0_b4
    obtain ⟨z_b4_b3, y_b4_b3, m1_b4⟩ := fne m0_b4
    obtain ⟨z_b4_b2, y_b4_b2, n_b4⟩ := fne m1_b4
    simp only [H.set_base] at hb_b4
    simp -implicitDefEqProofs only [go_sem, o4, o5, c4, c5, hb_b2, hb_b3, z_b3_b2, y_b3_b2, hb_b4, z_b4_b3, y_b4_b3, z_b4_b2, y_b4_b2]
    exact ⟨b2, b3, b4, rfl, rfl, rfl, by simp -implicitDefEqProofs only [go_sem, o4, o5, c4, c5, hb_b2, hb_b3, z_b3_b2, y_b3_b2, hb_b4, z_b4_b3, y_b4_b3, z_b4_b2, y_b4_b2], by simp -implicitDefEqProofs only [go_sem, o4, o5, c4, c5, hb_b2, hb_b3, z_b3_b2, y_b3_b2, hb_b4, z_b4_b3, y_b4_b3, z_b4_b2, y_b4_b2], by simp -implicitDefEqProofs only [go_sem, o4, o5, c4, c5, hb_b2, hb_b3, z_b3_b2, y_b3_b2, hb_b4, z_b4_b3, y_b4_b3, z_b4_b2, y_b4_b2], hb_b4, n_b4, ((((Ext.refl _).set' n_b2 _).set' n_b3 _).set' n_b4 _)⟩
  skip
  rintro f1 hS ⟨b2, b3, b4, q2, q3, q4, g2, g3, g4, hb4, n4, E0⟩
  have hvS := hv0.ext E0
  have L2 := ldc_get g2
  have L3 := ldc_get g3
  skip
  simp -implicitDefEqProofs only [go_sem, o4, o5, c4, c5, q2, q3, q4, L2, L3]
  refine (isMachine_pc hvS hs).use ?_
  simp -implicitDefEqProofs only [go_sem, hr, o4, o5, c4, c5, q2, q3, q4, L2, L3]
  refine (isCmd_pc _ c).use ?_
  simp -implicitDefEqProofs only [go_sem, hc, o4, o5, c4, c5, q2, q3, q4, L2, L3]
  refine AC_of (actsOf_ac (tb.ext E0) hvS hs hst hi hg hd) ?_
  rintro _ h2 - ⟨e2, va, rfl, oa⟩
  have y1 := oa.sl.vcl
  have y2 := oa.sl.one
  simp -implicitDefEqProofs only [go_sem, y1, y2, o4, o5, c4, c5, q2, q3, q4, L2, L3]
  intro b5 hb5 n5
  have e5 := (Ext.refl h2).set n5 ⟨[va, str [], nils, i64 o.2], 4⟩
  have g5 : (h2.set b5 ⟨[va, str [], nils, i64 o.2], 4⟩).get b5 = some ⟨[va, str [], nils, i64 o.2], 4⟩ := H.set_get_same _ _ _
  have G2 := e5.2.g b2 _ (e2.2.g b2 _ g2)
  have G4 := e5.2.g b4 _ (e2.2.g b4 _ g4)
  have hb42 : (h2.set b5 ⟨[va, str [], nils, i64 o.2], 4⟩).base ≤ b4 := by rw [e5.1, e2.1]; exact hb4
  have oa5 := oa.ext e5
  have G2' := e2.2.g b2 _ g2
  have z25 : b2 ≠ b5 := fun e => by rw [← e, G2'] at n5; cases n5
  skip
  simp -implicitDefEqProofs only [go_sem, hb5, y1, y2, eq_false z25, ldc_get G2', o4, o5, c4, c5, q2, q3, q4]
  generalize h2.set b5 ⟨[va, str [], nils, i64 o.2], 4⟩ = h3 at e5 g5 G2 G4 hb42 oa5 ⊢
  have E3 := (E0.trans e2).trans e5
  refine AC_of (acted_ac (fr.ext E3) oa5.sl hf.2.1 hA hA2) ?_
  rintro _ h4 - ⟨e4, us, ud, rfl, f4⟩
  refine ⟨e4.2, ?_⟩
  have p1 := f4.1.sl.one
  have p2 := f4.2.1.sl.one
  have G44 := e4.2.g b4 _ G4
  have hb44 : h4.base ≤ b4 := by rw [e4.1]; exact hb42
  simp -implicitDefEqProofs only [go_sem, p1, p2, stc_get G44, hb44, o4, o5, c4, c5, q2, q3, q4]
  exact ⟨(E3.trans e4).set' n4 _, us, ud, rfl, FlF.back (FlF.set f4 G4 _) E3⟩
end Go.Proofs.YthjbhdmjfakfaaaGreatDoor

set_option linter.unusedVariables false
set_option linter.unusedSimpArgs false
set_option maxRecDepth 100000
namespace Go.Proofs.YthjbhdmjfakfaaaGreatDoor
open Go.KH

/-! ## Steps from one image to another: the parts -/
/-- Two blocks that differ in two bytes at most. -/
def nearP (y : List UInt8) : List UInt8 → Bool := fun x => decide (6 ≤ (xorB x y).count 0)
def isP (y : List UInt8) : List UInt8 → Bool := fun x => decide (y = x)
def stepFor (old : List (List UInt8)) (d : Nat) (b : List UInt8) : UStep :=
  if b = zero8 then ⟨1, d, 0, []⟩
  else if 0 ≤ firstAt (isP b) old then ⟨3, d, firstAt (isP b) old, []⟩
  else if 0 ≤ firstAt (nearP b) old then ⟨4, d, firstAt (nearP b) old, xorB (at8 old (firstAt (nearP b) old)) b⟩
  else ⟨2, d, 0, b⟩
def stepsTo (old fresh : List (List UInt8)) (k : Nat) : List UStep := (List.range k).filterMap fun i => if old[i]? = fresh[i]? then none else some (stepFor old i (fresh.getD i []))
theorem stepsTo_same {old fresh : List (List UInt8)} {k : Nat} (h : old[k]? = fresh[k]?) : stepsTo old fresh (k + 1) = stepsTo old fresh k := by
  simp [stepsTo, List.range_succ, h]
theorem stepsTo_new {old fresh : List (List UInt8)} {k : Nat} (h : ¬ old[k]? = fresh[k]?) : stepsTo old fresh (k + 1) = stepsTo old fresh k ++ [stepFor old k (fresh.getD k [])] := by
  simp [stepsTo, List.range_succ, h]
theorem stepsTo_len (old fresh : List (List UInt8)) (k : Nat) : (stepsTo old fresh k).length ≤ k := by
  unfold stepsTo
  exact Nat.le_trans (List.length_filterMap_le ..) (by simp)
/-- In how many of the first k bytes two blocks differ. -/
def diffTo (a b : List UInt8) (k : Nat) : Nat := ((List.range k).filter fun i => !decide (a[i]? = b[i]?)).length
theorem diffTo_succ (a b : List UInt8) (k : Nat) : diffTo a b (k + 1) = diffTo a b k + if a[k]? = b[k]? then 0 else 1 := by
  unfold diffTo
  rw [List.range_succ, List.filter_append, List.length_append]
  congr 1
  by_cases h : a[k]? = b[k]? <;> simp [h]
theorem diffTo_le (a b : List UInt8) (k : Nat) : diffTo a b k ≤ k := by
  unfold diffTo
  exact Nat.le_trans (List.length_filter_le ..) (by simp)
theorem diff_xor : ∀ {a b : List UInt8} {n : Nat}, a.length = n → b.length = n → diffTo a b n + (xorB a b).count 0 = n
  | [], [], 0, _, _ => rfl
  | x :: a, y :: b, n + 1, ha, hb => by
    have ih := diff_xor (a := a) (b := b) (n := n) (by simpa using ha) (by simpa using hb)
    have e : diffTo (x :: a) (y :: b) (n + 1) = (if x = y then 0 else 1) + diffTo a b n := by
      unfold diffTo
      rw [List.range_succ_eq_map, List.filter_cons, List.filter_map, ]
      by_cases h : x = y
      · simp [h, Function.comp_def]
      · simp [h, Function.comp_def]; omega
    have hx : (x ^^^ y = 0) ↔ x = y := by
      constructor
      · intro h
        have : x.toBitVec ^^^ y.toBitVec = 0 := by
          have := congrArg UInt8.toBitVec h
          simpa using this
        exact UInt8.toBitVec_inj.1 (by simpa [BitVec.xor_eq_zero_iff] using this)
      · rintro rfl; simp
    have e2 : (xorB (x :: a) (y :: b)).count 0 = (if x = y then 1 else 0) + (xorB a b).count 0 := by
      show ((x ^^^ y) :: xorB a b).count 0 = _
      rw [List.count_cons]
      by_cases h : x = y
      · simp [h]; omega
      · have : ¬ (x ^^^ y = 0) := fun q => h (hx.1 q)
        simp [h, this]
    rw [e, e2]
    split <;> omega
def b_spec_l07Other : C := (jo [q 4 (.mv (.c (i64 0)))]
 (jo [q 5 (.mv (.c (i64 0)))]
 (.seq (jo [q 6 (.mv (.c (i64 0)))]
 (.block 0 (.loop (.seq (jo [jm 7 6, jk 8 .lss 7 8]
 (.cond (.t 8) .skip (.exit 0)))
 (.seq (.block 1 (.seq (.dops false (.tk (jm 11 0) (.tk (jm 12 6) (.tk (q 13 (.sidx (.t 11) (.t 12))) (.tk (jm 14 1) (.tk (jm 15 6) (.tk (q 16 (.sidx (.t 14) (.t 15))) (.tk (jb 17 .neq 13 16) .nil))))))))
 (.cond (.t 17) (.ops [jm 18 5, jk 19 .add 18 1, jm 5 19]) .skip)))
 (.ops [jm 9 6, jk 10 .add 9 1, jm 6 10]))))))
 (jo [jm 20 5, jm 4 20]
 .ret))))
theorem w_spec_l07Other : Wk Tryz.prog 189 21 [.tmp 4] b_spec_l07Other := Wk.of mixedOrders Tryz.func189 (by kernel_rfl) (by kernel_rfl)

theorem other_pc {h : H} {x y : List UInt8} (hx : x.length = 8) (hy : y.length = 8) : PC Tryz.prog 189 [str x, str y] h (i64 ((8 - (xorB x y).count 0 : Nat))) := by
  have hd := diff_xor hx hy
  refine PC_of ?_
  refine w_spec_l07Other (by simp) ?_
  unfold b_spec_l07Other
  simp -implicitDefEqProofs only [go_sem]
  refine loopW_of (fun m f h' => ∃ k, m + k = 8 ∧ h' = h ∧ f 0 = str x ∧ f 1 = str y ∧ f 5 = i64 (diffTo x y k) ∧ f 6 = i64 k) 8
    ⟨0, by simp, rfl, by simp -implicitDefEqProofs only [go_sem], by simp -implicitDefEqProofs only [go_sem], by simp -implicitDefEqProofs only [go_sem]; rfl, by simp -implicitDefEqProofs only [go_sem]; rfl⟩ ?_
  rintro m f h' ⟨k, hm, rfl, f0, f1, f5, f6⟩
  skip
  by_cases hk : k < 8
  · have e1 : x[k]? = some (x[k]'(by omega)) := List.getElem?_eq_getElem _
    have e2 : y[k]? = some (y[k]'(by omega)) := List.getElem?_eq_getElem _
    have hs := diffTo_succ x y k
    have hle := diffTo_le x y k
    rw [e1, e2] at hs
    generalize x[k]'(by omega) = p at *
    generalize y[k]'(by omega) = q at *
    by_cases h4 : p = q
    · subst h4
      simp -implicitDefEqProofs only [go_sem, show (k : Int) < 8 by omega, Int.toNat_natCast, e1, e2, wrap_i64 (show -(9223372036854775808 : Int) ≤ ((k : Int) + 1) by omega) (show ((k : Int) + 1) < 9223372036854775808 by omega), f0, f1, f5, f6, Int.natCast_nonneg]
      exact ⟨m - 1, by omega, _, Ext.refl _, k + 1, by omega, rfl, by rw [hs, if_pos rfl, Nat.add_zero], rfl⟩
    · have h5 : ¬ ((p.toNat : Int) = q.toNat) := fun e => h4 (UInt8.toNat_inj.1 (by omega))
      simp -implicitDefEqProofs only [go_sem, show (k : Int) < 8 by omega, Int.toNat_natCast, e1, e2, h5, wrap_i64 (show -(9223372036854775808 : Int) ≤ ((k : Int) + 1) by omega) (show ((k : Int) + 1) < 9223372036854775808 by omega), wrap_i64 (show -(9223372036854775808 : Int) ≤ ((diffTo x y k : Int) + 1) by omega) (show ((diffTo x y k : Int) + 1) < 9223372036854775808 by omega), f0, f1, f5, f6, Int.natCast_nonneg]
      exact ⟨m - 1, by omega, _, Ext.refl _, k + 1, by omega, rfl, by rw [hs, if_neg (fun e => h4 (Option.some.inj e))]; rfl, rfl⟩
  · obtain rfl : k = 8 := by omega
    simp -implicitDefEqProofs only [go_sem, show ¬ (((8 : Nat) : Int) < 8) by omega, f0, f1, f5, f6, Int.natCast_nonneg]
    exact ⟨Ext.refl _, by rw [show diffTo x y 8 = 8 - (xorB x y).count 0 by omega]⟩
end Go.Proofs.YthjbhdmjfakfaaaGreatDoor
