/- A helper of this seat's claims (contracts of the functions): what it shows is shown for every input that its statements name, on no other condition. -/
import Derived.Test.YthjbhdmjfakfaaaGreatDoorMC08
import Derived.Test.YthjbhdmjfakfaaaGreatDoorMC04k
import Derived.Test.YthjbhdmjfakfaaaGreatDoorMC13b
set_option linter.unusedVariables false
set_option linter.unusedSimpArgs false
set_option maxRecDepth 100000
namespace Go.Proofs.YthjbhdmjfakfaaaGreatDoor
open Go.KH

def saveActs (m : UMach) (s : UState) : List UAct := metaActsOf m.flash (stateB s)
def isFull (m : UMach) (n : Int) : Bool := decide (areaOf m n ≠ [])
def wipe (m : UMach) (n : Int) : UAct := ⟨false, 3 + m.blocks + n, []⟩
def wipes (m : UMach) (l : List Int) : List UAct := (l.filter (isFull m)).map (wipe m)
def syncs (l : List UAct) : List UAct := if 0 < l.length then l ++ [⟨true, 0, []⟩] else l
def loadAt (m : UMach) (s : UState) : Nat := (s.stash + kept (logOf m s)).toNat
def loadActs (m : UMach) (s : UState) : List UAct := syncs (wipes m (s.mine.drop (loadAt m s)))
def hasAt (m : UMach) (n : Int) : Prop := 0 ≤ n ∧ n ≤ (m.flash.sec.length : Int) - 1
instance (m : UMach) (n : Int) : Decidable (hasAt m n) := by unfold hasAt; infer_instance
def noteActs (m : UMach) (s : UState) : List UAct :=
 match noteR (flashGet m.flash 2) s.done with
 | some p => if s.done = 40 ∨ ¬ hasAt m p.1 then [] else [⟨false, p.1, p.2⟩, ⟨true, 0, []⟩] ++ saveActs m { s with done := s.done + 1 }
 | none => []
def bootActs (m : UMach) (s : UState) : List UAct :=
 if s.phase = 2 then loadActs m s
 else if s.phase = 3 then saveActs m { s with phase := 4, tries := 2 }
 else if s.phase = 4 then (if s.tries = 0 then saveActs m ⟨1, 0, 0, 0, 0, [], s.held, []⟩ else saveActs m { s with tries := s.tries - 1 })
 else if s.phase = 5 then noteActs m s else []
theorem wipes_step {m : UMach} {l : List Int} {k : Nat} (hk : k < l.length) : wipes m (l.take (k + 1)) = wipes m (l.take k) ++ if areaOf m l[k] ≠ [] then [wipe m l[k]] else [] := by
 unfold wipes
 rw [List.take_succ_eq_append_getElem hk, List.filter_append, List.map_append]
 by_cases h : areaOf m l[k] = []
 ·simp [isFull, h]
 ·simp [isFull, h]
theorem wipes_len (m : UMach) (l : List Int) : (wipes m l).length ≤ l.length := by unfold wipes; rw [List.length_map]; exact List.length_filter_le _ _
theorem saveActs_len (m : UMach) (s : UState) : (saveActs m s).length ≤ 2 := metaActs_len _ _
theorem bootActs_len (m : UMach) {s : UState} (hok : stateOk s) : (bootActs m s).length ≤ 25 := by
 have h24 := (stateOk_log hok).2.2.1
 unfold bootActs
 split
 ·unfold loadActs syncs
  have := wipes_len m (s.mine.drop (loadAt m s))
  rw [List.length_drop] at this
  split
  ·simp only [List.length_append, List.length_cons, List.length_nil]; omega
  ·omega
 ·split
  ·have := saveActs_len m { s with phase := 4, tries := 2 }; omega
  ·split
   ·split
    ·have := saveActs_len m ⟨1, 0, 0, 0, 0, [], s.held, []⟩; omega
    ·have := saveActs_len m { s with tries := s.tries - 1 }; omega
   ·split
    ·unfold noteActs
     split
     ·split
      ·simp
      ·have := saveActs_len m { s with done := s.done + 1 }
       simp only [List.length_append, List.length_cons, List.length_nil]; omega
     ·simp
    ·simp
theorem loadAt_le {m : UMach} {s : UState} (hok : stateOk s) : (loadAt m s ≤ s.mine.length ∧ (loadAt m s : Int) = s.stash + kept (logOf m s)) ∧ 0 ≤ s.stash + kept (logOf m s) ∧ s.stash + kept (logOf m s) ≤ s.mine.length := by
 have h1 := kept_le (logOf m s)
 have h2 := stateOk_stash hok
 have h3 := stateOk_log hok
 have h4 := scanN_len (areasOf m (s.mine.drop s.stash.toNat)) 0
 have h5 : (logOf m s).length ≤ s.mine.length - s.stash.toNat := by
  unfold logOf
  unfold areasOf at h4 ⊢
  rw [List.length_map, List.length_drop] at h4
  exact h4
 unfold loadAt
 omega
theorem ok_retry {s : UState} (h : stateOk s) (p : s.phase = 3) : stateOk { s with phase := 4, tries := 2 } := by
 have h5 := h.2.2.2.2
 rw [if_neg (by omega)] at h5
 refine ⟨by simp, h.2.1, h.2.2.1, h.2.2.2.1, ?_⟩
 simp only
 rw [if_neg (by omega)]
 refine ⟨h5.1, h5.2.1, h5.2.2.1, h5.2.2.2.1, by omega, by simp, h5.2.2.2.2.2.2.1, ?_⟩
 have := h5.2.2.2.2.2.2.2
 omega
theorem ok_less {s : UState} (h : stateOk s) (p : s.phase = 4) (p2 : ¬ s.tries = 0) : stateOk { s with tries := s.tries - 1 } := by
 have h5 := h.2.2.2.2
 rw [if_neg (by omega)] at h5
 refine ⟨h.1, h.2.1, h.2.2.1, h.2.2.2.1, ?_⟩
 simp only
 rw [if_neg (by omega)]
 exact ⟨h5.1, h5.2.1, h5.2.2.1, h5.2.2.2.1, by omega, by omega, h5.2.2.2.2.2.2.1, h5.2.2.2.2.2.2.2⟩
theorem ok_more {s : UState} (h : stateOk s) (p : s.phase = 5) (p2 : ¬ s.done = 40) : stateOk { s with done := s.done + 1 } := by
 have h5 := h.2.2.2.2
 rw [if_neg (by omega)] at h5
 refine ⟨h.1, h.2.1, h.2.2.1, h.2.2.2.1, ?_⟩
 simp only
 rw [if_neg (by omega)]
 exact ⟨h5.1, h5.2.1, h5.2.2.1, h5.2.2.2.1, h5.2.2.2.2.1, h5.2.2.2.2.2.1, by omega, by omega⟩
theorem ok_idle {s : UState} (h : stateOk s) : stateOk ⟨1, 0, 0, 0, 0, [], s.held, []⟩ := by
 refine ⟨by simp, h.2.1, ?_, (fun x hx => by cases hx), ?_⟩
 ·simp [listOk]
 ·simp
theorem ok_done {s : UState} (h : stateOk s) : 0 ≤ s.done ∧ s.done ≤ 40 := by
 have h5 := h.2.2.2.2
 split at h5 <;> omega
theorem ok_tries {s : UState} (h : stateOk s) : 0 ≤ s.tries ∧ s.tries ≤ 2 := by
 have h5 := h.2.2.2.2
 split at h5 <;> omega
theorem ok_small {s : UState} (h : stateOk s) : s.small := by
 have h1 := listOk_le h.2.1
 have h2 := listOk_le h.2.2.1
 unfold UState.small
 omega
theorem actC_len (o : Option (Int × List UInt8)) : (actC o).length = 3 := by cases o <;> rfl
theorem actC_one (o : Option (Int × List UInt8)) : (actC o).all Value.oneCell' = true := by cases o <;> rfl
theorem acts_one (l : List UAct) : (l.map UAct.cells).flatten.all Value.oneCell' = true := by
 induction l with
 | nil => rfl
 | cons a l ih => simp only [List.map_cons, List.flatten_cons, List.all_append, ih, Bool.and_true]; rfl
theorem mach_two {m : UMach} (hf : machFit m) : 2 ≤ m.flash.sec.length := by have := hf.2.2; have := hf.1; omega
def b_impl_Machine_save : C := (jo [⟨(some 2), none, .box (.t 0)⟩, ⟨(some 3), none, .box (.t 1)⟩, q 4 (.mv (.c nils))]
 (.seq (.dops true (.tk (jf 5 1 2) (.tk (jd 6 2 5) (.tk (jd 7 8 3) (.sq (jc 8 128 [(.t 7)]) (.sq (jc 9 127 [(.t 6), (.t 8)]) (.tk (jm 4 9) .nil)))))))
 .ret))
theorem w_impl_Machine_save : Wk Tryz.prog 146 10 [.tmp 4] b_impl_Machine_save := Wk.of mixedOrders Tryz.func146 (by kernel_rfl) (by kernel_rfl)

theorem save_ac {h : H} {cs c2 : List Value} {m : UMach} {s : UState} (hv : RepR h (spMach m) cs) (hf : machFit m) (hst : StR h c2 s) (hok : stateOk s) : AC Tryz.prog 146 [.agg cs.toArray, .agg c2.toArray] h fun r h' => Ext h h' ∧ Own h h' r 3 ((saveActs m s).map UAct.cells) := by
 obtain ⟨vs, vd, rfl, fr⟩ := mach_r.1 hv
 obtain ⟨uh, um, rfl, sh, sm⟩ := hst
 have o4 := fr.1.one
 have o5 := fr.2.one
 have c4 : vcl vs = [vs] := fr.1.vcl
 have c5 : vcl vd = [vd] := fr.2.vcl
 have o6 := sh.vcl
 have o7 := sm.vcl
 have o8 := sh.one
 have o9 := sm.one
 have h46 := stateB_46 hok
 skip
 refine w_impl_Machine_save (by simp) ?_
 unfold b_impl_Machine_save
 simp -implicitDefEqProofs only [go_sem, o4, o5, c4, c5, o6, o7, o8, o9]
 intro b2 hb_b2 n_b2
 simp -implicitDefEqProofs only [go_sem, o4, o5, c4, c5, o6, o7, o8, o9, hb_b2]
 intro b3 hb_b3 m0_b3
 obtain ⟨z_b3_b2, y_b3_b2, n_b3⟩ := fne m0_b3
 simp only [H.set_base] at hb_b3
 simp -implicitDefEqProofs only [go_sem, o4, o5, c4, c5, o6, o7, o8, o9, hb_b2, hb_b3, z_b3_b2, y_b3_b2]
 refine (stateBytes_pc s (sh.ext (((Ext.refl _).set' n_b2 _).set' n_b3 _)) (sm.ext (((Ext.refl _).set' n_b2 _).set' n_b3 _)) hok).use ?_
 simp -implicitDefEqProofs only [go_sem, Sub.refl, o4, o5, c4, c5, o6, o7, o8, o9, hb_b2, hb_b3, z_b3_b2, y_b3_b2]
 refine AC_of (metaActs_ac (fr.ext (((Ext.refl _).set' n_b2 _).set' n_b3 _)) hf.2.1 (mach_two hf) (by omega)) ?_
 rintro v5 h5 - ⟨e5, ow⟩
 simp -implicitDefEqProofs only [go_sem, e5.2, ow.sl.vcl, o4, o5, c4, c5, o6, o7, o8, o9, hb_b2, hb_b3, z_b3_b2, y_b3_b2]
 exact ⟨((((Ext.refl _).set' n_b2 _).set' n_b3 _)).trans e5, ow.back (((Ext.refl _).set' n_b2 _).set' n_b3 _)⟩
def b_impl_Machine_bootActs : C := (jo [⟨(some 2), none, .box (.t 0)⟩, ⟨(some 3), none, .box (.t 1)⟩, q 4 (.mv (.c nils))]
 (.seq (jo [jf 9 0 3, jl 10 9]
 (.block 0 (jo [jk 12 .eql 10 2, jm 11 12]
 (.cond (.t 11) (jo [q 5 (.mv (.c nils))]
 (.seq (.seq (.dops true (.tk (jf 13 7 3) (.tk (jl 14 13) (.tk (jf 15 3 3) (.tk (jl 16 15) (.tk (jd 17 3 2) (.tk (jd 18 8 3) (.tk (q 24 (.mv (.c (i64 0)))) (.sq (jc 19 81 [(.t 17), (.t 18)]) (.sq (jc 20 82 [(.t 19)]) (.tk (jb 21 .add 16 20) (.tk (q 22 (.lsl 1 (.t 14) (some (.t 21)) none)) (.tk (q 23 (.len (.t 22))) .nil)))))))))))))
 (.block 1 (.loop (jo [jb 25 .lss 24 23]
 (.seq (.cond (.t 25) .skip (.exit 1))
 (.seq (.block 2 (jo [q 26 (.idx 1 (.t 22) (.t 24)), jl 27 26, jm 7 27]
 (jo [jd 28 3 2, jm 29 7, jc 30 163 [(.t 28), (.t 29)], q 31 (.bin .neq (.t 30) (.c (str [])))]
 (.cond (.t 31) (.ops [jm 32 5, jd 33 3 2, jm 34 7, jc 35 164 [(.t 33), (.t 34)], q 36 (.build [(.bool false), (i64 0), (str [])] [(1, 1, (.t 35))]), ⟨(some 37), none, .bsl 1 [(.bool false), (i64 0), (str [])] [(0, 3, (.t 36))]⟩, ⟨(some 38), none, .app 3 32 (.t 32) (.t 37)⟩, jm 5 38]) .skip))))
 (.ops [jk 39 .add 24 1, jm 24 39])))))))
 (.seq (jo [jm 40 5, q 41 (.len (.t 40)), jk 42 .gtr 41 0]
 (.cond (.t 42) (.ops [jm 43 5, q 44 (.build [(.bool false), (i64 0), (str [])] [(0, 1, (.c (.bool true)))]), ⟨(some 45), none, .bsl 1 [(.bool false), (i64 0), (str [])] [(0, 3, (.t 44))]⟩, ⟨(some 46), none, .app 3 32 (.t 43) (.t 45)⟩, jm 5 46]) .skip))
 (jo [jm 47 5, jm 4 47]
 .ret)))) (jo [jk 49 .eql 10 3, jm 48 49]
 (.cond (.t 48) (jo [jf 50 0 3, ⟨none, none, .st 1 (.t 50) (.c (i64 4))⟩, jf 51 1 3, ⟨none, none, .st 1 (.t 51) (.c (i64 2))⟩]
 (jo [jd 52 3 2, jd 53 8 3, jc 54 146 [(.t 52), (.t 53)], jm 4 54]
 .ret)) (jo [jk 56 .eql 10 4, jm 55 56]
 (.cond (.t 55) (.seq (jo [jf 57 1 3, jl 58 57, jk 59 .eql 58 0]
 (.cond (.t 59) (.seq (.dops true (.tk (jd 60 3 2) (.tk (jd 61 8 3) (.sq (jc 62 147 [(.t 61)]) (.sq (jc 63 146 [(.t 60), (.t 62)]) (.tk (jm 4 63) .nil))))))
 .ret) .skip))
 (jo [jf 64 1 3, jl 65 64, jk 66 .sub 65 1, jf 67 1 3, js 1 67 66]
 (jo [jd 68 3 2, jd 69 8 3, jc 70 146 [(.t 68), (.t 69)], jm 4 70]
 .ret))) (jo [jk 72 .eql 10 5, jm 71 72]
 (.cond (.t 71) (.seq (.dops true (.tk (jf 73 1 2) (.tk (jd 74 2 73) (.tk (jf 76 4 3) (.tk (jl 77 76) (.alt (jc 75 166 [(.t 74), (.c (i64 2))]) (.alt (jc 78 165 [(.t 75), (.t 77)]) (.sq (⟨(some 8), none, .alloc [(.bool false), (i64 0), (str [])]⟩) (.lt (js 3 8 78) .nil)) (⟨(some 8), none, .alloc [(.bool false), (i64 0), (str [])]⟩) (.sq (jc 78 165 [(.t 75), (.t 77)]) (.lt (js 3 8 78) .nil))) (⟨(some 8), none, .alloc [(.bool false), (i64 0), (str [])]⟩) (.sq (jc 75 166 [(.t 74), (.c (i64 2))]) (.sq (jc 78 165 [(.t 75), (.t 77)]) (.lt (js 3 8 78) .nil)))))))))
 (.seq (jo [jf 79 0 8, jl 80 79, jm 81 80, qg 82 81 false (.fld 4 (.t 3)), qg 83 81 false (.ld false 1 (.t 82)), qg 84 81 false (.bin .eql (.t 83) (.c (i64 40))), q 85 (.pick (.t 81) (.c (.bool true)) (.t 84)), jm 86 85, qg 87 86 false (.fld 1 (.t 2)), qg 88 86 false (.ld true 2 (.t 87)), qg 89 86 false (.fld 1 (.t 8)), qg 90 86 false (.ld false 1 (.t 89)), jcg 91 86 false 167 [(.t 88), (.t 90)], qg 92 86 false (.un .not (.t 91)), q 93 (.pick (.t 86) (.c (.bool true)) (.t 92))]
 (.cond (.t 93) (jo [q 4 (.mv (.c nils))]
 .ret) .skip))
 (jo [jf 94 4 3, jl 95 94, jk 96 .add 95 1, jf 97 4 3, js 1 97 96]
 (.seq (.dops true (.tk (jd 98 3 8) (.tk (q 99 (.build [(.bool false), (i64 0), (str [])] [(0, 1, (.c (.bool true)))])) (.tk (jd 101 3 2) (.tk (jd 102 8 3) (.alt (⟨(some 100), none, .bsl 2 [(.bool false), (i64 0), (str []), (.bool false), (i64 0), (str [])] [(0, 3, (.t 98)), (3, 3, (.t 99))]⟩) (.sq (jc 103 146 [(.t 101), (.t 102)]) (.lt (⟨(some 104), none, .app 3 32 (.t 100) (.t 103)⟩) (.tk (jm 4 104) .nil))) (jc 103 146 [(.t 101), (.t 102)]) (.sq (⟨(some 100), none, .bsl 2 [(.bool false), (i64 0), (str []), (.bool false), (i64 0), (str [])] [(0, 3, (.t 98)), (3, 3, (.t 99))]⟩) (.lt (⟨(some 104), none, .app 3 32 (.t 100) (.t 103)⟩) (.tk (jm 4 104) .nil)))))))))
 .ret)))) .skip))))))))))
 (jo [q 4 (.mv (.c nils))]
 .ret)))
theorem w_impl_Machine_bootActs : Wk Tryz.prog 79 105 [.tmp 4] b_impl_Machine_bootActs := Wk.of mixedOrders Tryz.func79 (by kernel_rfl) (by kernel_rfl)

set_option maxHeartbeats 3200000 in
theorem bootActs_ac {h : H} {cs c2 : List Value} {m : UMach} {s : UState} (hv : RepR h (spMach m) cs) (hf : machFit m) (hst : StR h c2 s) (hok : stateOk s) : AC Tryz.prog 79 [.agg cs.toArray, .agg c2.toArray] h fun r h' => Ext h h' ∧ Own h h' r 3 ((bootActs m s).map UAct.cells) := by
 have hv0 := hv
 have hst0 := hst
 have h20 := logOf_len m hok
 have hL := stateOk_log hok
 have hla := loadAt_le (m := m) hok
 have hdn := ok_done hok
 have htr := ok_tries hok
 have hd := flashOk_small hf.2.1
 have h27 := hf.2.2
 have hb := hf.1
 obtain ⟨vs, vd, rfl, fr⟩ := mach_r.1 hv
 have o4 := fr.1.one
 have o5 := fr.2.one
 have c4 : vcl vs = [vs] := fr.1.vcl
 have c5 : vcl vd = [vd] := fr.2.vcl
 obtain ⟨uh, um, rfl, sh, sm⟩ := hst
 have o6 := sh.vcl
 have o7 := sm.vcl
 have o8 := sh.one
 have o9 := sm.one
 skip
 refine w_impl_Machine_bootActs (by simp) ?_
 unfold b_impl_Machine_bootActs
 refine wpc_cut (fun f1 h1 => ∃ b2 b3, f1 2 = ptr b2 0 ∧ f1 3 = ptr b3 0 ∧ h1.get b2 = some ⟨[i64 m.blocks, vs, vd], 3⟩ ∧ h1.get b3 = some ⟨s.cells uh um, 8⟩ ∧ h1.base ≤ b3 ∧ h.get b3 = none ∧ b2 ≠ b3 ∧ Ext h h1) ?_ ?_
 ·simp -implicitDefEqProofs only [go_sem, o4, o5, c4, c5, o6, o7, o8, o9]
  intro b2 hb_b2 n_b2
  simp -implicitDefEqProofs only [go_sem, o4, o5, c4, c5, o6, o7, o8, o9, hb_b2]
  intro b3 hb_b3 m0_b3
  obtain ⟨z_b3_b2, y_b3_b2, n_b3⟩ := fne m0_b3
  simp only [H.set_base] at hb_b3
  simp -implicitDefEqProofs only [go_sem, o4, o5, c4, c5, o6, o7, o8, o9, hb_b2, hb_b3, z_b3_b2, y_b3_b2]
  exact ⟨b2, b3, rfl, rfl, by simp -implicitDefEqProofs only [go_sem, o4, o5, c4, c5, o6, o7, o8, o9, hb_b2, hb_b3, z_b3_b2, y_b3_b2], by simp -implicitDefEqProofs only [go_sem, o4, o5, c4, c5, o6, o7, o8, o9, hb_b2, hb_b3, z_b3_b2, y_b3_b2], hb_b3, n_b3, of_eq_false y_b3_b2, (((Ext.refl _).set' n_b2 _).set' n_b3 _)⟩
 skip
 rintro f1 hS ⟨b2, b3, q2, q3, g2, g3, hb3, n3, hne, E0⟩
 have hvS := hv0.ext E0
 have stS := hst0.ext E0
 have frS := fr.ext E0
 have hne' : (b2 = b3) = False := eq_false hne
 have eT := fun x => E0.set' n3 x
 have back : ∀ {hT h' : H} {r : Value} {l : List UAct}, Ext h hT → Ext hT h' ∧ Own hT h' r 3 (l.map UAct.cells) → Ext h h' ∧ Own h h' r 3 (l.map UAct.cells) := fun e k => ⟨e.trans k.1, k.2.back e⟩
 unfold bootActs
 by_cases p2 : s.phase = 2
 ·rw [if_pos p2]
  have P2 := eq_true p2
  obtain ⟨L, hLd⟩ : ∃ L, L = s.mine.drop (loadAt m s) := ⟨_, rfl⟩
  have lL : L.length = s.mine.length - loadAt m s := by rw [hLd]; simp
  have hmem : ∀ x ∈ L, 0 ≤ x ∧ x ≤ 23 := fun x hx => hL.2.2.2 x (by rw [hLd] at hx; exact List.mem_of_mem_drop hx)
  unfold loadActs
  rw [← hLd]
  have l2 : (ints s.mine).length = s.mine.length := by simp
  have hsh := sm.shape
  rw [l2] at hsh
  obtain ⟨am, cm, rfl⟩ := hsh
  have sp := sm.part (show loadAt m s ≤ s.mine.length from hla.1.1) (Nat.le_refl _)
  have hdr : ((ints s.mine).take s.mine.length).drop (loadAt m s) = ints L := by rw [← l2, List.take_length, hLd]; simp
  rw [hdr, ← lL] at sp
  simp -implicitDefEqProofs only [go_sem, q2, q3, ldc_get g2, ldc_get g3, P2, o4, o5, c4, c5, o6, o7, o8, o9]
  refine AC_of (log_ac hvS hf stS hok) ?_
  rintro v5 h5 - ⟨e5, f5⟩
  refine ⟨e5.2, ?_⟩
  simp -implicitDefEqProofs only [go_sem, f5.sl.vcl, o4, o5, c4, c5, o6, o7, o8, o9]
  refine (keptOf_pc f5.sl (by omega)).use ?_
  refine ⟨e5.2, ?_⟩
  simp -implicitDefEqProofs only [go_sem, wrap_i64 (show -(9223372036854775808 : Int) ≤ (s.stash + kept (logOf m s)) by omega) (show (s.stash + kept (logOf m s)) < 9223372036854775808 by omega), show 0 ≤ s.stash + kept (logOf m s) ∧ s.stash + kept (logOf m s) ≤ (s.mine.length : Int) from hla.2, show (s.stash + kept (logOf m s)).toNat = loadAt m s from rfl, ← lL, o4, o5, c4, c5, o6, o7, o8, o9]
  obtain ⟨asl, hasl⟩ : ∃ a, a = (if cm = loadAt m s then am else am.map (·.add (loadAt m s * 1))) := ⟨_, rfl⟩
  obtain ⟨csl, hcsl⟩ : ∃ a, a = cm - loadAt m s := ⟨_, rfl⟩
  rw [← hasl, ← hcsl] at sp ⊢
  have E5 := E0.trans e5
  have G2 := e5.2.g b2 _ g2
  have d1 := sp.ext E5
  obtain ⟨_, _, b, o, e, hcap, r2, r3⟩ := d1
  simp only [Value.slice.injEq, List.length_map] at e r2
  have hv5 := hv0.ext E5
  have sum := hla.2
  refine loopW_of (fun n f h' => ∃ (k : Nat) (w : Value), n + k = L.length ∧ f 2 = ptr b2 0 ∧ f 22 = .slice asl L.length csl ∧ f 23 = i64 L.length ∧ f 24 = i64 k ∧ f 5 = w ∧ Ext h5 h' ∧ Own h5 h' w 3 ((wipes m (L.take k)).map UAct.cells)) L.length
   ⟨0, nils, by simp, by simp -implicitDefEqProofs only [go_sem, q2, o4, o5, c4, c5, o6, o7, o8, o9], by simp -implicitDefEqProofs only [go_sem, o4, o5, c4, c5, o6, o7, o8, o9], by simp -implicitDefEqProofs only [go_sem, o4, o5, c4, c5, o6, o7, o8, o9], by simp -implicitDefEqProofs only [go_sem, o4, o5, c4, c5, o6, o7, o8, o9]; rfl, by simp -implicitDefEqProofs only [go_sem, o4, o5, c4, c5, o6, o7, o8, o9], Ext.refl _, Own.nil _ _ _⟩ ?_
  rintro n f h' ⟨k, w, hn, f2, f22, f23, f24, f5', he, ho⟩
  obtain ⟨aw, cw, rfl⟩ := ho.shape
  rw [List.length_map] at ho f5'
  have wl := wipes_len m (L.take k)
  rw [List.length_take] at wl
  have GG := he.2.g b2 _ G2
  by_cases hk : k < L.length
  ·have e1 := ldc_sub he.2 (r3 k [i64 L[k]] (by simp [hk]))
   have hx := hmem _ (List.getElem_mem hk)
   have ws := wipes_step (m := m) hk
   simp -implicitDefEqProofs only [go_sem, f2, f22, f23, f24, f5', Int.ofNat_lt, Int.natCast_nonneg, ldc_get GG, hk, e1, r2, o4, o5, c4, c5, o6, o7, o8, o9]
   refine (area_pc (hv5.ext he) hf hx).use ?_
   by_cases hx0 : areaOf m L[k] = []
   ·rw [if_neg (by simpa using hx0), List.append_nil] at ws
    simp -implicitDefEqProofs only [go_sem, f2, f22, f23, f24, f5', hx0, wrap_i64 (show -(9223372036854775808 : Int) ≤ ((k : Int) + 1) by omega) (show ((k : Int) + 1) < 9223372036854775808 by omega), o4, o5, c4, c5, o6, o7, o8, o9]
    exact ⟨n - 1, by omega, h', Ext.refl _, k + 1, _, by omega, rfl, rfl, he, by rw [ws]; exact ho⟩
   ·rw [if_pos hx0] at ws
    simp -implicitDefEqProofs only [go_sem, f2, f22, f23, f24, f5', hx0, ldc_get GG, o4, o5, c4, c5, o6, o7, o8, o9]
    refine (areaAt_pc (hv5.ext he) hb (by omega)).use ?_
    simp -implicitDefEqProofs only [go_sem, f2, f22, f23, f24, f5', o4, o5, c4, c5, o6, o7, o8, o9]
    intro b8 hb8 n8
    simp -implicitDefEqProofs only [go_sem, f2, f22, f23, f24, f5', o4, o5, c4, c5, o6, o7, o8, o9]
    refine appW_own (new := [[.bool false, i64 (3 + m.blocks + L[k]), str []]]) (he.set n8 _) (ho.ext ((Ext.refl _).set n8 _)) rfl (by intro r hr; simp at hr; subst hr; rfl) rfl (by rw [List.length_map]; show ((wipes m (L.take k)).length + 1) * 32 ≤ _; omega) ?_
    intro v' h'' he2 ho2 _
    simp -implicitDefEqProofs only [go_sem, f2, f22, f23, f24, wrap_i64 (show -(9223372036854775808 : Int) ≤ ((k : Int) + 1) by omega) (show ((k : Int) + 1) < 9223372036854775808 by omega), o4, o5, c4, c5, o6, o7, o8, o9]
    exact ⟨n - 1, by omega, h'', Ext.refl _, k + 1, v', by omega, rfl, rfl, he2, by rw [ws, List.map_append]; exact ho2⟩
  ·have e : k = L.length := by omega
   subst e
   rw [List.take_length] at ho f5' wl
   unfold syncs
   have EH := E5.trans he
   by_cases h0 : 0 < (wipes m L).length
   ·rw [if_pos h0]
    simp -implicitDefEqProofs only [go_sem, f2, f22, f23, f24, f5', Nat.lt_irrefl, show (0 : Int) < ((wipes m L).length : Int) by omega, Int.lt_irrefl, o4, o5, c4, c5, o6, o7, o8, o9]
    intro b8 hb8 n8
    simp -implicitDefEqProofs only [go_sem, f5', o4, o5, c4, c5, o6, o7, o8, o9]
    refine appW_own (new := [[.bool true, i64 0, str []]]) (he.set n8 _) (ho.ext ((Ext.refl _).set n8 _)) rfl (by intro r hr; simp at hr; subst hr; rfl) rfl (by rw [List.length_map]; show ((wipes m L).length + 1) * 32 ≤ _; omega) ?_
    intro v' h'' he2 ho2 _
    simp -implicitDefEqProofs only [go_sem, ho2.sl.vcl, o4, o5, c4, c5, o6, o7, o8, o9]
    exact ⟨E5.trans he2, by rw [List.map_append]; exact ho2.back E5⟩
   ·rw [if_neg h0]
    simp -implicitDefEqProofs only [go_sem, f2, f22, f23, f24, f5', Nat.lt_irrefl, show ¬ (0 : Int) < ((wipes m L).length : Int) by omega, Int.lt_irrefl, ho.sl.vcl, o4, o5, c4, c5, o6, o7, o8, o9]
    exact ⟨EH, ho.back E5⟩
 rw [if_neg p2]
 have P2 := eq_false p2
 by_cases p3 : s.phase = 3
 ·rw [if_pos p3]
  have P3 := eq_true p3
  simp -implicitDefEqProofs only [go_sem, q2, q3, ldc_get g2, ldc_get g3, stc_get g3, hb3, P2, P3, hne', o4, o5, c4, c5, o6, o7, o8, o9]
  refine AC_of (save_ac (s := { s with phase := 4, tries := 2 }) (hv0.ext (eT _)) hf ⟨uh, um, rfl, sh.ext (eT _), sm.ext (eT _)⟩ (ok_retry hok p3)) ?_
  rintro v5 h5 - k5
  simp -implicitDefEqProofs only [go_sem, k5.2.sl.vcl, o4, o5, c4, c5, o6, o7, o8, o9]
  exact back (eT _) k5
 rw [if_neg p3]
 have P3 := eq_false p3
 by_cases p4 : s.phase = 4
 ·rw [if_pos p4]
  have P4 := eq_true p4
  simp -implicitDefEqProofs only [go_sem, q2, q3, ldc_get g2, ldc_get g3, stc_get g3, hb3, P2, P3, P4, hne', o4, o5, c4, c5, o6, o7, o8, o9]
  refine Br.of (fun ht => ?_) (fun ht => ?_)
  ·rw [if_pos ht]
   simp -implicitDefEqProofs only [go_sem, q2, q3, ldc_get g2, ldc_get g3, o4, o5, c4, c5, o6, o7, o8, o9]
   refine AC_of (stateIdle_ac stS (ok_small hok)) ?_
   rintro _ h5 - ⟨e5, cI, rfl, F5⟩
   refine ⟨e5.2, ?_⟩
   simp -implicitDefEqProofs only [go_sem, F5.r.len, F5.r.one, o4, o5, c4, c5, o6, o7, o8, o9]
   refine AC_of (save_ac (hvS.ext e5) hf F5.r (ok_idle hok)) ?_
   rintro v6 h6 - k6
   refine ⟨(e5.trans k6.1).2, ?_⟩
   simp -implicitDefEqProofs only [go_sem, k6.2.sl.vcl, o4, o5, c4, c5, o6, o7, o8, o9]
   exact back (E0.trans e5) k6
  ·rw [if_neg ht]
   simp -implicitDefEqProofs only [go_sem, q2, q3, ldc_get g2, ldc_get g3, stc_get g3, hb3, hne', wrap_i64 (show -(9223372036854775808 : Int) ≤ (s.tries - 1) by omega) (show (s.tries - 1) < 9223372036854775808 by omega), o4, o5, c4, c5, o6, o7, o8, o9]
   refine AC_of (save_ac (s := { s with tries := s.tries - 1 }) (hv0.ext (eT _)) hf ⟨uh, um, rfl, sh.ext (eT _), sm.ext (eT _)⟩ (ok_less hok p4 ht)) ?_
   rintro v5 h5 - k5
   simp -implicitDefEqProofs only [go_sem, k5.2.sl.vcl, o4, o5, c4, c5, o6, o7, o8, o9]
   exact back (eT _) k5
 rw [if_neg p4]
 have P4 := eq_false p4
 by_cases p5 : s.phase = 5
 ·rw [if_pos p5]
  simp -implicitDefEqProofs only [go_sem, q2, q3, ldc_get g2, ldc_get g3, stc_get g3, hb3, P2, P3, P4, o4, o5, c4, c5, o6, o7, o8, o9]
  refine Br.of (fun _ => ?_) (fun h => absurd p5 h)
  unfold noteActs
  have al := actC_len (noteR (flashGet m.flash 2) s.done)
  have ao := actC_one (noteR (flashGet m.flash 2) s.done)
  have at_ := take_len al
  have h96 := flashGet_len hf.2.1 2
  refine wpc_cut (fun f3 h3 => ∃ b8, f3 2 = ptr b2 0 ∧ f3 3 = ptr b3 0 ∧ f3 8 = ptr b8 0 ∧ h3.get b8 = some ⟨actC (noteR (flashGet m.flash 2) s.done), 3⟩ ∧ hS.get b8 = none ∧ Ext hS h3) ?_ ?_
  ·simp -implicitDefEqProofs only [go_sem, q2, q3, ldc_get g2, ldc_get g3, o4, o5, c4, c5, o6, o7, o8, o9]
   refine ⟨?_, ?_⟩
   ·refine (read_pc frS (by omega) (by omega)).use ?_
    simp -implicitDefEqProofs only [go_sem, Sub.refl, o4, o5, c4, c5, o6, o7, o8, o9]
    refine ⟨?_, ?_⟩
    ·refine (noteR_pc _ _ _ (by omega)).use ?_
     simp -implicitDefEqProofs only [go_sem, Sub.refl, o4, o5, c4, c5, o6, o7, o8, o9]
     intro b8 hb8 n8
     have e8 := (Ext.refl hS).set n8 ⟨[.bool false, i64 0, str []], 3⟩
     refine ⟨e8.2, ?_⟩
     simp -implicitDefEqProofs only [go_sem, hb8, al, ao, at_, q2, q3, o4, o5, c4, c5, o6, o7, o8, o9]
     exact ⟨b8, rfl, by rw [if_pos rfl], n8, (Ext.refl hS).set n8 _⟩
    ·intro b8 hb8 n8
     have e8 := (Ext.refl hS).set n8 ⟨[.bool false, i64 0, str []], 3⟩
     refine ⟨e8.2, ?_⟩
     simp -implicitDefEqProofs only [go_sem, o4, o5, c4, c5, o6, o7, o8, o9]
     refine (noteR_pc _ _ _ (by omega)).use ?_
     refine ⟨e8.2, ?_⟩
     simp -implicitDefEqProofs only [go_sem, hb8, al, ao, at_, q2, q3, o4, o5, c4, c5, o6, o7, o8, o9]
     exact ⟨b8, rfl, by rw [if_pos rfl], n8, (Ext.refl hS).set n8 _⟩
   ·intro b8 hb8 n8
    have e8 := (Ext.refl hS).set n8 ⟨[.bool false, i64 0, str []], 3⟩
    refine ⟨e8.2, ?_⟩
    simp -implicitDefEqProofs only [go_sem, o4, o5, c4, c5, o6, o7, o8, o9]
    refine (read_pc (frS.ext e8) (by omega) (by omega)).use ?_
    refine ⟨e8.2, ?_⟩
    simp -implicitDefEqProofs only [go_sem, o4, o5, c4, c5, o6, o7, o8, o9]
    refine (noteR_pc _ _ _ (by omega)).use ?_
    refine ⟨e8.2, ?_⟩
    simp -implicitDefEqProofs only [go_sem, hb8, al, ao, at_, q2, q3, o4, o5, c4, c5, o6, o7, o8, o9]
    exact ⟨b8, rfl, by rw [if_pos rfl], n8, (Ext.refl hS).set n8 _⟩
  rintro f3 h3 ⟨b8, r2, r3, r8, g8, n8, e3⟩
  have G2 := e3.2.g b2 _ g2
  have G3 := e3.2.g b3 _ g3
  have E3 := E0.trans e3
  have hb3' : h3.base ≤ b3 := by rw [e3.1]; exact hb3
  cases hN : noteR (flashGet m.flash 2) s.done with
  | none =>
   rw [hN] at g8
   simp -implicitDefEqProofs only [go_sem, r2, r3, r8, ldc_get g8, ldc_get G3, ldc_get G2, o4, o5, c4, c5, o6, o7, o8, o9]
   exact ⟨E3, Own.nil _ _ _⟩
  | some p =>
   rw [hN] at g8
   simp only
   by_cases d40 : s.done = 40
   ·rw [if_pos (.inl d40)]
    simp -implicitDefEqProofs only [go_sem, r2, r3, r8, ldc_get g8, ldc_get G3, ldc_get G2, eq_true d40, o4, o5, c4, c5, o6, o7, o8, o9]
    exact ⟨E3, Own.nil _ _ _⟩
   simp -implicitDefEqProofs only [go_sem, r2, r3, r8, ldc_get g8, ldc_get G3, ldc_get G2, eq_false d40, o4, o5, c4, c5, o6, o7, o8, o9]
   refine (has_pc (frS.ext e3) (by omega)).use ?_
   by_cases hh : 0 ≤ p.1 ∧ p.1 ≤ (m.flash.sec.length : Int) - 1
   rotate_left
   ·rw [if_pos (.inr hh)]
    simp -implicitDefEqProofs only [go_sem, hh, o4, o5, c4, c5, o6, o7, o8, o9]
    exact ⟨E3, Own.nil _ _ _⟩
   rw [if_neg (by rintro (h | h); exact d40 h; exact h hh)]
   have b83 : (b8 = b3) = False := eq_false fun e => by rw [e, g3] at n8; cases n8
   have b38 : (b3 = b8) = False := eq_false fun e => (of_eq_false b83) e.symm
   simp -implicitDefEqProofs only [go_sem, hh, r2, r3, r8, ldc_get g8, ldc_get G3, ldc_get G2, stc_get G3, hb3', hne', b83, b38, wrap_i64 (show -(9223372036854775808 : Int) ≤ (s.done + 1) by omega) (show (s.done + 1) < 9223372036854775808 by omega), o4, o5, c4, c5, o6, o7, o8, o9]
   have ET : Ext h (h3.set b3 ⟨[i64 s.phase, i64 s.tries, i64 s.need, i64 s.stash, i64 (s.done + 1), str s.digest, uh, um], 8⟩) := E3.set' n3 _
   generalize hH : h3.set b3 ⟨[i64 s.phase, i64 s.tries, i64 s.need, i64 s.stash, i64 (s.done + 1), str s.digest, uh, um], 8⟩ = hT at ET ⊢
   have sv : ∀ {hX : H}, Ext hT hX → AC Tryz.prog 146 [.agg #[i64 m.blocks, vs, vd], .agg #[i64 s.phase, i64 s.tries, i64 s.need, i64 s.stash, i64 (s.done + 1), str s.digest, uh, um]] hX fun r h' => Ext hX h' ∧ Own hX h' r 3 ((saveActs m { s with done := s.done + 1 }).map UAct.cells) := fun e =>
    save_ac (s := { s with done := s.done + 1 }) (hv0.ext (ET.trans e)) hf ⟨uh, um, rfl, sh.ext (ET.trans e), sm.ext (ET.trans e)⟩ (ok_more hok p5 d40)
   have fin : ∀ {v' : Value} {h'' : H}, Ext hT h'' → Own hT h'' v' 3 (([⟨false, p.1, p.2⟩, ⟨true, 0, []⟩] : List UAct).map UAct.cells ++ (saveActs m { s with done := s.done + 1 }).map UAct.cells) → Ext h h'' ∧ Own h h'' v' 3 ((([⟨false, p.1, p.2⟩, ⟨true, 0, []⟩] : List UAct) ++ saveActs m { s with done := s.done + 1 }).map UAct.cells) := fun e o => ⟨ET.trans e, by rw [List.map_append]; exact o.back ET⟩
   have s2 := saveActs_len m { s with done := s.done + 1 }
   refine ⟨?_, ?_⟩
   ·intro b9 hb9 n9
    have e9 := (Ext.refl hT).set n9 ⟨[.bool false, i64 p.1, str p.2, .bool true, i64 0, str []], 6⟩
    refine ⟨e9.2, ?_⟩
    simp -implicitDefEqProofs only [go_sem, o4, o5, c4, c5, o6, o7, o8, o9]
    refine AC_of (sv e9) ?_
    rintro v6 h6 - ⟨e6, o6'⟩
    refine ⟨(e9.trans e6).2, ?_⟩
    simp -implicitDefEqProofs only [go_sem, o6'.sl.src (act_wid _) (by decide), o4, o5, c4, c5, o6, o7, o8, o9]
    refine appW_own (new := (saveActs m { s with done := s.done + 1 }).map UAct.cells) (e9.trans e6) ((own_acts [⟨false, p.1, p.2⟩, ⟨true, 0, []⟩] n9 hb9).ext e6) rfl (act_wid _) (acts_one _) (by simp only [List.length_map, List.length_cons, List.length_nil]; omega) ?_
    intro v' h'' e7 o7' _
    simp -implicitDefEqProofs only [go_sem, o7'.sl.vcl, o4, o5, c4, c5, o6, o7, o8, o9]
    exact fin e7 o7'
   ·refine AC_of (sv (Ext.refl _)) ?_
    rintro v6 h6 - ⟨e6, o6'⟩
    refine ⟨e6.2, ?_⟩
    simp -implicitDefEqProofs only [go_sem, o4, o5, c4, c5, o6, o7, o8, o9]
    intro b9 hb9 n9
    refine ⟨(e6.set n9 _).2, ?_⟩
    simp -implicitDefEqProofs only [go_sem, (o6'.ext ((Ext.refl h6).set n9 ⟨[.bool false, i64 p.1, str p.2, .bool true, i64 0, str []], 6⟩)).sl.src (act_wid _) (by decide), o4, o5, c4, c5, o6, o7, o8, o9]
    refine appW_own (new := (saveActs m { s with done := s.done + 1 }).map UAct.cells) (e6.set n9 _) (own_acts [⟨false, p.1, p.2⟩, ⟨true, 0, []⟩] (e6.none n9) hb9) rfl (act_wid _) (acts_one _) (by simp only [List.length_map, List.length_cons, List.length_nil]; omega) ?_
    intro v' h'' e7 o7' _
    simp -implicitDefEqProofs only [go_sem, o7'.sl.vcl, o4, o5, c4, c5, o6, o7, o8, o9]
    exact fin e7 o7'
 rw [if_neg p5]
 simp -implicitDefEqProofs only [go_sem, q2, q3, ldc_get g2, ldc_get g3, p2, p3, p4, p5, o4, o5, c4, c5, o6, o7, o8, o9]
 exact ⟨E0, Own.nil _ _ _⟩
end Go.Proofs.YthjbhdmjfakfaaaGreatDoor