/- A helper of this seat's claims (contracts of the functions): what it shows is shown for every input that its statements name, on no other condition. -/
import Derived.Test.YthjbhdmjfakfaaaGreatDoorC14b
import Derived.Test.YthjbhdmjfakfaaaGreatDoorC14n
import Derived.Test.YthjbhdmjfakfaaaGreatDoorCWt
import Derived.Test.YthjbhdmjfakfaaaGreatDoorC05
import Derived.Test.YthjbhdmjfakfaaaGreatDoorMC13b
import Derived.Test.YthjbhdmjfakfaaaGreatDoorC06c
import Derived.Test.YthjbhdmjfakfaaaGreatDoorKD
set_option linter.unusedVariables false
set_option linter.unusedSimpArgs false
set_option maxRecDepth 100000
namespace Go.Proofs.YthjbhdmjfakfaaaGreatDoor
open Go.KH

/-! ## A machine that is started -/
theorem saveActs_ok {m : UMach} {s : UState} (hf : machFit m) (hok : stateOk s) : ∀ a ∈ saveActs m s, actOk m.flash.sec.length a := metaActs_ok (mach_two hf) (by have := stateB_46 hok; omega)
theorem noteR_len {t : List UInt8} {n : Int} {p : Int × List UInt8} (h : noteR t n = some p) : p.2.length = 8 := by
  unfold noteR at h
  split at h
  · simp only at h
    split at h
    · rename_i hc
      simp only [Option.some.injEq] at h
      rw [← h]
      simp only
      exact hc.2.2.2.2.2
    · cases h
  · cases h
theorem sync_ok (n : Nat) : actOk n ⟨true, 0, []⟩ := fun h => by cases h
theorem bootActs_ok {m : UMach} {s : UState} (hf : machFit m) (hok : stateOk s) : ∀ a ∈ bootActs m s, actOk m.flash.sec.length a := by
  have h27 := hf.2.2
  have hb := hf.1
  have hL := (stateOk_log hok).2.2.2
  intro a ha
  unfold bootActs at ha
  split at ha
  · have hw : ∀ a ∈ wipes m (s.mine.drop (loadAt m s)), actOk m.flash.sec.length a := fun a ha => by
      unfold wipes at ha
      obtain ⟨x, hx, rfl⟩ := List.mem_map.1 ha
      have := hL x (List.mem_of_mem_drop (List.mem_filter.1 hx).1)
      exact fun _ => ⟨by unfold wipe; simp only; omega, by unfold wipe; simp⟩
    unfold loadActs syncs at ha
    split at ha
    · rcases List.mem_append.1 ha with ha | ha
      · exact hw a ha
      · rw [List.mem_singleton.1 ha]; exact sync_ok _
    · exact hw a ha
  · split at ha
    · rename_i p3
      exact saveActs_ok hf (ok_retry hok p3) a ha
    · split at ha
      · rename_i p4
        split at ha
        · exact saveActs_ok hf (ok_idle hok) a ha
        · rename_i ht
          exact saveActs_ok hf (ok_less hok p4 ht) a ha
      · split at ha
        · rename_i p5
          unfold noteActs at ha
          split at ha
          · rename_i p hp
            split at ha
            · cases ha
            · rename_i hc
              have d40 : ¬ s.done = 40 := fun h => hc (.inl h)
              have hh : hasAt m p.1 := Classical.byContradiction fun h => hc (.inr h)
              rcases List.mem_append.1 ha with ha | ha
              · rcases List.mem_cons.1 ha with rfl | ha
                · have := noteR_len hp
                  unfold hasAt at hh
                  exact fun _ => ⟨by simp only; omega, by simp only; omega⟩
                · rw [List.mem_singleton.1 ha]; exact sync_ok _
              · exact saveActs_ok hf (ok_more hok p5 d40) a ha
          · cases ha
        · cases ha
end Go.Proofs.YthjbhdmjfakfaaaGreatDoor

set_option linter.unusedVariables false
set_option linter.unusedSimpArgs false
set_option maxRecDepth 100000
namespace Go.Proofs.YthjbhdmjfakfaaaGreatDoor
open Go.KH

/-! ## Flash memories whose power fails -/
end Go.Proofs.YthjbhdmjfakfaaaGreatDoor

set_option linter.unusedVariables false
set_option linter.unusedSimpArgs false
set_option maxRecDepth 100000
namespace Go.Proofs.YthjbhdmjfakfaaaGreatDoor
open Go.KH

/-! ## A start that is cut -/
end Go.Proofs.YthjbhdmjfakfaaaGreatDoor

set_option linter.unusedVariables false
set_option linter.unusedSimpArgs false
set_option maxRecDepth 100000
namespace Go.Proofs.YthjbhdmjfakfaaaGreatDoor
open Go.KH

/-! ## What a step makes -/
theorem bys_flat : ∀ l : List UInt8, (bys l).flatten = u8s l
  | [] => rfl
  | b :: l => by
    have := bys_flat l
    simp only [bys, u8s] at this
    simp only [bys, u8s, List.map_cons, List.flatten_cons, this]
    rfl
theorem bytesOf_u8s (l : List UInt8) : bytesOf (u8s l) = some l := by rw [← bys_flat, bytesOf_bys]
def b_impl_xored : C := (jo [q 4 (.mv (.c (str [])))]
 (jo [jm 7 0, ⟨(some 8), none, .s2b (.t 7)⟩, jm 5 8]
 (.seq (jo [jm 9 5, q 10 (.len (.t 9)), q 11 (.mv (.c (i64 0)))]
 (.block 0 (.loop (jo [jb 12 .lss 11 10]
 (.seq (.cond (.t 12) .skip (.exit 0))
 (.seq (.block 1 (jo [jm 13 11, jm 6 13]
 (.dops true (.tk (jm 14 5) (.tk (jm 15 6) (.tk (q 16 (.idx 1 (.t 14) (.t 15))) (.tk (jl 17 16) (.tk (jm 18 1) (.tk (jm 19 6) (.tk (q 20 (.sidx (.t 18) (.t 19))) (.tk (jb 21 .xor 17 20) (.tk (q 22 (.idx 1 (.t 14) (.t 15))) (.lt (js 1 22 21) .nil)))))))))))))
 (.ops [jk 23 .add 11 1, jm 11 23])))))))
 (jo [jm 24 5, q 25 (.b2s (.t 24)), jm 4 25]
 .ret))))
theorem w_impl_xored : Wk Tryz.prog 93 26 [.tmp 4] b_impl_xored := Wk.of mixedOrders Tryz.func93 (by kernel_rfl) (by kernel_rfl)

theorem xored_pc (h : H) {x y : List UInt8} (hx : x.length = 8) (hy : y.length = 8) : PC Tryz.prog 93 [str x, str y] h (str (xorB x y)) := by
  refine PC_of ?_
  refine w_impl_xored (by simp) ?_
  unfold b_impl_xored
  simp -implicitDefEqProofs only [go_sem]
  intro b8 hb8 n8 c hc
  simp -implicitDefEqProofs only [go_sem]
  refine loopW_of (fun m f h' => ∃ k, m + k = 8 ∧ Ext h h' ∧ h'.get b8 = some ⟨u8s (xorP x y k), c⟩ ∧ f 1 = str y ∧ f 5 = sl b8 0 8 c ∧ f 10 = i64 8 ∧ f 11 = i64 k) 8
    ⟨0, by simp, (Ext.refl _).set n8 _, by rw [xorP_0, H.set_get_same], by simp -implicitDefEqProofs only [go_sem], by rw [← hx]; simp -implicitDefEqProofs only [go_sem], by simp -implicitDefEqProofs only [go_sem]; rw [hx]; rfl, by simp -implicitDefEqProofs only [go_sem]; rfl⟩ ?_
  rintro m f h' ⟨k, hm, he, hg, f1, f5, f10, f11⟩
  have hb1 := he.1
  skip
  by_cases hk : k < 8
  · have hl := xorP_len hx hy (show k ≤ 8 by omega)
    have e1 := xorP_get hx hy hk
    have e2 : y[k]? = some (y[k]'(by omega)) := List.getElem?_eq_getElem _
    have e3 : ldc h' b8 (k * 1) 1 = some [.int .u8 ((x[k]'(by omega)).toNat : Int)] := by
      rw [ldc_get hg, if_pos (by simp [u8s, hl]; omega)]
      congr 1
      obtain ⟨h1, h2⟩ := List.getElem?_eq_some_iff.1 e1
      rw [Nat.mul_one, List.drop_eq_getElem_cons (by simpa [u8s] using h1)]
      simp [u8s, h2]
    have e4 : ∀ z : UInt8, stc h' b8 (k * 1) [.int .u8 (z.toNat : Int)] 1 = some (h'.set b8 ⟨u8s ((xorP x y k).set k z), c⟩) := by
      intro z
      rw [stc_get hg, if_pos ⟨rfl, by simp [u8s, hl]; omega, rfl⟩, u8s, Nat.mul_one, splice_set (fun b : UInt8 => (.int .u8 b.toNat : Value)) _ _ _ (by omega)]
      rfl
    have e5 := xor_u8 (x[k]'(by omega)) (y[k]'(by omega))
    simp -implicitDefEqProofs only [go_sem, hk, show ((k : Int) < 8) by omega, e3, e2, e5, e4, xorP_succ hx hy hk, wrap_i64 (show -(9223372036854775808 : Int) ≤ ((k : Int) + 1) by omega) (show ((k : Int) + 1) < 9223372036854775808 by omega), f1, f5, f10, f11, Int.ofNat_lt, Int.natCast_nonneg, hb8, hb1]
    exact ⟨m - 1, by omega, _, Ext.refl _, k + 1, by omega, he.set' n8 _, H.set_get_same _ _ _, rfl⟩
  · have e : k = 8 := by omega
    subst e
    rw [xorP_8 hx hy] at hg
    have hlb : (xorB x y).length = 8 := by rw [xorB_len (by omega), hx]
    have e6 : (u8s (xorB x y)).length = 8 := by simp [u8s, hlb]
    simp -implicitDefEqProofs only [go_sem, show ¬ (((8 : Nat) : Int) < 8) by omega, Nat.lt_irrefl, ldc_get hg, e6, take_len e6, bytesOf_u8s, f1, f5, f10, f11, Int.ofNat_lt, Int.natCast_nonneg, hb8, hb1]
    exact he
def b_spec_Xored : C := (jo [q 4 (.mv (.c (str [])))]
 (.seq (jo [jm 7 0, q 8 (.slen (.t 7)), jk 9 .neq 8 8, jm 10 9, qg 11 10 false (.mv (.t 1)), qg 12 10 false (.slen (.t 11)), qg 13 10 false (.bin .neq (.t 12) (.c (i64 8))), q 14 (.pick (.t 10) (.c (.bool true)) (.t 13))]
 (.cond (.t 14) (jo [q 4 (.mv (.c (str [])))]
 .ret) .skip))
 (jo [⟨(some 15), none, .mks 1 1 [(u8 0)] (.c (i64 8)) (.c (i64 8))⟩, jm 5 15]
 (.seq (jo [q 6 (.mv (.c (i64 0)))]
 (.block 0 (.loop (.seq (jo [jm 16 6, jk 17 .lss 16 8]
 (.cond (.t 17) .skip (.exit 0)))
 (.seq (.block 1 (.dops false (.tk (jm 20 5) (.tk (jm 21 6) (.tk (jm 22 0) (.tk (jm 23 6) (.tk (q 24 (.sidx (.t 22) (.t 23))) (.tk (jm 25 1) (.tk (jm 26 6) (.tk (q 27 (.sidx (.t 25) (.t 26))) (.tk (jb 28 .xor 24 27) (.tk (q 29 (.idx 1 (.t 20) (.t 21))) (.lt (js 1 29 28) .nil)))))))))))))
 (.ops [jm 18 6, jk 19 .add 18 1, jm 6 19]))))))
 (jo [jm 30 5, q 31 (.b2s (.t 30)), jm 4 31]
 .ret)))))
theorem w_spec_Xored : Wk Tryz.prog 190 32 [.tmp 4] b_spec_Xored := Wk.of mixedOrders Tryz.func190 (by kernel_rfl) (by kernel_rfl)

theorem specXored_pc (h : H) {x y : List UInt8} (hx : x.length = 8) (hy : y.length = 8) : PC Tryz.prog 190 [str x, str y] h (str (xorB x y)) := by
  refine PC_of ?_
  refine w_spec_Xored (by simp) ?_
  unfold b_spec_Xored
  simp -implicitDefEqProofs only [go_sem]
  simp -implicitDefEqProofs only [go_sem, show ((x.length : Int) = 8) by omega, show ((y.length : Int) = 8) by omega]
  refine Req.of (by decide) ?_
  simp -implicitDefEqProofs only [go_sem, Int.reduceToNat]
  intro b8 hb8 n8
  simp -implicitDefEqProofs only [go_sem]
  refine loopW_of (fun m f h' => ∃ k, m + k = 8 ∧ Ext h h' ∧ h'.get b8 = some ⟨u8s ((xorB x y).take k ++ List.replicate (8 - k) 0), 8⟩ ∧ f 0 = str x ∧ f 1 = str y ∧ f 5 = sl b8 0 8 8 ∧ f 6 = i64 k) 8
    ⟨0, by simp, (Ext.refl _).set n8 _, by rw [H.set_get_same]; rfl, by simp -implicitDefEqProofs only [go_sem], by simp -implicitDefEqProofs only [go_sem], by simp -implicitDefEqProofs only [go_sem], by simp -implicitDefEqProofs only [go_sem]; rfl⟩ ?_
  rintro m f h' ⟨k, hm, he, hg, f0, f1, f5, f6⟩
  have hb1 := he.1
  have hlb : (xorB x y).length = 8 := by rw [xorB_len (by omega), hx]
  skip
  by_cases hk : k < 8
  · have hl : ((xorB x y).take k ++ List.replicate (8 - k) (0 : UInt8)).length = 8 := by simp [hlb]; omega
    have e1 : x[k]? = some (x[k]'(by omega)) := List.getElem?_eq_getElem _
    have e2 : y[k]? = some (y[k]'(by omega)) := List.getElem?_eq_getElem _
    have e7 : ((xorB x y).take k ++ List.replicate (8 - k) (0 : UInt8)).set k (x[k]'(by omega) ^^^ y[k]'(by omega)) = (xorB x y).take (k + 1) ++ List.replicate (8 - (k + 1)) 0 := by
      rw [List.set_append_right _ _ (by simp; omega), List.length_take, hlb, show k - min k 8 = 0 by omega, show 8 - k = (8 - (k + 1)) + 1 by omega, List.replicate_succ, List.set_cons_zero, List.take_succ_eq_append_getElem (by omega), List.append_assoc]
      simp [xorB]
    have e4 : ∀ z : UInt8, stc h' b8 (k * 1) [.int .u8 (z.toNat : Int)] 1 = some (h'.set b8 ⟨u8s (((xorB x y).take k ++ List.replicate (8 - k) (0 : UInt8)).set k z), 8⟩) := by
      intro z
      rw [stc_get hg, if_pos ⟨rfl, by simp only [u8s, List.length_map, hl]; omega, rfl⟩, u8s, Nat.mul_one, splice_set (fun b : UInt8 => (.int .u8 b.toNat : Value)) _ _ _ (by omega)]
      rfl
    have e5 := xor_u8 (x[k]'(by omega)) (y[k]'(by omega))
    simp -implicitDefEqProofs only [go_sem, hk, show ((k : Int) < 8) by omega, e1, e2, e5, e4, e7, wrap_i64 (show -(9223372036854775808 : Int) ≤ ((k : Int) + 1) by omega) (show ((k : Int) + 1) < 9223372036854775808 by omega), f0, f1, f5, f6, Int.ofNat_lt, Int.natCast_nonneg, hb8, hb1]
    exact ⟨m - 1, by omega, _, Ext.refl _, k + 1, by omega, he.set' n8 _, H.set_get_same _ _ _, rfl⟩
  · have e : k = 8 := by omega
    subst e
    have e7 : (xorB x y).take 8 ++ List.replicate (8 - 8) (0 : UInt8) = xorB x y := by rw [List.take_of_length_le (by omega)]; simp
    rw [e7] at hg
    have e6 : (u8s (xorB x y)).length = 8 := by simp [u8s, hlb]
    simp -implicitDefEqProofs only [go_sem, show ¬ (((8 : Nat) : Int) < 8) by omega, Nat.lt_irrefl, ldc_get hg, e6, take_len e6, bytesOf_u8s, f0, f1, f5, f6, Int.ofNat_lt, Int.natCast_nonneg, hb8, hb1]
    exact he
def b_spec_l07Zero : C := (jo [q 0 (.mv (.c (str [])))]
 (jo [⟨(some 1), none, .mks 1 1 [(u8 0)] (.c (i64 8)) (.c (i64 8))⟩, q 2 (.b2s (.t 1)), jm 0 2]
 .ret))
theorem w_spec_l07Zero : Wk Tryz.prog 188 3 [.tmp 0] b_spec_l07Zero := Wk.of mixedOrders Tryz.func188 (by kernel_rfl) (by kernel_rfl)

theorem l07Zero_pc (h : H) : PC Tryz.prog 188 [] h (str zero8) := by
  refine PC_of ?_
  refine w_spec_l07Zero (by simp) ?_
  unfold b_spec_l07Zero
  simp -implicitDefEqProofs only [go_sem]
  refine Req.of (by decide) ?_
  simp -implicitDefEqProofs only [go_sem, Int.reduceToNat]
  intro b8 hb8 n8
  have e6 : (List.replicate 8 [Value.int .u8 0]).flatten = u8s zero8 := rfl
  have e7 : (u8s zero8).length = 8 := rfl
  simp -implicitDefEqProofs only [go_sem, e6, e7, take_len e7, bytesOf_u8s]
  exact (Ext.refl _).set n8 _
/-- A step whose block can be made. -/
def makeOk (s : UStep) (src : List UInt8) : Prop := (1 ≤ s.kind ∧ s.kind ≤ 4) ∧ (s.kind = 4 → s.data.length = 8 ∧ src.length = 8)
def b_impl_madeBy : C := (jo [⟨(some 2), none, .box (.t 0)⟩, q 4 (.mv (.c (str [])))]
 (.seq (jo [jf 5 0 2, jl 6 5]
 (.block 0 (jo [jk 8 .eql 6 1, jm 7 8]
 (.cond (.t 7) (jo [q 4 (.mv (.c (str [0, 0, 0, 0, 0, 0, 0, 0])))]
 .ret) (jo [jk 10 .eql 6 2, jm 9 10]
 (.cond (.t 9) (jo [jf 11 3 2, jl 12 11, jm 4 12]
 .ret) (jo [jk 14 .eql 6 3, jm 13 14]
 (.cond (.t 13) (jo [jm 15 1, jm 4 15]
 .ret) .skip))))))))
 (jo [jm 16 1, jf 17 3 2, jl 18 17, jc 19 93 [(.t 16), (.t 18)], jm 4 19]
 .ret)))
theorem w_impl_madeBy : Wk Tryz.prog 126 20 [.tmp 4] b_impl_madeBy := Wk.of mixedOrders Tryz.func126 (by kernel_rfl) (by kernel_rfl)

theorem madeBy_pc (h : H) (s : UStep) {src : List UInt8} (hk : makeOk s src) : PC Tryz.prog 126 [.agg s.cells.toArray, str src] h (str (makeB s src)) := by
  obtain ⟨kind, dst, sr, data⟩ := s
  obtain ⟨⟨k1, k2⟩, k4⟩ := hk
  simp only at k1 k2 k4
  refine PC_of ?_
  unfold makeB
  refine w_impl_madeBy (by simp) ?_
  unfold b_impl_madeBy
  simp -implicitDefEqProofs only [go_sem]
  intro b2 hb_b2 n_b2
  simp -implicitDefEqProofs only [go_sem, hb_b2]
  by_cases h1 : kind = 1
  · subst h1
    simp -implicitDefEqProofs only [go_sem, hb_b2]
    exact ⟨((Ext.refl _).set' n_b2 _), rfl⟩
  by_cases h2 : kind = 2
  · subst h2
    simp -implicitDefEqProofs only [go_sem, hb_b2]
    exact ((Ext.refl _).set' n_b2 _)
  by_cases h3 : kind = 3
  · subst h3
    simp -implicitDefEqProofs only [go_sem, hb_b2]
    exact ((Ext.refl _).set' n_b2 _)
  have h4 : kind = 4 := by omega
  subst h4
  simp -implicitDefEqProofs only [go_sem, hb_b2]
  refine (xored_pc _ (k4 rfl).2 (k4 rfl).1).use ?_
  simp -implicitDefEqProofs only [go_sem, hb_b2]
  exact ((Ext.refl _).set' n_b2 _)
end Go.Proofs.YthjbhdmjfakfaaaGreatDoor
