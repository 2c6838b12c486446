/- A helper of this seat's claims (contracts of the functions): what it shows is shown for every input that its statements name, on no other condition. -/
import Derived.Test.YthjbhdmjfakfaaaGreatDoorMCZf
import Derived.Test.YthjbhdmjfakfaaaGreatDoorMC08
import Derived.Test.YthjbhdmjfakfaaaGreatDoorKD
import Derived.Test.YthjbhdmjfakfaaaGreatDoorMC13b
import Derived.Test.YthjbhdmjfakfaaaGreatDoorMCD
import Derived.Test.YthjbhdmjfakfaaaGreatDoorMC06
import Derived.Test.YthjbhdmjfakfaaaGreatDoorC10s
import Derived.Test.YthjbhdmjfakfaaaGreatDoorMC0
set_option linter.unusedVariables false
set_option linter.unusedSimpArgs false
set_option maxRecDepth 100000
namespace Go.Proofs.YthjbhdmjfakfaaaGreatDoor
open Go.KH

end Go.Proofs.YthjbhdmjfakfaaaGreatDoor
namespace Go.Proofs.YthjbhdmjfakfaaaGreatDoor
open Go.KH

def pkg0 : UPkg := ⟨0, [], []⟩
abbrev spPo (o : UPkg × Int) : List Sp := [.v (i64 o.1.blocks), .v (str o.1.digest), .s 4 (o.1.steps.map UStep.cells), .v (i64 o.2)]
theorem po_f {h0 h : H} {o : UPkg × Int} {cs : List Value} : RepF h0 h (spPo o) cs ↔ ∃ v, cs = [i64 o.1.blocks, str o.1.digest, v, i64 o.2] ∧ Fre h0 h v 4 (o.1.steps.map UStep.cells) := by
 simp only [spPo, RepF_i, RepF_str, RepF_s, RepF_nil]
 constructor
 ·rintro ⟨_, rfl, _, rfl, v, _, rfl, h1, d, _, rfl, rfl⟩; exact ⟨v, rfl, h1⟩
 ·rintro ⟨v, rfl, h1⟩; exact ⟨_, rfl, _, rfl, v, _, rfl, h1, fun d hd => by simp only [List.mem_cons, List.not_mem_nil, or_false] at hd; subst hd; exact Dj.nb rfl, _, rfl, rfl⟩
theorem po_none {h0 h : H} {c : Int} : RepF h0 h (spPo (pkg0, c)) [i64 0, str [], nils, i64 c] := po_f.2 ⟨nils, rfl, .inl ⟨none, 0, rfl, rfl⟩⟩
def b_spec_l08Ill : C := (jo [⟨(some 2), none, .alloc [(i64 0), (str []), nils, (i64 0)]⟩]
 (jo [jm 3 0, q 4 (.build [(i64 0), (str []), nils, (i64 0)] [(3, 1, (.t 3))]), js 4 2 4]
 .ret))
theorem w_spec_l08Ill : Wk Tryz.prog 51 5 [.cell 2 true 4] b_spec_l08Ill := Wk.of mixedOrders Tryz.func51 (by kernel_rfl) (by kernel_rfl)

theorem l08Ill_pc (h : H) (c : Int) : PC Tryz.prog 51 [i64 c] h (.agg #[i64 0, str [], nils, i64 c]) := by
 refine PC_of ?_
 refine w_spec_l08Ill (by simp) ?_
 unfold b_spec_l08Ill
 simp -implicitDefEqProofs only [go_sem]
 intro b2 hb_b2 n_b2
 simp -implicitDefEqProofs only [go_sem, hb_b2]
 first | with_reducible exact ((Ext.refl _).set' n_b2 _) | ((with_reducible refine ⟨((Ext.refl _).set' n_b2 _), ?_⟩); first | rfl | (trivial))
end Go.Proofs.YthjbhdmjfakfaaaGreatDoor
namespace Go.Proofs.YthjbhdmjfakfaaaGreatDoor
open Go.KH

end Go.Proofs.YthjbhdmjfakfaaaGreatDoor
namespace Go.Proofs.YthjbhdmjfakfaaaGreatDoor
open Go.KH

def labS : UStep := ⟨5, 0, 1, []⟩
def pkgSteps (old fresh : List (List UInt8)) : List UStep := stepsTo old fresh old.length ++ [labS]
def packageOut (old fresh : List (List UInt8)) : UPkg × Int :=
 if 400 < old.length ∨ 400 < fresh.length then (pkg0, 2) else if ¬ (imageOk old ∧ imageOk fresh ∧ old.length = fresh.length) then (pkg0, 1)
 else (⟨old.length, shaL fresh.flatten, pkgSteps old fresh⟩, 0)
theorem packageOut_small (old fresh : List (List UInt8)) : (packageOut old fresh).1.steps.length ≤ 400 := by
 unfold packageOut
 split
 ·simp [pkg0]
 ·split
  ·simp [pkg0]
  ·rename_i h1 h2
   have := stepsTo_len old fresh old.length
   have h3 : imageOk old := Classical.byContradiction fun h => h2 fun q => h q.1
   have := h3.1
   simp [pkgSteps]; omega
def b_spec_PackageOf : C := (jo [⟨(some 4), none, .alloc [(i64 0), (str []), nils, (i64 0)]⟩]
 (.seq (jo [jm 6 0, q 7 (.len (.t 6)), jk 8 .gtr 7 400, jm 9 8, qg 10 9 false (.mv (.t 1)), qg 11 9 false (.len (.t 10)), qg 12 9 false (.bin .gtr (.t 11) (.c (i64 400))), q 13 (.pick (.t 9) (.c (.bool true)) (.t 12))]
 (.cond (.t 13) (jo [jc 14 51 [(.c (i64 2))], js 4 4 14]
 .ret) .skip))
 (.seq (jo [jm 15 0, jc 16 52 [(.t 15)], q 17 (.un .not (.t 16)), jm 18 17, qg 19 18 false (.mv (.t 1)), jcg 20 18 false 52 [(.t 19)], qg 21 18 false (.un .not (.t 20)), q 22 (.pick (.t 18) (.c (.bool true)) (.t 21)), jm 23 22, qg 24 23 false (.mv (.t 0)), qg 25 23 false (.len (.t 24)), qg 26 23 false (.mv (.t 1)), qg 27 23 false (.len (.t 26)), qg 28 23 false (.bin .neq (.t 25) (.t 27)), q 29 (.pick (.t 23) (.c (.bool true)) (.t 28))]
 (.cond (.t 29) (jo [jc 30 51 [(.c (i64 1))], js 4 4 30]
 .ret) .skip))
 (jo [jm 31 0, jm 32 1, jc 33 53 [(.t 31), (.t 32)], q 34 (.build [(i64 0), (i64 0), (i64 0), (str [])] [(0, 1, (.c (i64 5))), (2, 1, (.c (i64 1)))]), ⟨(some 35), none, .bsl 1 [(i64 0), (i64 0), (i64 0), (str [])] [(0, 4, (.t 34))]⟩, ⟨(some 36), none, .app 4 40 (.t 33) (.t 35)⟩, jm 5 36]
 (jo [jm 37 0, q 38 (.len (.t 37)), jm 39 1, jc 40 54 [(.t 39)], jm 41 5, q 42 (.build [(i64 0), (str []), nils] [(0, 1, (.t 38)), (1, 1, (.t 40)), (2, 1, (.t 41))]), q 43 (.build [(i64 0), (str []), nils, (i64 0)] [(0, 3, (.t 42))]), js 4 4 43]
 .ret)))))
theorem w_spec_PackageOf : Wk Tryz.prog 14 44 [.cell 4 true 4] b_spec_PackageOf := Wk.of mixedOrders Tryz.func14 (by kernel_rfl) (by kernel_rfl)

set_option maxHeartbeats 3200000 in
theorem specPackageOf_ac {h : H} {v u : Value} {old fresh : List (List UInt8)} (hv : Sl h v 1 (strs old)) (hu : Sl h u 1 (strs fresh)) (hn : old.length ≤ 1048576) (hm : fresh.length ≤ 1048576) : AC Tryz.prog 14 [v, u] h fun r h' => Ext h h' ∧ ∃ cs, r = .agg cs.toArray ∧ RepF h h' (spPo (packageOut old fresh)) cs := by
 obtain ⟨a, c, rfl⟩ := hv.shape
 obtain ⟨a2, c2, rfl⟩ := hu.shape
 have hl1 : (strs old).length = old.length := by simp
 have hl2 : (strs fresh).length = fresh.length := by simp
 rw [hl1] at hv
 rw [hl2] at hu
 unfold packageOut
 skip
 refine w_spec_PackageOf (by simp) ?_
 unfold b_spec_PackageOf
 simp -implicitDefEqProofs only [go_sem, hl1, hl2]
 intro b4 hb_b4 n_b4
 simp -implicitDefEqProofs only [go_sem, hl1, hl2, hb_b4]
 have E4 := (Ext.refl h).set n_b4 ⟨[i64 0, str [], nils, i64 0], 4⟩
 have G4 : (h.set b4 ⟨[i64 0, str [], nils, i64 0], 4⟩).get b4 = some ⟨[i64 0, str [], nils, i64 0], 4⟩ := H.set_get_same _ _ _
 have B4 : (h.set b4 ⟨[i64 0, str [], nils, i64 0], 4⟩).base ≤ b4 := by rw [H.set_base]; exact hb_b4
 by_cases h1 : 400 < old.length
 ·simp -implicitDefEqProofs only [go_sem, show (400 : Int) < (old.length : Int) by omega, hl1, hl2, hb_b4]
  refine (l08Ill_pc _ _).use ?_
  simp -implicitDefEqProofs only [go_sem, hl1, hl2, hb_b4]
  exact ⟨(Ext.refl _).set n_b4 _, _, rfl, by rw [if_pos (.inl h1)]; exact po_none⟩
 by_cases h2 : 400 < fresh.length
 ·simp -implicitDefEqProofs only [go_sem, show ¬ ((400 : Int) < (old.length : Int)) by omega, show (400 : Int) < (fresh.length : Int) by omega, hl1, hl2, hb_b4]
  refine (l08Ill_pc _ _).use ?_
  simp -implicitDefEqProofs only [go_sem, hl1, hl2, hb_b4]
  exact ⟨(Ext.refl _).set n_b4 _, _, rfl, by rw [if_pos (.inr h2)]; exact po_none⟩
 rw [if_neg (by omega)]
 simp -implicitDefEqProofs only [go_sem, show ¬ ((400 : Int) < (old.length : Int)) by omega, show ¬ ((400 : Int) < (fresh.length : Int)) by omega, hl1, hl2, hb_b4]
 refine (specImageRight_pc (hv.ext E4) (by omega)).use ?_
 by_cases h3 : imageOk old
 rotate_left
 ·simp -implicitDefEqProofs only [go_sem, decide_eq_false h3, hl1, hl2, hb_b4]
  refine (l08Ill_pc _ _).use ?_
  simp -implicitDefEqProofs only [go_sem, hl1, hl2, hb_b4]
  exact ⟨(Ext.refl _).set n_b4 _, _, rfl, by rw [if_pos (fun q => h3 q.1)]; exact po_none⟩
 simp -implicitDefEqProofs only [go_sem, decide_eq_true h3, hl1, hl2, hb_b4]
 refine (specImageRight_pc (hu.ext E4) (by omega)).use ?_
 by_cases h4 : imageOk fresh
 rotate_left
 ·simp -implicitDefEqProofs only [go_sem, decide_eq_false h4, hl1, hl2, hb_b4]
  refine (l08Ill_pc _ _).use ?_
  simp -implicitDefEqProofs only [go_sem, hl1, hl2, hb_b4]
  exact ⟨(Ext.refl _).set n_b4 _, _, rfl, by rw [if_pos (fun q => h4 q.2.1)]; exact po_none⟩
 simp -implicitDefEqProofs only [go_sem, decide_eq_true h4, hl1, hl2, hb_b4]
 by_cases h5 : old.length = fresh.length
 rotate_left
 ·simp -implicitDefEqProofs only [go_sem, show ¬ ((old.length : Int) = (fresh.length : Int)) by omega, hl1, hl2, hb_b4]
  refine (l08Ill_pc _ _).use ?_
  simp -implicitDefEqProofs only [go_sem, hl1, hl2, hb_b4]
  exact ⟨(Ext.refl _).set n_b4 _, _, rfl, by rw [if_pos (fun q => h5 q.2.2)]; exact po_none⟩
 rw [if_neg (fun q => q ⟨h3, h4, h5⟩)]
 generalize hH : h.set b4 ⟨[i64 0, str [], nils, i64 0], 4⟩ = hh at *
 have i1 := h3.1
 simp -implicitDefEqProofs only [go_sem, show ((old.length : Int) = (fresh.length : Int)) by omega, hl1, hl2, hb_b4]
 refine AC_of (specStepsFor_ac (hv.ext E4) (hu.ext E4) h3 h4 h5) ?_
 rintro vr y1 - ⟨o1, e1⟩
 obtain ⟨aw, cw, rfl⟩ := o1.shape
 have hsl := stepsTo_len old fresh old.length
 have hsw : ((stepsTo old fresh old.length).map UStep.cells).length = (stepsTo old fresh old.length).length := by simp
 rw [hsw] at o1
 simp -implicitDefEqProofs only [go_sem, hsw, hl1, hl2, hb_b4]
 intro bx hbx nx
 simp -implicitDefEqProofs only [go_sem, hsw, hl1, hl2, hb_b4]
 refine appW_own (new := [labS.cells]) (e1.set nx _) (o1.ext ((Ext.refl _).set nx _)) rfl (by intro r hr; simp at hr; subst hr; rfl) rfl (by rw [hsw]; simp; omega) ?_
 intro v9 h9 e9 o9 k9
 have hps : (stepsTo old fresh old.length).map UStep.cells ++ [labS.cells] = (pkgSteps old fresh).map UStep.cells := by rw [pkgSteps, List.map_append]; rfl
 rw [hps] at o9
 have G9 : h9.get b4 = some ⟨[i64 0, str [], nils, i64 0], 4⟩ := by
  refine k9 b4 _ ?_ fun b k' m' e => ?_
  ·rw [H.set_get_ne _ _ _ _ (fun e => by subst e; rw [e1.2.g _ _ G4] at nx; cases nx)]; exact e1.2.g _ _ G4
  ·rintro rfl
   have := (o1.ob_new (b := b4) (by rw [e]; rfl)).1
   rw [G4] at this; cases this
 have B9 : h9.base ≤ b4 := by rw [e9.1]; exact B4
 obtain ⟨a9, c9, rfl⟩ := o9.shape
 simp -implicitDefEqProofs only [go_sem, hl1, hl2, hb_b4]
 refine (specImageDigest_pc ((hu.ext E4).ext e9) h4).use ?_
 simp -implicitDefEqProofs only [go_sem, stc_get G9, B9, hl1, hl2, hb_b4]
 exact ⟨(E4.trans e9).set' n_b4 _, _, rfl, po_f.2 ⟨_, rfl, (o9.fre.set G4 _).back E4⟩⟩
end Go.Proofs.YthjbhdmjfakfaaaGreatDoor
namespace Go.Proofs.YthjbhdmjfakfaaaGreatDoor
open Go.KH

def okd (x : UStep) : Prop := x.ok ∧ x.data.length ≤ 9
def b_spec_l01Src_l06Data : C := (jo [q 2 (.mv (.c (str [])))]
 (jo [jm 3 0, ⟨(some 4), none, .bsl 5 [(str []), (str []), (str []), (str []), (str [])] [(0, 1, (.c (str [97, 97, 97, 97, 97, 97, 97, 97]))), (1, 1, (.c (str [97, 98, 97, 98, 97, 98, 97, 98]))), (2, 1, (.c (str [104, 101, 108, 108, 111, 32, 32, 33]))), (3, 1, (.c (str [0, 0, 0, 0, 0, 0, 0, 0]))), (4, 1, (.c (str [0, 0, 0, 1, 0, 0, 0, 0])))]⟩, jc 5 171 [(.t 3), (.t 4)], jm 2 5]
 .ret))
theorem w_spec_l01Src_l06Data : Wk Tryz.prog 83 6 [.tmp 2] b_spec_l01Src_l06Data := Wk.of mixedOrders Tryz.func83 (by kernel_rfl) (by kernel_rfl)

theorem src_data {h : H} {b : Nat} {v : Value} {l : List UInt8} (hs : Src v l h b) : AC Tryz.prog 83 [ptr b 0] h fun r h' => (∃ s : List UInt8, s.length = 8 ∧ r = str s) ∧ Drew v l b h h' := by
 refine w_spec_l01Src_l06Data (by simp) ?_
 unfold b_spec_l01Src_l06Data
 simp -implicitDefEqProofs only [go_sem]
 intro b4 hb4 n4
 simp -implicitDefEqProofs only [go_sem]
 have e4 := (Ext.refl h).set n4 ⟨[str [97, 97, 97, 97, 97, 97, 97, 97], str [97, 98, 97, 98, 97, 98, 97, 98], str [104, 101, 108, 108, 111, 32, 32, 33], str [0, 0, 0, 0, 0, 0, 0, 0], str [0, 0, 0, 1, 0, 0, 0, 0]], 5⟩
 have hsl : Sl (h.set b4 ⟨[str [97, 97, 97, 97, 97, 97, 97, 97], str [97, 98, 97, 98, 97, 98, 97, 98], str [104, 101, 108, 108, 111, 32, 32, 33], str [0, 0, 0, 0, 0, 0, 0, 0], str [0, 0, 0, 1, 0, 0, 0, 0]], 5⟩) (sl b4 0 5 5) 1 (strs [[97, 97, 97, 97, 97, 97, 97, 97], [97, 98, 97, 98, 97, 98, 97, 98], [104, 101, 108, 108, 111, 32, 32, 33], [0, 0, 0, 0, 0, 0, 0, 0], [0, 0, 0, 1, 0, 0, 0, 0]]) :=
  Sl.of_get (c := 5) (z := 5) (rows := strs [[97, 97, 97, 97, 97, 97, 97, 97], [97, 98, 97, 98, 97, 98, 97, 98], [104, 101, 108, 108, 111, 32, 32, 33], [0, 0, 0, 0, 0, 0, 0, 0], [0, 0, 0, 1, 0, 0, 0, 0]]) (H.set_get_same _ _ _) (by decide) (strs_wid _)
 refine AC_of (src_pick (hs.ext e4) hsl (by decide) (fun c hc e => by simp only [blk, Option.some.injEq] at hc; subst hc; subst e; exact hs.known n4)) ?_
 rintro _ h1 - ⟨⟨s, hm, rfl⟩, d⟩
 simp -implicitDefEqProofs only [go_sem]
 exact ⟨⟨s, by revert s; decide, rfl⟩, (Drew.of_ext hs e4).trans d⟩
theorem in64_small {n : Int} (h : -1000000000 ≤ n ∧ n ≤ 1000000000) : in64 n := by unfold in64; omega
def b_spec_l01Source : C := (jo [q 2 (.mv (.c (.pointer none)))]
 (jo [jm 5 0, q 6 (.build [nils, (i64 0), (.int .u64 0), (i64 0)] [(0, 1, (.t 5)), (2, 1, (.c (.int .u64 88172645463325252)))]), ⟨(some 7), none, .box (.t 6)⟩, jm 3 7]
 (.seq (jo [q 4 (.mv (.c (i64 0)))]
 (.block 0 (.loop (.seq (jo [jm 8 4, jm 9 0, q 10 (.len (.t 9)), jb 11 .lss 8 10, jm 12 11, qg 13 12 true (.mv (.t 4)), qg 14 12 true (.bin .lss (.t 13) (.c (i64 64))), q 15 (.pick (.t 12) (.t 14) (.c (.bool false)))]
 (.cond (.t 15) .skip (.exit 0)))
 (.seq (.block 1 (.dops true (.tk (jm 18 3) (.tk (jm 19 3) (.tk (q 20 (.nck (.t 19))) (.tk (jf 21 2 20) (.tk (jl 22 21) (.tk (jm 23 0) (.tk (jm 24 4) (.tk (q 25 (.idx 1 (.t 23) (.t 24))) (.tk (jl 26 25) (.tk (q 27 (.cv .u64 (.t 26))) (.tk (jb 28 .xor 22 27) (.tk (q 29 (.bin .mul (.t 28) (.c (.int .u64 1099511628211)))) (.tk (q 30 (.nck (.t 18))) (.tk (jf 31 2 30) (.lt (js 1 31 29) .nil)))))))))))))))))
 (.ops [jm 16 4, jk 17 .add 16 1, jm 4 17]))))))
 (jo [jm 32 3, jm 33 0, q 34 (.len (.t 33)), jk 35 .quo 34 20, q 36 (.nck (.t 32)), jf 37 3 36, js 1 37 35]
 (.seq (jo [jm 38 3, q 39 (.nck (.t 38)), jf 40 3 39, jl 41 40, jk 42 .gtr 41 12]
 (.cond (.t 42) (.ops [jm 43 3, q 44 (.nck (.t 43)), jf 45 3 44, ⟨none, none, .st 1 (.t 45) (.c (i64 12))⟩]) .skip))
 (jo [jm 46 3, jm 2 46]
 .ret))))))
theorem w_spec_l01Source : Wk Tryz.prog 41 47 [.tmp 2] b_spec_l01Source := Wk.of mixedOrders Tryz.func41 (by kernel_rfl) (by kernel_rfl)

theorem source_ac {h : H} {v : Value} {l : List UInt8} (hv : Sl h v 1 (bys l)) (hn : l.length ≤ 1048576) : AC Tryz.prog 41 [v] h fun r h' => ∃ b, r = ptr b 0 ∧ h.get b = none ∧ Ext h h' ∧ Src v l h' b := by
 have hv0 := hv
 obtain ⟨a, c, vb, vo, rfl, hc, r2, r3⟩ := hv
 have hbl : (bys l).length = l.length := by simp [bys]
 rw [hbl] at r2 hv0
 skip
 refine w_spec_l01Source (by simp) ?_
 unfold b_spec_l01Source
 simp -implicitDefEqProofs only [go_sem, hbl]
 intro b hb n
 have hd : ∀ c', blk (.slice a l.length c) = some c' → c' ≠ b := fun c' hc' e => hv0.known c' hc' (by subst e; exact n)
 simp -implicitDefEqProofs only [go_sem, hbl]
 refine loopW_of (fun m f h' => ∃ (k : Nat) (mix : Int), m + k = 64 ∧ f 0 = .slice a l.length c ∧ f 3 = ptr b 0 ∧ f 4 = i64 k ∧ k ≤ l.length ∧ h' = h.set b ⟨[.slice a l.length c, i64 0, .int .u64 mix, i64 0], 4⟩) 64
  ⟨0, _, by simp, by simp -implicitDefEqProofs only [go_sem, hbl], by simp -implicitDefEqProofs only [go_sem, hbl], by simp -implicitDefEqProofs only [go_sem, hbl]; rfl, Nat.zero_le _, rfl⟩ ?_
 rintro m f h' ⟨k, mix, hm, f0, f3, f4, hk, rfl⟩
 skip
 by_cases hgo : k < l.length ∧ k < 64
 ·obtain ⟨h1, h2⟩ := hgo
  have e1 := ldc_sub (Sub.set (Sub.refl h) n ⟨[.slice a l.length c, i64 0, .int .u64 mix, i64 0], 4⟩) (r3 k [u8 (l[k]).toNat] (by simp [bys, h1]))
  simp -implicitDefEqProofs only [go_sem, h1, show (k : Int) < 64 by omega, r2, e1, hb, wrap_i64 (show -(9223372036854775808 : Int) ≤ ((k : Int) + 1) by omega) (show ((k : Int) + 1) < 9223372036854775808 by omega), hbl, f0, f3, f4, Int.ofNat_lt, Int.natCast_nonneg]
  exact ⟨m - 1, by omega, _, Ext.refl _, k + 1, _, by omega, rfl, by omega, rfl⟩
 have fin : ∀ X, Ext h (h.set b X) ∧ Sl (h.set b X) (.slice a l.length c) 1 (bys l) := fun X => ⟨(Ext.refl h).set n X, hv0.ext ((Ext.refl h).set n X)⟩
 have hq : IntKind.i64.wrap ((l.length : Int).tdiv 20) = ((l.length / 20 : Nat) : Int) := by rw [Int.tdiv_eq_ediv_of_nonneg (by omega), wrap_i64 (by omega) (by omega)]; norm_cast
 by_cases h1 : k < l.length
 ·have h2 : ¬ (k : Int) < 64 := by omega
  by_cases h12 : (12 : Int) < ((l.length / 20 : Nat) : Int)
  ·simp -implicitDefEqProofs only [go_sem, h1, h2, hb, hq, h12, show ¬ ((20 : Int) = 0) by decide, hbl, f0, f3, f4, Int.ofNat_lt, Int.natCast_nonneg]
   exact ⟨b, rfl, n, (fin _).1, ⟨0, _, 12, H.set_get_same _ _ _, (fin _).2, hb, hn, Nat.zero_le _, by omega, hd⟩⟩
  ·simp -implicitDefEqProofs only [go_sem, h1, h2, hb, hq, h12, show ¬ ((20 : Int) = 0) by decide, hbl, f0, f3, f4, Int.ofNat_lt, Int.natCast_nonneg]
   exact ⟨b, rfl, n, (fin _).1, ⟨0, _, _, H.set_get_same _ _ _, (fin _).2, hb, hn, Nat.zero_le _, by omega, hd⟩⟩
 ·by_cases h12 : (12 : Int) < ((l.length / 20 : Nat) : Int)
  ·simp -implicitDefEqProofs only [go_sem, h1, hb, hq, h12, show ¬ ((20 : Int) = 0) by decide, hbl, f0, f3, f4, Int.ofNat_lt, Int.natCast_nonneg]
   exact ⟨b, rfl, n, (fin _).1, ⟨0, _, 12, H.set_get_same _ _ _, (fin _).2, hb, hn, Nat.zero_le _, by omega, hd⟩⟩
  ·simp -implicitDefEqProofs only [go_sem, h1, hb, hq, h12, show ¬ ((20 : Int) = 0) by decide, hbl, f0, f3, f4, Int.ofNat_lt, Int.natCast_nonneg]
   exact ⟨b, rfl, n, (fin _).1, ⟨0, _, _, H.set_get_same _ _ _, (fin _).2, hb, hn, Nat.zero_le _, by omega, hd⟩⟩
end Go.Proofs.YthjbhdmjfakfaaaGreatDoor
namespace Go.Proofs.YthjbhdmjfakfaaaGreatDoor
open Go.KH

end Go.Proofs.YthjbhdmjfakfaaaGreatDoor
namespace Go.Proofs.YthjbhdmjfakfaaaGreatDoor
open Go.KH

end Go.Proofs.YthjbhdmjfakfaaaGreatDoor
namespace Go.Proofs.YthjbhdmjfakfaaaGreatDoor
open Go.KH

def b_spec_l01Src_l07Image : C := (jo [q 4 (.mv (.c nils))]
 (jo [⟨(some 6), none, .bsl 0 [] []⟩, jm 5 6]
 (.seq (.block 0 (.loop (.seq (jo [jm 7 1, jk 8 .gtr 7 0]
 (.cond (.t 8) .skip (.exit 0)))
 (.seq (.block 1 (.ops [jm 11 5, jm 12 0, jc 13 83 [(.t 12)], ⟨(some 14), none, .bsl 1 [(str [])] [(0, 1, (.t 13))]⟩, ⟨(some 15), none, .app 1 16 (.t 11) (.t 14)⟩, jm 5 15]))
 (.ops [jm 9 1, jk 10 .sub 9 1, jm 1 10])))))
 (jo [jm 16 5, jm 4 16]
 .ret))))
theorem w_spec_l01Src_l07Image : Wk Tryz.prog 99 17 [.tmp 4] b_spec_l01Src_l07Image := Wk.of mixedOrders Tryz.func99 (by kernel_rfl) (by kernel_rfl)

theorem src_image {h : H} {b : Nat} {v : Value} {l : List UInt8} {n : Nat} (hs : Src v l h b) (hn : n ≤ 100) : AC Tryz.prog 99 [ptr b 0, i64 n] h fun r h' => (∃ T : List (List UInt8), T.length = n ∧ (∀ t ∈ T, t.length = 8) ∧ Own h h' r 1 (strs T)) ∧ Drew v l b h h' := by
 have hS : ∀ x, x = b → h.get x ≠ none := fun x e => by subst e; exact hs.known
 have hkn := hs.sl.known
 refine w_spec_l01Src_l07Image (by simp) ?_
 unfold b_spec_l01Src_l07Image
 simp -implicitDefEqProofs only [go_sem]
 intro b0 hb0 n0
 simp -implicitDefEqProofs only [go_sem]
 have e0 := (Ext.refl h).set n0 ⟨[], 0⟩
 refine loopW_of (fun m f h' => ∃ (acc : List (List UInt8)) (u : Value), m + acc.length = n ∧ f 0 = ptr b 0 ∧ f 1 = i64 m ∧ f 5 = u ∧ (∀ t ∈ acc, t.length = 8) ∧ Own h h' u 1 (strs acc) ∧ Drew v l b h h') n
  ⟨[], sl b0 0 0 0, by simp, by simp -implicitDefEqProofs only [go_sem], by simp -implicitDefEqProofs only [go_sem], by simp -implicitDefEqProofs only [go_sem], by simp, .inr ⟨b0, 0, 0, rfl, Nat.le_refl _, by simp only [H.set_base]; exact hb0, n0, H.set_get_same _ _ _, by simp, Wid.nil 1⟩, Drew.of_ext hs e0⟩ ?_
 rintro m f h' ⟨acc, u, hm, f0, f1, f5, hok, ho, D⟩
 obtain ⟨au, cu, rfl⟩ := ho.shape
 rw [show (strs acc).length = acc.length by simp] at ho f5
 by_cases hp : 0 < m
 rotate_left
 ·have : m = 0 := by omega
  subst this
  simp -implicitDefEqProofs only [go_sem, f0, f1, f5, show ¬ (0 : Int) < ((0 : Nat) : Int) by decide]
  exact ⟨⟨acc, by omega, hok, ho⟩, D⟩
 simp -implicitDefEqProofs only [go_sem, f0, f1, f5, show (0 : Int) < (m : Int) by omega]
 refine AC_of (src_data D.2) ?_
 rintro _ h2 - ⟨⟨s, hsl, rfl⟩, d2⟩
 have D2 := D.trans d2
 have o2 := ho.keepS d2.1 hS
 simp -implicitDefEqProofs only [go_sem, f0, f1, f5]
 intro bx hbx nx
 have D4 := D2.ext ((Ext.refl h2).set nx ⟨[str s], 1⟩)
 simp -implicitDefEqProofs only [go_sem, f0, f1, f5]
 refine appW_keep (h0 := h) (rows := strs acc) (new := [[str s]]) (fun c hc => D4.1.nones c hc) (o2.ext ((Ext.refl _).set nx _)) (by simp -implicitDefEqProofs only [go_sem]; rfl) (by intro r hr; simp at hr; subst hr; rfl) rfl (by simp; omega) ?_
 intro v' h6 k6 o6
 have hm1 : IntKind.i64.wrap ((m : Int) - 1) = ((m - 1 : Nat) : Int) := by rw [wrap_i64 (by omega) (by omega)]; omega
 simp -implicitDefEqProofs only [go_sem, f0, f1, f5, hm1]
 exact ⟨m - 1, by omega, _, Ext.refl _, acc ++ [s], v', by simp; omega, rfl, rfl, fun t ht => by
  rcases List.mem_append.1 ht with h | h
  ·exact hok t h
  ·simp only [List.mem_singleton] at h; subst h; exact hsl, by simpa using o6, ⟨Keep.own D4.1 k6, Src.keepM D4.2 k6 hs.known hkn⟩⟩
def ImgAt (v : Value) (l : List UInt8) (b : Nat) (h : H) (f : Fr) (h' : H) : Prop := ∃ (T : List (List UInt8)) (u : Value), f 3 = u ∧ (∀ t ∈ T, t.length ≤ 9) ∧ T.length ≤ 10 ∧ Fre h h' u 1 (strs T) ∧ Drew v l b h h'
def ImgAt1 (v : Value) (l : List UInt8) (b : Nat) (h : H) (f : Fr) (h' : H) : Prop := ∃ (T : List (List UInt8)) (u : Value), f 0 = ptr b 0 ∧ f 3 = u ∧ (∀ t ∈ T, t.length ≤ 9) ∧ (1 ≤ T.length ∧ T.length ≤ 10) ∧ Fre h h' u 1 (strs T) ∧ Drew v l b h h'
def b_spec_l01Src_l07Odd : C := (jo [q 2 (.mv (.c nils))]
 (jo [jm 4 0, jm 5 0, jc 6 43 [(.t 5), (.c (i64 5))], q 7 (.bin .add (.c (i64 1)) (.t 6)), jc 8 99 [(.t 4), (.t 7)], jm 3 8]
 (.seq (jo [jm 9 0, jc 10 48 [(.t 9), (.c (i64 12))]]
 (.cond (.t 10) (jo [jm 11 0, jc 12 43 [(.t 11), (.c (i64 3))]]
 (.block 0 (jo [jk 19 .eql 12 0, jm 18 19]
 (.cond (.t 18) (.ops [jm 20 3, jm 21 0, jm 22 0, jc 23 43 [(.t 22), (.c (i64 2))], q 24 (.bin .mul (.c (i64 2)) (.t 23)), q 25 (.bin .add (.c (i64 7)) (.t 24)), jc 26 102 [(.t 21), (.t 25)], q 27 (.idx 1 (.t 20) (.c (i64 0))), js 1 27 26]) (jo [jk 29 .eql 12 1, jm 28 29]
 (.cond (.t 28) (.ops [q 3 (.mv (.c nils))]) (.ops [jm 13 0, jm 14 0, jc 15 43 [(.t 14), (.c (i64 2))], q 16 (.bin .add (.c (i64 8)) (.t 15)), jc 17 99 [(.t 13), (.t 16)], jm 3 17]))))))) .skip))
 (jo [jm 30 3, jm 2 30]
 .ret))))
theorem w_spec_l01Src_l07Odd : Wk Tryz.prog 49 31 [.tmp 2] b_spec_l01Src_l07Odd := Wk.of mixedOrders Tryz.func49 (by kernel_rfl) (by kernel_rfl)

set_option maxHeartbeats 1600000 in
theorem src_oddImage {h : H} {b : Nat} {v : Value} {l : List UInt8} (hs : Src v l h b) : AC Tryz.prog 49 [ptr b 0] h fun r h' => (∃ T : List (List UInt8), (∀ t ∈ T, t.length ≤ 9) ∧ T.length ≤ 10 ∧ Fre h h' r 1 (strs T)) ∧ Drew v l b h h' := by
 have hS : ∀ x, x = b → h.get x ≠ none := fun x e => by subst e; exact hs.known
 have hkn := hs.sl.known
 refine w_spec_l01Src_l07Odd (by simp) ?_
 unfold b_spec_l01Src_l07Odd
 refine wpc_cut2 (ImgAt1 v l b h) ?_ ?_
 ·simp -implicitDefEqProofs only [go_sem]
  refine AC_of (src_n hs (by omega)) ?_
  rintro _ h1 - ⟨⟨k, rfl, k0, k1, -⟩, d⟩
  have hk := k1 (by omega)
  obtain ⟨k, rfl⟩ : ∃ n : Nat, k = n := ⟨k.toNat, by omega⟩
  simp -implicitDefEqProofs only [go_sem, wrap_i64 (show -(9223372036854775808 : Int) ≤ ((1 + k : Nat) : Int) by omega) (show ((1 + k : Nat) : Int) < 9223372036854775808 by omega), show (1 : Int) + (k : Int) = ((1 + k : Nat) : Int) by omega]
  refine AC_of (src_image d.2 (by omega)) ?_
  rintro r h2 - ⟨⟨T, hT, h8, o⟩, d2⟩
  have F := o.fre
  simp -implicitDefEqProofs only [go_sem]
  refine ⟨T, r, by simp -implicitDefEqProofs only [go_sem], by simp -implicitDefEqProofs only [go_sem], fun t ht => by have := h8 t ht; omega, by omega, ?_, d.trans d2⟩
  rcases F with F | ⟨b', c, ob, e1, e2, e3, e4, e5, e6, e7⟩
  ·exact .inl F
  ·exact .inr ⟨b', c, ob, e1, e2, e3, d.1.nones _ e4, e5, e6, e7⟩
 rintro f h1 ⟨T, u, f0, f3, h9, ⟨ha, hb⟩, F, D⟩
 obtain ⟨au, cu, rfl⟩ := F.shape
 have hl : (strs T).length = T.length := by simp
 rw [hl] at F f3
 have hub : ∀ c, blk (.slice au T.length cu) = some c → ¬ c = b := fun c hc e => by subst e; exact hs.known (F.new c hc)
 refine wpc_cut (ImgAt v l b h) ?_ ?_
 ·simp -implicitDefEqProofs only [go_sem, f0]
  refine AC_of (src_one D.2 (by omega)) ?_
  rintro _ h2 - ⟨⟨t, rfl⟩, d2⟩
  have D2 := D.trans d2
  have F2 := F.keep d2.1 hub
  cases t
  ·simp -implicitDefEqProofs only [go_sem]
   exact ⟨T, _, by simp -implicitDefEqProofs only [go_sem, f3], h9, hb, F2, D2⟩
  simp -implicitDefEqProofs only [go_sem, f0]
  refine AC_of (src_n D2.2 (by omega)) ?_
  rintro _ h3 - ⟨⟨k, rfl, k0, k1, -⟩, d3⟩
  have hk := k1 (by omega)
  have D3 := D2.trans d3
  have F3 := F2.keep d3.1 hub
  obtain rfl | rfl | rfl : k = 0 ∨ k = 1 ∨ k = 2 := by omega
  ·simp -implicitDefEqProofs only [go_sem, f0, f3]
   refine AC_of (src_n D3.2 (by omega)) ?_
   rintro _ h4 - ⟨⟨q, rfl, q0, q1, -⟩, d4⟩
   have hq := q1 (by omega)
   obtain ⟨q, rfl⟩ : ∃ n : Nat, q = n := ⟨q.toNat, by omega⟩
   have D4 := D3.trans d4
   simp -implicitDefEqProofs only [go_sem, f0, f3, wrap_i64 (show -(9223372036854775808 : Int) ≤ (2 * (q : Int)) by omega) (show (2 * (q : Int)) < 9223372036854775808 by omega), wrap_i64 (show -(9223372036854775808 : Int) ≤ ((7 + 2 * q : Nat) : Int) by omega) (show ((7 + 2 * q : Nat) : Int) < 9223372036854775808 by omega), show (7 : Int) + 2 * (q : Int) = ((7 + 2 * q : Nat) : Int) by omega]
   refine AC_of (src_bytes D4.2 (by omega)) ?_
   rintro _ h5 - ⟨⟨s, hsl, rfl⟩, d5⟩
   have D5 := D4.trans d5
   have F5 := (F3.keep d4.1 hub).keep d5.1 hub
   obtain ⟨bo, co, ob, e1, e2, e3, e4, e5, e6⟩ := Fre.put (k := 0) F5 (by rw [hl]; omega) (r := [str s]) rfl rfl
   simp only [hl, sl, Value.slice.injEq, true_and] at e1
   obtain ⟨rfl, rfl⟩ := e1
   rw [Nat.zero_mul] at e5
   simp -implicitDefEqProofs only [go_sem, f0, f3, show (0 : Int) < (T.length : Int) by omega, e2, show Int.toNat 0 * 1 = 0 from rfl, e5]
   refine ⟨T.set 0 s, _, by simp -implicitDefEqProofs only [go_sem, f3]; rfl, fun t ht => ?_, by simp; omega, ?_, Drew.set D5 e3 hs _⟩
   ·rcases List.mem_or_eq_of_mem_set ht with h | h
    ·exact h9 t h
    ·subst h; omega
   ·have : (strs T).set 0 [str s] = strs (T.set 0 s) := by simp [strs, List.map_set]
    rw [this, Nat.zero_mul] at e6
    exact e6
  ·simp -implicitDefEqProofs only [go_sem, f0, f3]
   exact ⟨[], nils, by simp -implicitDefEqProofs only [go_sem], by simp, by simp, .inl ⟨none, 0, rfl, rfl⟩, D3⟩
  ·simp -implicitDefEqProofs only [go_sem, f0, f3]
   refine AC_of (src_n D3.2 (by omega)) ?_
   rintro _ h4 - ⟨⟨q, rfl, q0, q1, -⟩, d4⟩
   have hq := q1 (by omega)
   obtain ⟨q, rfl⟩ : ∃ n : Nat, q = n := ⟨q.toNat, by omega⟩
   have D4 := D3.trans d4
   simp -implicitDefEqProofs only [go_sem, f0, f3, wrap_i64 (show -(9223372036854775808 : Int) ≤ ((8 + q : Nat) : Int) by omega) (show ((8 + q : Nat) : Int) < 9223372036854775808 by omega), show (8 : Int) + (q : Int) = ((8 + q : Nat) : Int) by omega]
   refine AC_of (src_image D4.2 (by omega)) ?_
   rintro r h5 - ⟨⟨T', hT, h8, o⟩, d5⟩
   have F5 := o.fre
   simp -implicitDefEqProofs only [go_sem]
   refine ⟨T', r, by simp -implicitDefEqProofs only [go_sem], fun t ht => by have := h8 t ht; omega, by omega, ?_, D4.trans d5⟩
   rcases F5 with F | ⟨b', c, ob, e1, e2, e3, e4, e5, e6, e7⟩
   ·exact .inl F
   ·exact .inr ⟨b', c, ob, e1, e2, e3, D4.1.nones _ e4, e5, e6, e7⟩
 clear f0 f3 h9 ha hb F D hub hl
 rintro f h1 ⟨T, u, f3, h9, hl, F, D⟩
 simp -implicitDefEqProofs only [go_sem, f3]
 exact ⟨⟨T, h9, hl, F⟩, D⟩
end Go.Proofs.YthjbhdmjfakfaaaGreatDoor