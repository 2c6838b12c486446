/- A helper of this seat's claims (contracts of the functions): what it shows is shown for every input that its statements name, on no other condition. -/
import Derived.Test.YthjbhdmjfakfaaaGreatDoorMC04k
import Derived.Test.YthjbhdmjfakfaaaGreatDoorMCB
set_option linter.unusedVariables false
set_option linter.unusedSimpArgs false
set_option maxRecDepth 100000
namespace Go.Proofs.YthjbhdmjfakfaaaGreatDoor
open Go.KH

def idle0 : UState := ⟨1, 0, 0, 0, 0, [], [], []⟩
theorem idle0_ok : stateOk idle0 := by decide
def sec0 (l : List (List UInt8)) : List (List UInt8) := List.replicate 3 [] ++ l ++ List.replicate 24 []
def flash0 (l : List (List UInt8)) : UFlash := ⟨sec0 l, []⟩
def machNew (l : List (List UInt8)) : UMach := ⟨l.length, actsDo (flash0 l) (metaActsOf (flash0 l) (stateB idle0))⟩
def mach0 : UMach := ⟨0, ⟨[], []⟩⟩
def newOut (l : List (List UInt8)) : UMach × Int := if 400 < l.length then (mach0, 2) else if imageOk l then (machNew l, 0) else (mach0, 1)
theorem sec0_len (l : List (List UInt8)) : (sec0 l).length = 27 + l.length := by simp [sec0]; omega
theorem flash0_ok {l : List (List UInt8)} (h : imageOk l) : flashOk (flash0 l) := by
 have h1 := h.1
 refine ⟨by show 1 ≤ (sec0 l).length ∧ (sec0 l).length ≤ 40; rw [sec0_len]; omega, by simp [flash0], fun s hs => ?_, fun i hi => by simp [flash0] at hi⟩
 simp only [flash0, sec0, List.mem_append, List.mem_replicate] at hs
 rcases hs with (⟨_, rfl⟩ | hs) | ⟨_, rfl⟩
 ·simp
 ·rw [h.2 s hs]; omega
 ·simp
theorem sec0_cells (l : List (List UInt8)) : splice (List.replicate (27 + l.length) [str []]).flatten 3 (strs l).flatten = (sects (sec0 l)).flatten := by
 have e1 : (List.replicate (27 + l.length) [str []]).flatten = List.replicate (27 + l.length) (str []) := by
  induction (27 + l.length) with
  | zero => rfl
  | succ n ih => rw [List.replicate_succ, List.flatten_cons, ih, List.replicate_succ]; rfl
 have e2 : ∀ t : List (List UInt8), (strs t).flatten = t.map str := fun t => by
  induction t with
  | nil => rfl
  | cons a t ih => show ([str a] ++ (strs t).flatten) = _; rw [ih]; rfl
 rw [e1, e2, e2]
 unfold splice sec0
 rw [List.length_map, List.take_replicate, List.drop_replicate, show min 3 (27 + l.length) = 3 by omega, show 27 + l.length - (3 + l.length) = 24 by omega]
 simp
def b_impl_machineNew : C := (jo [⟨(some 2), none, .alloc [(i64 0), nils, nils]⟩]
 (jo [jm 4 0, jc 5 35 [(.t 4)], q 6 (.build [(i64 0), nils, nils] [(0, 1, (.t 5))]), ⟨(some 3), none, .alloc [(i64 0), nils, nils]⟩, js 3 3 6]
 (jo [jf 7 0 3, jl 8 7, q 9 (.bin .add (.c (i64 3)) (.t 8)), jk 10 .add 9 24, ⟨(some 11), none, .mks 1 16 [(str [])] (.t 10) (.t 10)⟩, jf 12 1 3, jf 13 0 12, js 1 13 11]
 (jo [jf 14 1 3, jf 15 0 14, jl 16 15, q 17 (.lsl 1 (.t 16) (some (.c (i64 3))) none), jm 18 0, ⟨(some 19), none, .cpy 1 (.t 17) (.t 18)⟩]
 (.seq (.dops true (.tk (jf 20 1 3) (.tk (jd 21 2 20) (.tk (jf 22 1 3) (.tk (jd 23 2 22) (.tk (q 24 (.build [(i64 0), (i64 0), (i64 0), (i64 0), (i64 0), (str []), nils, nils] [(0, 1, (.c (i64 1)))])) (.sq (jc 25 128 [(.t 24)]) (.sq (jc 26 127 [(.t 23), (.t 25)]) (.sq (jc 27 74 [(.t 21), (.t 26)]) (.tk (jf 28 1 3) (.lt (js 2 28 27) .nil)))))))))))
 (jo [jd 29 3 3, js 3 2 29]
 .ret))))))
theorem w_impl_machineNew : Wk Tryz.prog 66 30 [.cell 2 true 3] b_impl_machineNew := Wk.of mixedOrders Tryz.func66 (by kernel_rfl) (by kernel_rfl)

set_option maxHeartbeats 1600000 in
theorem machineNew_ac {h : H} {v : Value} {l : List (List UInt8)} (hv : Sl h v 1 (strs l)) (hi : imageOk l) : AC Tryz.prog 66 [v] h fun r h' => Ext h h' ∧ ∃ cs, r = .agg cs.toArray ∧ RepF h h' (spMach (machNew l)) cs := by
 have h18 := hi.1
 have ho := flash0_ok hi
 refine w_impl_machineNew (by simp) ?_
 unfold b_impl_machineNew
 simp -implicitDefEqProofs only [go_sem]
 intro b2 hb_b2 n_b2
 simp -implicitDefEqProofs only [go_sem, hb_b2]
 refine (sizeStr_pc (hv.ext ((Ext.refl _).set' n_b2 _))).use ?_
 simp -implicitDefEqProofs only [go_sem, hb_b2]
 intro b3 hb_b3 m0_b3
 obtain ⟨z_b3_b2, y_b3_b2, n_b3⟩ := fne m0_b3
 simp only [H.set_base] at hb_b3
 have w1 : IntKind.i64.wrap (3 + (l.length : Int)) = 3 + (l.length : Int) := wrap_i64 (by omega) (by omega)
 have w2 : IntKind.i64.wrap (3 + (l.length : Int) + 24) = ((27 + l.length : Nat) : Int) := by rw [wrap_i64 (by omega) (by omega)]; omega
 simp -implicitDefEqProofs only [go_sem, w1, w2, Int.natCast_nonneg, Int.le_refl, show ((27 + l.length : Nat) : Int) < 1099511627776 by omega, show ((16 : Nat) : Int) * ((27 + l.length : Nat) : Int) ≤ 140737488355328 by omega, Int.toNat_natCast, hb_b2, hb_b3, z_b3_b2, y_b3_b2]
 intro b4 hb_b4 m0_b4
 obtain ⟨z_b4_b3, y_b4_b3, m1_b4⟩ := fne m0_b4
 obtain ⟨z_b4_b2, y_b4_b2, n_b4⟩ := fne m1_b4
 simp only [H.set_base] at hb_b4
 have hsrc : ∀ x y z, srcOf (((h.set b2 x).set b3 y).set b4 z) 1 v = some ((strs l).length, (strs l).flatten) := fun x y z => (hv.ext (Ext.set' (Ext.set' (Ext.set' (Ext.refl h) n_b2 x) n_b3 y) n_b4 z)).src (strs_wid _) (by decide)
 have ll : (strs l).length = l.length := by simp
 have fl := flat_length (strs_wid l)
 rw [ll] at fl
 have rl : (List.replicate (27 + l.length) [str []]).flatten.length = 27 + l.length := by rw [flat_length (w := 1) (Wid.rep (z := [str []]) rfl _)]; simp
 simp -implicitDefEqProofs only [go_sem, hsrc, ll, fl, rl, strs_one l, sec0_cells l, show 3 + l.length ≤ 27 + l.length by omega, show (3 : Int) ≤ ((27 + l.length : Nat) : Int) by omega, show Int.toNat 3 = 3 from rfl, show (27 + l.length = 3) = False from eq_false (by omega), show Nat.min l.length (27 + l.length - 3) = l.length from Nat.min_eq_left (by omega), Nat.mul_one, show List.take l.length (strs l).flatten = (strs l).flatten from List.take_of_length_le (by omega), hb_b2, hb_b3, z_b3_b2, y_b3_b2, hb_b4, z_b4_b3, y_b4_b3, z_b4_b2, y_b4_b2]
 have zb := z_b4_b3
 have E0 := (Ext.set' (Ext.set' (Ext.set' (Ext.refl h) n_b2 ⟨[i64 0, nils, nils], 3⟩) n_b3 ⟨[i64 l.length, sl b4 0 (27 + l.length) (27 + l.length), nils], 3⟩) n_b4 ⟨(sects (sec0 l)).flatten, 27 + l.length⟩)
 have g2 : (((h.set b2 ⟨[i64 0, nils, nils], 3⟩).set b3 ⟨[i64 l.length, sl b4 0 (27 + l.length) (27 + l.length), nils], 3⟩).set b4 ⟨(sects (sec0 l)).flatten, 27 + l.length⟩).get b2 = some ⟨[i64 0, nils, nils], 3⟩ := by simp -implicitDefEqProofs only [go_sem, hb_b2, hb_b3, z_b3_b2, y_b3_b2, hb_b4, z_b4_b3, y_b4_b3, z_b4_b2, y_b4_b2]
 have g3 : (((h.set b2 ⟨[i64 0, nils, nils], 3⟩).set b3 ⟨[i64 l.length, sl b4 0 (27 + l.length) (27 + l.length), nils], 3⟩).set b4 ⟨(sects (sec0 l)).flatten, 27 + l.length⟩).get b3 = some ⟨[i64 l.length, sl b4 0 (27 + l.length) (27 + l.length), nils], 3⟩ := by simp -implicitDefEqProofs only [go_sem, hb_b2, hb_b3, z_b3_b2, y_b3_b2, hb_b4, z_b4_b3, y_b4_b3, z_b4_b2, y_b4_b2]
 generalize hX : (((h.set b2 ⟨[i64 0, nils, nils], 3⟩).set b3 ⟨[i64 l.length, sl b4 0 (27 + l.length) (27 + l.length), nils], 3⟩).set b4 ⟨(sects (sec0 l)).flatten, 27 + l.length⟩) = hx at E0 g2 g3 ⊢
 have hbx : hx.base = h.base := E0.1
 have sv : Sl hx (sl b4 0 (27 + l.length) (27 + l.length)) 1 (sects (sec0 l)) := by
  have := Sl.of_get (h := hx) (b := b4) (c := 27 + l.length) (z := 27 + l.length) (w := 1) (rows := sects (sec0 l)) (by rw [← hX]; exact H.set_get_same _ _ _) (by rw [List.length_map, sec0_len]; exact Nat.le_refl _) (sects_wid _)
  rw [List.length_map, sec0_len] at this
  exact this
 have fr : FlR hx (flash0 l) (sl b4 0 (27 + l.length) (27 + l.length)) nils := ⟨sv, Sl.nil _ _⟩
 refine (stateBytes_pc idle0 (Sl.nil _ _) (Sl.nil _ _) idle0_ok).use ?_
 have h2 : 2 ≤ (flash0 l).sec.length := by show 2 ≤ (sec0 l).length; rw [sec0_len]; omega
 have h46 := stateB_46 idle0_ok
 refine ⟨Sub.refl _, ?_⟩
 skip
 simp -implicitDefEqProofs only [go_sem]
 refine AC_of (metaActs_ac fr ho h2 (by omega)) ?_
 rintro va h5 - ⟨e5, o5⟩
 refine ⟨e5.2, ?_⟩
 have hlen := metaActs_len (flash0 l) (stateB idle0)
 simp -implicitDefEqProofs only [go_sem]
 refine AC_of (acted_ac (fr.ext e5) o5.sl ho (metaActs_ok h2 (by omega)) (by omega)) ?_
 rintro _ h6 - ⟨e6, us, ud, rfl, f6⟩
 have p1 := f6.1.sl.one
 have p2 := f6.2.1.sl.one
 have e56 := e5.trans e6
 have g26 := e56.2.g b2 _ g2
 have g36 := e56.2.g b3 _ g3
 have hb6 : h6.base = h.base := by rw [e56.1, hbx]
 refine ⟨e56.2, ?_⟩
 simp -implicitDefEqProofs only [go_sem, stc_get g36, hb6, hb_b3, p1, p2, z_b3_b2, y_b3_b2, stc_get g26, hb_b2]
 exact ⟨((E0.trans e56).set' n_b2 _).set' n_b3 _, _, rfl, mach_f.2 ⟨us, ud, rfl, FlF.back (FlF.set (FlF.set f6 (e5.2.g b2 _ g2) _) (e5.2.g b3 _ g3) _) (E0.trans e5)⟩⟩
theorem mach0_f (h0 h : H) (c : Int) : RepF h0 h (spMachO (mach0, c)) [i64 0, nils, nils, i64 c] := machO_f.2 ⟨nils, nils, rfl, .inl ⟨none, 0, rfl, rfl⟩, .inl ⟨none, 0, rfl, rfl⟩, fun _ h => by cases h⟩
def b_impl_MachineNew : C := (jo [⟨(some 2), none, .alloc [(i64 0), nils, nils, (i64 0)]⟩]
 (.seq (.block 0 (jo [jm 4 0, q 5 (.len (.t 4)), jk 6 .gtr 5 400, jm 3 6]
 (.cond (.t 3) (jo [q 7 (.build [(i64 0), nils, nils, (i64 0)] [(3, 1, (.c (i64 2)))]), js 4 2 7]
 .ret) (jo [jm 9 0, jc 10 34 [(.t 9)], q 11 (.un .not (.t 10)), jm 8 11]
 (.cond (.t 8) (jo [q 12 (.build [(i64 0), nils, nils, (i64 0)] [(3, 1, (.c (i64 1)))]), js 4 2 12]
 .ret) .skip)))))
 (jo [jm 13 0, jc 14 66 [(.t 13)], q 15 (.build [(i64 0), nils, nils, (i64 0)] [(0, 3, (.t 14))]), js 4 2 15]
 .ret)))
theorem w_impl_MachineNew : Wk Tryz.prog 24 16 [.cell 2 true 4] b_impl_MachineNew := Wk.of mixedOrders Tryz.func24 (by kernel_rfl) (by kernel_rfl)

theorem implMachineNew_ac {h : H} {v : Value} {l : List (List UInt8)} (hv : Sl h v 1 (strs l)) (hn : l.length ≤ 1048576) : AC Tryz.prog 24 [v] h fun r h' => Ext h h' ∧ ∃ cs, r = .agg cs.toArray ∧ RepF h h' (spMachO (newOut l)) cs := by
 obtain ⟨a, c, rfl⟩ := hv.shape
 have hl : (strs l).length = l.length := by simp
 rw [hl] at hv
 unfold newOut
 skip
 refine w_impl_MachineNew (by simp) ?_
 unfold b_impl_MachineNew
 simp -implicitDefEqProofs only [go_sem, hl]
 intro b2 hb_b2 n_b2
 by_cases h4 : 400 < l.length
 ·rw [if_pos h4]
  simp -implicitDefEqProofs only [go_sem, show (400 : Int) < (l.length : Int) by omega, hl, hb_b2]
  exact ⟨((Ext.refl _).set' n_b2 _), _, rfl, mach0_f _ _ _⟩
 rw [if_neg h4]
 simp -implicitDefEqProofs only [go_sem, show ¬ (400 : Int) < (l.length : Int) by omega, hl, hb_b2]
 refine (isImage_pc (hv.ext ((Ext.refl _).set' n_b2 _)) hn).use ?_
 by_cases hi : imageOk l
 rotate_left
 ·rw [if_neg hi]
  simp -implicitDefEqProofs only [go_sem, hi, hl, hb_b2]
  exact ⟨((Ext.refl _).set' n_b2 _), _, rfl, mach0_f _ _ _⟩
 rw [if_pos hi]
 simp -implicitDefEqProofs only [go_sem, hi, hl, hb_b2]
 refine AC_of (machineNew_ac (hv.ext ((Ext.refl _).set' n_b2 _)) hi) ?_
 rintro _ h1 - ⟨e1, cs, rfl, F⟩
 obtain ⟨us, ud, rfl, f⟩ := mach_f.1 F
 have p1 := f.1.sl.one
 have p2 := f.2.1.sl.one
 have g2 := e1.2.g b2 _ (by simp -implicitDefEqProofs only [go_sem, hl, hb_b2]; rfl)
 have hbb := e1.1
 simp only [H.set_base] at hbb
 simp -implicitDefEqProofs only [go_sem, p1, p2, stc_get g2, hbb, hl, hb_b2]
 exact ⟨((((Ext.refl _).set' n_b2 _)).trans e1).set' n_b2 _, _, rfl, machO_f.2 ⟨us, ud, rfl, FlF.back (FlF.set f (H.set_get_same _ _ _) _) ((Ext.refl _).set' n_b2 _)⟩⟩
def b_spec_FlashNew : C := (jo [⟨(some 2), none, .alloc [nils, nils]⟩]
 (.seq (jo [jm 3 0, jc 4 118 [(.t 3), (.c (i64 1)), (.c (i64 40))], q 5 (.un .not (.t 4))]
 (.cond (.t 5) (jo [q 6 (.build [nils, nils] []), js 2 2 6]
 .ret) .skip))
 (jo [jm 7 0, ⟨(some 8), none, .mks 1 16 [(str [])] (.t 7) (.t 7)⟩, q 9 (.build [nils, nils] [(0, 1, (.t 8))]), js 2 2 9]
 .ret)))
theorem w_spec_FlashNew : Wk Tryz.prog 67 10 [.cell 2 true 2] b_spec_FlashNew := Wk.of mixedOrders Tryz.func67 (by kernel_rfl) (by kernel_rfl)

theorem flashNew_ac {h : H} {n : Nat} (hn : 1 ≤ n ∧ n ≤ 40) : AC Tryz.prog 67 [i64 n] h fun r h' => Ext h h' ∧ ∃ b, r = .agg #[sl b 0 n n, nils] ∧ h.get b = none ∧ h.base ≤ b ∧ h'.get b = some ⟨(sects (List.replicate n [])).flatten, n⟩ := by
 refine w_spec_FlashNew (by simp) ?_
 unfold b_spec_FlashNew
 simp -implicitDefEqProofs only [go_sem]
 intro b2 hb_b2 n_b2
 simp -implicitDefEqProofs only [go_sem, hb_b2]
 refine (l03Is_pc _ _ _ _).use ?_
 simp -implicitDefEqProofs only [go_sem, show (1 : Int) ≤ (n : Int) by omega, show (n : Int) ≤ 40 by omega, Int.natCast_nonneg, Int.le_refl, show (n : Int) < 1099511627776 by omega, show ((16 : Nat) : Int) * (n : Int) ≤ 140737488355328 by omega, Int.toNat_natCast, hb_b2]
 intro b3 hb_b3 m0_b3
 obtain ⟨z_b3_b2, y_b3_b2, n_b3⟩ := fne m0_b3
 simp only [H.set_base] at hb_b3
 simp -implicitDefEqProofs only [go_sem, hb_b2, hb_b3, z_b3_b2, y_b3_b2]
 have e : (List.replicate n [str []]).flatten = (sects (List.replicate n [])).flatten := by unfold sects; rw [List.map_replicate]
 exact ⟨((((Ext.refl _).set' n_b2 _).set' n_b3 _)), b3, rfl, n_b3, hb_b3, by simp -implicitDefEqProofs only [go_sem, e, Nat.mul_one, hb_b2, hb_b3, z_b3_b2, y_b3_b2]⟩
def part (l : List (List UInt8)) (k : Nat) : List (List UInt8) := List.replicate 3 [] ++ (l.take k ++ List.replicate (24 + l.length - k) [])
theorem part_len (l : List (List UInt8)) (k : Nat) (hk : k ≤ l.length) : (part l k).length = 27 + l.length := by simp [part]; omega
theorem part_zero (l : List (List UInt8)) : part l 0 = List.replicate (27 + l.length) [] := by
 unfold part
 rw [List.take_zero, List.nil_append, List.replicate_append_replicate]; congr 1; omega
theorem part_all (l : List (List UInt8)) : part l l.length = sec0 l := by
 unfold part sec0
 rw [List.take_length, show 24 + l.length - l.length = 24 by omega, List.append_assoc]
theorem part_set (l : List (List UInt8)) (k : Nat) (hk : k < l.length) : (part l k).set (3 + k) l[k] = part l (k + 1) := by
 have h1 : (l.take k).length = k := by simp; omega
 unfold part
 rw [List.set_append_right _ _ (by simp), List.length_replicate, Nat.add_sub_cancel_left, List.set_append_right _ _ (by omega), h1, Nat.sub_self, show 24 + l.length - k = (24 + l.length - (k + 1)) + 1 by omega, List.replicate_succ (n := 24 + l.length - (k + 1)), List.set_cons_zero, List.take_succ_eq_append_getElem hk, List.append_assoc, List.singleton_append]
def b_spec_MachineNew : C := (jo [⟨(some 2), none, .alloc [(i64 0), nils, nils, (i64 0)]⟩]
 (.seq (jo [jm 5 0, q 6 (.len (.t 5)), jk 7 .gtr 6 400]
 (.cond (.t 7) (jo [q 8 (.build [(i64 0), nils, nils, (i64 0)] [(3, 1, (.c (i64 2)))]), js 4 2 8]
 .ret) .skip))
 (.seq (jo [jm 9 0, jc 10 52 [(.t 9)], q 11 (.un .not (.t 10))]
 (.cond (.t 11) (jo [q 12 (.build [(i64 0), nils, nils, (i64 0)] [(3, 1, (.c (i64 1)))]), js 4 2 12]
 .ret) .skip))
 (jo [jm 13 0, q 14 (.len (.t 13)), q 15 (.bin .add (.c (i64 3)) (.t 14)), jk 16 .add 15 24, jc 17 67 [(.t 16)], ⟨(some 3), none, .alloc [nils, nils]⟩, js 2 3 17]
 (.seq (jo [q 4 (.mv (.c (i64 0)))]
 (.block 0 (.loop (.seq (jo [jm 18 4, jm 19 0, q 20 (.len (.t 19)), jb 21 .lss 18 20]
 (.cond (.t 21) .skip (.exit 0)))
 (.seq (.block 1 (.dops true (.tk (jf 24 0 3) (.tk (jl 25 24) (.tk (jm 26 4) (.tk (q 27 (.bin .add (.c (i64 3)) (.t 26))) (.tk (jm 28 0) (.tk (jm 29 4) (.tk (q 30 (.idx 1 (.t 28) (.t 29))) (.tk (jl 31 30) (.tk (q 32 (.idx 1 (.t 25) (.t 27))) (.lt (js 1 32 31) .nil))))))))))))
 (.ops [jm 22 4, jk 23 .add 22 1, jm 4 23]))))))
 (.seq (.dops true (.tk (jd 33 2 3) (.tk (jd 34 2 3) (.tk (q 35 (.build [(i64 0), (i64 0), (i64 0), (i64 0), (i64 0), (str []), nils, nils] [(0, 1, (.c (i64 1)))])) (.sq (jc 36 70 [(.t 35)]) (.sq (jc 37 69 [(.t 34), (.t 36)]) (.sq (jc 38 68 [(.t 33), (.t 37)]) (.tk (q 39 (.part true 0 2 (.t 38))) (.lt (js 2 3 39) .nil)))))))))
 (jo [jm 40 0, q 41 (.len (.t 40)), jd 42 2 3, q 43 (.build [(i64 0), nils, nils] [(0, 1, (.t 41)), (1, 2, (.t 42))]), q 44 (.build [(i64 0), nils, nils, (i64 0)] [(0, 3, (.t 43))]), js 4 2 44]
 .ret)))))))
theorem w_spec_MachineNew : Wk Tryz.prog 25 45 [.cell 2 true 4] b_spec_MachineNew := Wk.of mixedOrders Tryz.func25 (by kernel_rfl) (by kernel_rfl)

set_option maxHeartbeats 1600000 in
theorem specMachineNew_ac {h : H} {v : Value} {l : List (List UInt8)} (hv : Sl h v 1 (strs l)) (hn : l.length ≤ 1048576) : AC Tryz.prog 25 [v] h fun r h' => Ext h h' ∧ ∃ cs, r = .agg cs.toArray ∧ RepF h h' (spMachO (newOut l)) cs := by
 obtain ⟨a, c, rfl⟩ := hv.shape
 have hl : (strs l).length = l.length := by simp
 rw [hl] at hv
 unfold newOut
 skip
 refine w_spec_MachineNew (by simp) ?_
 unfold b_spec_MachineNew
 simp -implicitDefEqProofs only [go_sem, hl]
 intro b2 hb_b2 n_b2
 by_cases h4 : 400 < l.length
 ·rw [if_pos h4]
  simp -implicitDefEqProofs only [go_sem, show (400 : Int) < (l.length : Int) by omega, hl, hb_b2]
  exact ⟨((Ext.refl _).set' n_b2 _), _, rfl, mach0_f _ _ _⟩
 rw [if_neg h4]
 simp -implicitDefEqProofs only [go_sem, show ¬ (400 : Int) < (l.length : Int) by omega, hl, hb_b2]
 refine (specImageRight_pc (hv.ext ((Ext.refl _).set' n_b2 _)) hn).use ?_
 by_cases hi : imageOk l
 rotate_left
 ·rw [if_neg hi]
  simp -implicitDefEqProofs only [go_sem, hi, hl, hb_b2]
  exact ⟨((Ext.refl _).set' n_b2 _), _, rfl, mach0_f _ _ _⟩
 rw [if_pos hi]
 have h18 := hi.1
 have ho := flash0_ok hi
 have w1 : IntKind.i64.wrap (3 + (l.length : Int)) = 3 + (l.length : Int) := wrap_i64 (by omega) (by omega)
 have w2 : IntKind.i64.wrap (3 + (l.length : Int) + 24) = ((27 + l.length : Nat) : Int) := by rw [wrap_i64 (by omega) (by omega)]; omega
 simp -implicitDefEqProofs only [go_sem, hi, w1, w2, hl, hb_b2]
 refine AC_of (flashNew_ac (n := 27 + l.length) (by omega)) ?_
 rintro _ h1 - ⟨e1, bs, rfl, nbs, hbs, gs⟩
 have E0 := (Ext.set' (Ext.refl h) n_b2 ⟨[i64 0, nils, nils, i64 0], 4⟩)
 have g2' : (h.set b2 ⟨[i64 0, nils, nils, i64 0], 4⟩).get b2 = some ⟨[i64 0, nils, nils, i64 0], 4⟩ := H.set_get_same _ _ _
 have hb2h : (h.set b2 ⟨[i64 0, nils, nils, i64 0], 4⟩).base ≤ b2 := by simp only [H.set_base]; exact hb_b2
 generalize hH : h.set b2 ⟨[i64 0, nils, nils, i64 0], 4⟩ = hh at E0 g2' e1 nbs hbs hb2h ⊢
 skip
 have wr : ∀ k, k ≤ l.length → Wid 1 (sects (part l k)) := fun k _ => sects_wid _
 have ow : Own hh h1 (sl bs 0 (27 + l.length) (27 + l.length)) 1 (sects (part l 0)) :=
  .inr ⟨bs, 27 + l.length, 27 + l.length, by rw [List.length_map, part_len _ _ (by omega)], by rw [List.length_map, part_len _ _ (by omega)]; exact Nat.le_refl _, by rw [e1.1]; exact hbs, nbs, by rw [part_zero]; exact gs, by omega, sects_wid _⟩
 simp -implicitDefEqProofs only [go_sem, hl]
 intro b3 hb3 n3
 have n3h := e1.none n3
 have hb3h : hh.base ≤ b3 := by rw [← e1.1]; exact hb3
 have ns3 : bs ≠ b3 := fun e => by rw [← e, gs] at n3; cases n3
 have ne23 : b2 ≠ b3 := fun e => by rw [e, n3h] at g2'; cases g2'
 simp -implicitDefEqProofs only [go_sem, hb3, hl]
 refine loopW_of (fun m f1 h' => ∃ k, m + k = l.length ∧ h'.get b3 = some ⟨[sl bs 0 (27 + l.length) (27 + l.length), nils], 2⟩ ∧ Own hh h' (sl bs 0 (27 + l.length) (27 + l.length)) 1 (sects (part l k)) ∧ Ext hh h' ∧ f1 0 = .slice a l.length c ∧ f1 2 = ptr b2 0 ∧ f1 3 = ptr b3 0 ∧ f1 4 = i64 k) l.length
  ⟨0, by simp, H.set_get_same _ _ _, ow.setOb (fun e => ns3 (by simpa [ob] using e)) _, e1.set n3 _, by simp -implicitDefEqProofs only [go_sem, hl], by simp -implicitDefEqProofs only [go_sem, hl], by simp -implicitDefEqProofs only [go_sem, hl], by simp -implicitDefEqProofs only [go_sem, hl]; rfl⟩ ?_
 clear ow gs n3
 rintro m f1 h' ⟨k, hm, g3, ow, ee, f0, f2, f3, f4⟩
 have hb3' : h'.base ≤ b3 := by rw [ee.1]; exact hb3h
 by_cases hk : k < l.length
 ·obtain ⟨_, _, bd, od, e', hc', r2, r3⟩ := (hv.ext (E0.trans ee))
  rw [hl] at e' r2
  simp only [Value.slice.injEq, true_and] at e'
  obtain ⟨rfl, rfl⟩ := e'
  have d1 := r3 k [str l[k]] (by simp [hk])
  have hpl : (sects (part l k)).length = 27 + l.length := by rw [List.length_map, part_len _ _ (by omega)]
  obtain ⟨b5, c5, z, hus, hb5, nb5, g5, hst, o5⟩ := own_put ow (k := 3 + k) (by rw [hpl]; omega) (r := [str l[k]]) rfl rfl
  rw [hpl] at hus
  simp only [sl, Value.slice.injEq, true_and, Option.some.injEq, Addr.mk.injEq, and_true] at hus
  obtain ⟨rfl, rfl⟩ := hus
  have hsy : (sects (part l k)).set (3 + k) [str l[k]] = sects (part l (k + 1)) := by
   rw [← part_set l k hk, sects, sects, List.map_set]
  rw [hsy] at o5 hst
  have w3 : IntKind.i64.wrap (3 + (k : Int)) = ((3 + k : Nat) : Int) := by rw [wrap_i64 (by omega) (by omega)]; omega
  simp -implicitDefEqProofs only [go_sem, f0, f3, f4, Int.ofNat_lt, Int.natCast_nonneg, hk, r2, d1, ldc_get g3, w3, show 3 + k < 27 + l.length by omega, hb5, hst, Int.toNat_natCast, wrap_i64 (show -(9223372036854775808 : Int) ≤ ((k : Int) + 1) by omega) (show ((k : Int) + 1) < 9223372036854775808 by omega), hl]
  refine ⟨m - 1, by omega, _, Ext.refl _, k + 1, by omega, ?_, o5, ee.set' nb5 _, f2, rfl⟩
  rw [H.set_get_ne _ _ _ _ (Ne.symm ns3)]; exact g3
 have e : k = l.length := by omega
 subst e
 rw [part_all] at ow
 have sv := ow.sl
 have g2 := ee.2.g b2 _ g2'
 have fr : FlR h' (flash0 l) (sl bs 0 (27 + l.length) (27 + l.length)) nils := ⟨sv, Sl.nil _ _⟩
 have h2 : 2 ≤ (flash0 l).sec.length := by show 2 ≤ (sec0 l).length; rw [sec0_len]; omega
 have h46 := stateB_46 idle0_ok
 have hlen := metaActs_len (flash0 l) (stateB idle0)
 simp -implicitDefEqProofs only [go_sem, f0, f3, f4, Int.ofNat_lt, Nat.lt_irrefl, ldc_get g3, hl]
 refine (l12Bytes_pc idle0 (Sl.nil _ _) (Sl.nil _ _) idle0_ok).use ?_
 refine ⟨Sub.refl _, ?_⟩
 simp -implicitDefEqProofs only [go_sem, hl]
 refine AC_of (l04Acts_ac fr ho h2 (by omega)) ?_
 rintro va h5 - ⟨e5, o5⟩
 refine ⟨e5.2, ?_⟩
 simp -implicitDefEqProofs only [go_sem, hl]
 refine AC_of (l04Do_ac (fr.ext e5) o5.sl ho (metaActs_ok h2 (by omega)) (by omega)) ?_
 rintro _ h6 - ⟨e6, us, ud, rfl, f6⟩
 have p1 := f6.1.sl.one
 have p2 := f6.2.1.sl.one
 have e56 := e5.trans e6
 have g26 := e56.2.g b2 _ g2
 have g36 := e56.2.g b3 _ g3
 have hb6 : h6.base ≤ b3 := by rw [e56.1]; exact hb3'
 have hb62 : h6.base ≤ b2 := by rw [e56.1, ee.1]; exact hb2h
 refine ⟨e56.2, ?_⟩
 simp -implicitDefEqProofs only [go_sem, f0, f2, f3, stc_get g36, hb6, p1, p2, eq_false ne23, eq_false (Ne.symm ne23), stc_get g26, hb62, hl]
 exact ⟨(((E0.trans ee).trans e56).set' n_b2 _).set' (E0.none n3h) _, _, rfl, machO_f.2 ⟨us, ud, rfl, FlF.back (FlF.set (FlF.set f6 (e5.2.g b2 _ g2) _) (e5.2.g b3 _ g3) _) ((E0.trans ee).trans e5)⟩⟩
end Go.Proofs.YthjbhdmjfakfaaaGreatDoor