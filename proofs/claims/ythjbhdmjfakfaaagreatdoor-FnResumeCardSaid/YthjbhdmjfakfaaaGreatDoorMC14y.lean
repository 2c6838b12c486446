/- A helper of this seat's claims (contracts of the functions): what it shows is shown for every input that its statements name, on no other condition. -/
import Derived.Test.YthjbhdmjfakfaaaGreatDoorMC14x
import Derived.Test.YthjbhdmjfakfaaaGreatDoorMC13b
import Derived.Test.YthjbhdmjfakfaaaGreatDoorC06c
import Derived.Test.YthjbhdmjfakfaaaGreatDoorKD
set_option linter.unusedVariables false
set_option linter.unusedSimpArgs false
set_option maxRecDepth 100000
namespace Go.Proofs.YthjbhdmjfakfaaaGreatDoor
open Go.KH

theorem Box.of2 {h0 h1 h : H} {b : Nat} {f : UFlash} {vs vd : Value} {x : Ob} (o : FlO h1 h f vs vd) (e : Ext h0 h1) (g : h1.get b = some x) (n : h0.get b = none) (hb : h.base ≤ b) (e2 : Ext h1 h) : Box h0 (h.set b ⟨[vs, vd], 2⟩) b f := by
 have n1 : ob vs ≠ some b := fun q => by rw [(o.1.ob_new q).1] at g; cases g
 have n2 : ob vd ≠ some b := fun q => by rw [(o.2.1.ob_new q).1] at g; cases g
 exact ⟨vs, vd, H.set_get_same _ _ _, (o.1.back e).setOb n1 _, (o.2.1.back e).setOb n2 _, o.2.2, n1, n2, n, hb, (e.trans e2).set' n _⟩
def cutF (f : UFlash) (l : List UAct) (n : Int) (fs : List Int) : UFlash := crashF (actsDo f (l.take n.toNat)) fs
def b_impl_size_impl_Act : C := (jo [q 2 (.mv (.c (i64 0)))]
 (jo [jm 3 0, q 4 (.len (.t 3)), jm 2 4]
 .ret))
theorem w_impl_size_impl_Act : Wk Tryz.prog 168 5 [.tmp 2] b_impl_size_impl_Act := Wk.of mixedOrders Tryz.func168 (by kernel_rfl) (by kernel_rfl)

theorem sizeAct_pc {h : H} {v : Value} {rows : List (List Value)} {w : Nat} (hv : Sl h v w rows) : PC Tryz.prog 168 [v] h (i64 rows.length) := by
 obtain ⟨a, c, rfl⟩ := hv.shape
 refine PC_of ?_
 refine w_impl_size_impl_Act (by simp) ?_
 unfold b_impl_size_impl_Act
 simp -implicitDefEqProofs only [go_sem]
 exact Ext.refl _
def b_impl_Machine_cut : C := (jo [⟨(some 4), none, .box (.t 0)⟩, ⟨(some 8), none, .alloc [(i64 0), nils, nils]⟩]
 (.seq (.dops true (.tk (jf 10 1 4) (.tk (jd 11 2 10) (.tk (jm 12 1) (.tk (jm 13 2) (.tk (jm 14 1) (.alt (jc 15 168 [(.t 14)]) (.tk (q 16 (.mn (.t 13) (.t 15))) (.tk (q 17 (.lsl 3 (.t 12) none (some (.t 16)))) (.alt (jc 18 74 [(.t 11), (.t 17)]) (.sq (⟨(some 9), none, .alloc [nils, nils]⟩) (.lt (js 2 9 18) .nil)) (⟨(some 9), none, .alloc [nils, nils]⟩) (.sq (jc 18 74 [(.t 11), (.t 17)]) (.lt (js 2 9 18) .nil))))) (⟨(some 9), none, .alloc [nils, nils]⟩) (.sq (jc 15 168 [(.t 14)]) (.tk (q 16 (.mn (.t 13) (.t 15))) (.tk (q 17 (.lsl 3 (.t 12) none (some (.t 16)))) (.sq (jc 18 74 [(.t 11), (.t 17)]) (.lt (js 2 9 18) .nil))))))))))))
 (jo [jm 19 3, jc 20 169 [(.t 9), (.t 19)]]
 (jo [jf 21 0 4, jl 22 21, jd 23 2 9, q 24 (.build [(i64 0), nils, nils] [(0, 1, (.t 22)), (1, 2, (.t 23))]), js 3 8 24]
 .ret))))
theorem w_impl_Machine_cut : Wk Tryz.prog 80 25 [.cell 8 true 3] b_impl_Machine_cut := Wk.of mixedOrders Tryz.func80 (by kernel_rfl) (by kernel_rfl)

set_option maxHeartbeats 1600000 in
theorem cut_ac {h : H} {cs : List Value} {va vf : Value} {m : UMach} {l : List UAct} {n : Int} {fs : List Int} (hv : RepR h (spMach m) cs) (hf : machFit m) (ha : Sl h va 3 (l.map UAct.cells)) (hl : ∀ a ∈ l, actOk m.flash.sec.length a) (hn : l.length ≤ 1000) (h0 : 0 ≤ n) (hs : Sl h vf 1 (ints fs)) (hin : ∀ x ∈ fs, in64 x) :
  AC Tryz.prog 80 [.agg cs.toArray, va, i64 n, vf] h fun r h' => Ext h h' ∧ ∃ us ud, r = .agg #[i64 m.blocks, us, ud] ∧ FlF h h' (cutF m.flash l n fs) us ud := by
 obtain ⟨vs, vd, rfl, fr⟩ := mach_r.1 hv
 have o4 := fr.1.one
 have o5 := fr.2.one
 have c4 : vcl vs = [vs] := fr.1.vcl
 have c5 : vcl vd = [vd] := fr.2.vcl
 have o6 := ha.one
 have o7 := hs.one
 have ll : (l.map UAct.cells).length = l.length := by simp
 obtain ⟨aa, ca, rfl⟩ := ha.shape
 rw [ll] at ha
 have hok : flashOk (actsDo m.flash (l.take n.toNat)) := actsDo_ok _ hf.2.1 fun a ha => hl a (List.mem_of_mem_take ha)
 have hcap : l.length ≤ ca := by
  obtain ⟨_, _, _, _, e, hc, _⟩ := ha
  simp only [Value.slice.injEq] at e
  rw [ll] at hc
  omega
 have emin : (if (l.length : Int) < n then (l.length : Int) else n).toNat = min n.toNat l.length := by split <;> omega
 have etk : l.take (min n.toNat l.length) = l.take n.toNat := by
  by_cases hh : n.toNat ≤ l.length
  ·rw [Nat.min_eq_left hh]
  ·rw [Nat.min_eq_right (by omega), List.take_length, List.take_of_length_le (by omega)]
 have b1 : (0 : Int) ≤ (if (l.length : Int) < n then (l.length : Int) else n) := by split <;> omega
 have b2' : (if (l.length : Int) < n then (l.length : Int) else n) ≤ (ca : Int) := by split <;> omega
 have acted : ∀ {hX : H}, Ext h hX → AC Tryz.prog 74 [.agg #[vs, vd], .slice aa (min n.toNat l.length) ca] hX fun r h' => Ext hX h' ∧ ∃ us ud, r = .agg #[us, ud] ∧ FlO hX h' (actsDo m.flash (l.take n.toNat)) us ud := fun e => by
  have ht := (ha.ext e).take (hi := min n.toNat l.length) (Nat.min_le_right _ _)
  rw [← List.map_take, etk] at ht
  exact actedO_ac (fr.ext e) ht hf.2.1 (fun a ha => hl a (List.mem_of_mem_take ha)) (by rw [List.length_take]; omega)
 skip
 refine w_impl_Machine_cut (by simp) ?_
 unfold b_impl_Machine_cut
 refine wpc_cut (fun f1 h1 => ∃ b4 b8, f1 4 = ptr b4 0 ∧ f1 8 = ptr b8 0 ∧ f1 1 = .slice aa l.length ca ∧ f1 2 = i64 n ∧ f1 3 = vf ∧ h1.get b4 = some ⟨[i64 m.blocks, vs, vd], 3⟩ ∧ h1.get b8 = some ⟨[i64 0, nils, nils], 3⟩ ∧ h1.base ≤ b8 ∧ h.get b8 = none ∧ Ext h h1) ?_ ?_
 ·simp -implicitDefEqProofs only [go_sem, o4, o5, c4, c5, o6, o7, ll]
  intro b4 hb_b4 n_b4
  simp -implicitDefEqProofs only [go_sem, o4, o5, c4, c5, o6, o7, ll, hb_b4]
  intro b8 hb_b8 m0_b8
  obtain ⟨z_b8_b4, y_b8_b4, n_b8⟩ := fne m0_b8
  simp only [H.set_base] at hb_b8
  simp -implicitDefEqProofs only [go_sem, o4, o5, c4, c5, o6, o7, ll, hb_b4, hb_b8, z_b8_b4, y_b8_b4]
  exact ⟨b4, b8, rfl, rfl, by simp -implicitDefEqProofs only [go_sem, o4, o5, c4, c5, o6, o7, ll, hb_b4, hb_b8, z_b8_b4, y_b8_b4], by simp -implicitDefEqProofs only [go_sem, o4, o5, c4, c5, o6, o7, ll, hb_b4, hb_b8, z_b8_b4, y_b8_b4], hb_b8, n_b8, (((Ext.refl _).set' n_b4 _).set' n_b8 _)⟩
 skip
 rintro f1 hS ⟨b4, b8, q4, q8, q1, q2, q3, g4, g8, hb8, n8, E0⟩
 refine wpc_cut (fun f2 h2 => ∃ b9, f2 4 = ptr b4 0 ∧ f2 8 = ptr b8 0 ∧ f2 9 = ptr b9 0 ∧ f2 3 = vf ∧ Box hS h2 b9 (actsDo m.flash (l.take n.toNat))) ?_ ?_
 ·simp -implicitDefEqProofs only [go_sem, q4, q8, q1, q2, q3, ldc_get g4, o4, o5, c4, c5, o6, o7, ll]
  refine ⟨?_, ?_⟩
  ·refine (sizeAct_pc (ha.ext E0)).use ?_
   simp -implicitDefEqProofs only [go_sem, Sub.refl, b1, b2', emin, o4, o5, c4, c5, o6, o7, ll]
   refine ⟨?_, ?_⟩
   ·refine AC_of (acted E0) ?_
    rintro _ h3 - ⟨e3, us, ud, rfl, o⟩
    refine ⟨e3.2, ?_⟩
    have p1 := o.1.sl.one
    have p2 := o.2.1.sl.one
    simp -implicitDefEqProofs only [go_sem, o4, o5, c4, c5, o6, o7, ll]
    intro b9 hb9 n9
    refine ⟨(e3.set n9 _).2, ?_⟩
    simp -implicitDefEqProofs only [go_sem, p1, p2, hb9, q4, q8, q3, o4, o5, c4, c5, o6, o7, ll]
    exact ⟨b9, rfl, Box.of o e3 n9 hb9⟩
   ·intro b9 hb9 n9
    have e9 := (Ext.refl hS).set n9 ⟨[nils, nils], 2⟩
    refine ⟨e9.2, ?_⟩
    simp -implicitDefEqProofs only [go_sem, b1, b2', emin, o4, o5, c4, c5, o6, o7, ll]
    refine AC_of (acted (E0.trans e9)) ?_
    rintro _ h3 - ⟨e3, us, ud, rfl, o⟩
    refine ⟨(e9.trans e3).2, ?_⟩
    have p1 := o.1.sl.one
    have p2 := o.2.1.sl.one
    have g9 := e3.2.g b9 _ (H.set_get_same _ _ _)
    have hb9' : h3.base ≤ b9 := by rw [e3.1, H.set_base]; exact hb9
    simp -implicitDefEqProofs only [go_sem, p1, p2, hb9', stc_get g9, q4, q8, q3, o4, o5, c4, c5, o6, o7, ll]
    exact ⟨b9, rfl, Box.of2 o e9 (H.set_get_same _ _ _) n9 hb9' e3⟩
  ·intro b9 hb9 n9
   have e9 := (Ext.refl hS).set n9 ⟨[nils, nils], 2⟩
   refine ⟨e9.2, ?_⟩
   simp -implicitDefEqProofs only [go_sem, o4, o5, c4, c5, o6, o7, ll]
   refine (sizeAct_pc (ha.ext (E0.trans e9))).use ?_
   refine ⟨e9.2, ?_⟩
   simp -implicitDefEqProofs only [go_sem, b1, b2', emin, o4, o5, c4, c5, o6, o7, ll]
   refine AC_of (acted (E0.trans e9)) ?_
   rintro _ h3 - ⟨e3, us, ud, rfl, o⟩
   refine ⟨(e9.trans e3).2, ?_⟩
   have p1 := o.1.sl.one
   have p2 := o.2.1.sl.one
   have g9 := e3.2.g b9 _ (H.set_get_same _ _ _)
   have hb9' : h3.base ≤ b9 := by rw [e3.1, H.set_base]; exact hb9
   simp -implicitDefEqProofs only [go_sem, p1, p2, hb9', stc_get g9, q4, q8, q3, o4, o5, c4, c5, o6, o7, ll]
   exact ⟨b9, rfl, Box.of2 o e9 (H.set_get_same _ _ _) n9 hb9' e3⟩
 rintro f2 h2 ⟨b9, r4, r8, r9, r3, B⟩
 simp -implicitDefEqProofs only [go_sem, r9, r3, o4, o5, c4, c5, o6, o7, ll]
 refine AC_of (crash_ac B (hs.ext E0) hok hin) ?_
 rintro r h3 - B3
 obtain ⟨ws, wd, g9, oo⟩ := Box.flO B3
 have e3 := Box.ext B3
 have g43 := e3.2.g b4 _ g4
 have g83 := e3.2.g b8 _ g8
 have hb83 : h3.base ≤ b8 := by rw [e3.1]; exact hb8
 have p1 := oo.1.sl.one
 have p2 := oo.2.1.sl.one
 have v1 := oo.1.sl.vcl
 have v2 := oo.2.1.sl.vcl
 simp -implicitDefEqProofs only [go_sem, r4, r8, r9, ldc_get g43, ldc_get g9, stc_get g83, hb83, p1, p2, v1, v2, o4, o5, c4, c5, o6, o7, ll]
 exact ⟨(E0.trans e3).set' n8 _, ws, wd, rfl, ((oo.setK g8 _).back E0).f⟩
end Go.Proofs.YthjbhdmjfakfaaaGreatDoor
namespace Go.Proofs.YthjbhdmjfakfaaaGreatDoor
open Go.KH

theorem bys_flat : ∀ l : List UInt8, (bys l).flatten = u8s l
 | [] => rfl
 | b :: l => by
  have := bys_flat l
  simp only [bys, u8s] at this
  simp only [bys, u8s, List.map_cons, List.flatten_cons, this]
  rfl
theorem bytesOf_u8s (l : List UInt8) : bytesOf (u8s l) = some l := by rw [← bys_flat, bytesOf_bys]
def b_impl_xored : C := (jo [q 4 (.mv (.c (str [])))]
 (jo [jm 7 0, ⟨(some 8), none, .s2b (.t 7)⟩, jm 5 8]
 (.seq (jo [jm 9 5, q 10 (.len (.t 9)), q 11 (.mv (.c (i64 0)))]
 (.block 0 (.loop (jo [jb 12 .lss 11 10]
 (.seq (.cond (.t 12) .skip (.exit 0))
 (.seq (.block 1 (jo [jm 13 11, jm 6 13]
 (.dops true (.tk (jm 14 5) (.tk (jm 15 6) (.tk (q 16 (.idx 1 (.t 14) (.t 15))) (.tk (jl 17 16) (.tk (jm 18 1) (.tk (jm 19 6) (.tk (q 20 (.sidx (.t 18) (.t 19))) (.tk (jb 21 .xor 17 20) (.tk (q 22 (.idx 1 (.t 14) (.t 15))) (.lt (js 1 22 21) .nil)))))))))))))
 (.ops [jk 23 .add 11 1, jm 11 23])))))))
 (jo [jm 24 5, q 25 (.b2s (.t 24)), jm 4 25]
 .ret))))
theorem w_impl_xored : Wk Tryz.prog 93 26 [.tmp 4] b_impl_xored := Wk.of mixedOrders Tryz.func93 (by kernel_rfl) (by kernel_rfl)

theorem xored_pc (h : H) {x y : List UInt8} (hx : x.length = 8) (hy : y.length = 8) : PC Tryz.prog 93 [str x, str y] h (str (xorB x y)) := by
 refine PC_of ?_
 refine w_impl_xored (by simp) ?_
 unfold b_impl_xored
 simp -implicitDefEqProofs only [go_sem]
 intro b8 hb8 n8 c hc
 simp -implicitDefEqProofs only [go_sem]
 refine loopW_of (fun m f h' => ∃ k, m + k = 8 ∧ Ext h h' ∧ h'.get b8 = some ⟨u8s (xorP x y k), c⟩ ∧ f 1 = str y ∧ f 5 = sl b8 0 8 c ∧ f 10 = i64 8 ∧ f 11 = i64 k) 8
  ⟨0, by simp, (Ext.refl _).set n8 _, by rw [xorP_0, H.set_get_same], by simp -implicitDefEqProofs only [go_sem], by rw [← hx]; simp -implicitDefEqProofs only [go_sem], by simp -implicitDefEqProofs only [go_sem]; rw [hx]; rfl, by simp -implicitDefEqProofs only [go_sem]; rfl⟩ ?_
 rintro m f h' ⟨k, hm, he, hg, f1, f5, f10, f11⟩
 have hb1 := he.1
 skip
 by_cases hk : k < 8
 ·have hl := xorP_len hx hy (show k ≤ 8 by omega)
  have e1 := xorP_get hx hy hk
  have e2 : y[k]? = some (y[k]'(by omega)) := List.getElem?_eq_getElem _
  have e3 : ldc h' b8 (k * 1) 1 = some [.int .u8 ((x[k]'(by omega)).toNat : Int)] := by
   rw [ldc_get hg, if_pos (by simp [u8s, hl]; omega)]
   congr 1
   obtain ⟨h1, h2⟩ := List.getElem?_eq_some_iff.1 e1
   rw [Nat.mul_one, List.drop_eq_getElem_cons (by simpa [u8s] using h1)]
   simp [u8s, h2]
  have e4 : ∀ z : UInt8, stc h' b8 (k * 1) [.int .u8 (z.toNat : Int)] 1 = some (h'.set b8 ⟨u8s ((xorP x y k).set k z), c⟩) := by
   intro z
   rw [stc_get hg, if_pos ⟨rfl, by simp [u8s, hl]; omega, rfl⟩, u8s, Nat.mul_one, splice_set (fun b : UInt8 => (.int .u8 b.toNat : Value)) _ _ _ (by omega)]
   rfl
  have e5 := xor_u8 (x[k]'(by omega)) (y[k]'(by omega))
  simp -implicitDefEqProofs only [go_sem, hk, show ((k : Int) < 8) by omega, e3, e2, e5, e4, xorP_succ hx hy hk, wrap_i64 (show -(9223372036854775808 : Int) ≤ ((k : Int) + 1) by omega) (show ((k : Int) + 1) < 9223372036854775808 by omega), f1, f5, f10, f11, Int.ofNat_lt, Int.natCast_nonneg, hb8, hb1]
  exact ⟨m - 1, by omega, _, Ext.refl _, k + 1, by omega, he.set' n8 _, H.set_get_same _ _ _, rfl⟩
 ·have e : k = 8 := by omega
  subst e
  rw [xorP_8 hx hy] at hg
  have hlb : (xorB x y).length = 8 := by rw [xorB_len (by omega), hx]
  have e6 : (u8s (xorB x y)).length = 8 := by simp [u8s, hlb]
  simp -implicitDefEqProofs only [go_sem, show ¬ (((8 : Nat) : Int) < 8) by omega, Nat.lt_irrefl, ldc_get hg, e6, take_len e6, bytesOf_u8s, f1, f5, f10, f11, Int.ofNat_lt, Int.natCast_nonneg, hb8, hb1]
  exact he
def b_spec_Xored : C := (jo [q 4 (.mv (.c (str [])))]
 (.seq (jo [jm 7 0, q 8 (.slen (.t 7)), jk 9 .neq 8 8, jm 10 9, qg 11 10 false (.mv (.t 1)), qg 12 10 false (.slen (.t 11)), qg 13 10 false (.bin .neq (.t 12) (.c (i64 8))), q 14 (.pick (.t 10) (.c (.bool true)) (.t 13))]
 (.cond (.t 14) (jo [q 4 (.mv (.c (str [])))]
 .ret) .skip))
 (jo [⟨(some 15), none, .mks 1 1 [(u8 0)] (.c (i64 8)) (.c (i64 8))⟩, jm 5 15]
 (.seq (jo [q 6 (.mv (.c (i64 0)))]
 (.block 0 (.loop (.seq (jo [jm 16 6, jk 17 .lss 16 8]
 (.cond (.t 17) .skip (.exit 0)))
 (.seq (.block 1 (.dops false (.tk (jm 20 5) (.tk (jm 21 6) (.tk (jm 22 0) (.tk (jm 23 6) (.tk (q 24 (.sidx (.t 22) (.t 23))) (.tk (jm 25 1) (.tk (jm 26 6) (.tk (q 27 (.sidx (.t 25) (.t 26))) (.tk (jb 28 .xor 24 27) (.tk (q 29 (.idx 1 (.t 20) (.t 21))) (.lt (js 1 29 28) .nil)))))))))))))
 (.ops [jm 18 6, jk 19 .add 18 1, jm 6 19]))))))
 (jo [jm 30 5, q 31 (.b2s (.t 30)), jm 4 31]
 .ret)))))
theorem w_spec_Xored : Wk Tryz.prog 190 32 [.tmp 4] b_spec_Xored := Wk.of mixedOrders Tryz.func190 (by kernel_rfl) (by kernel_rfl)

theorem specXored_pc (h : H) {x y : List UInt8} (hx : x.length = 8) (hy : y.length = 8) : PC Tryz.prog 190 [str x, str y] h (str (xorB x y)) := by
 refine PC_of ?_
 refine w_spec_Xored (by simp) ?_
 unfold b_spec_Xored
 simp -implicitDefEqProofs only [go_sem]
 simp -implicitDefEqProofs only [go_sem, show ((x.length : Int) = 8) by omega, show ((y.length : Int) = 8) by omega]
 refine Req.of (by decide) ?_
 simp -implicitDefEqProofs only [go_sem, Int.reduceToNat]
 intro b8 hb8 n8
 simp -implicitDefEqProofs only [go_sem]
 refine loopW_of (fun m f h' => ∃ k, m + k = 8 ∧ Ext h h' ∧ h'.get b8 = some ⟨u8s ((xorB x y).take k ++ List.replicate (8 - k) 0), 8⟩ ∧ f 0 = str x ∧ f 1 = str y ∧ f 5 = sl b8 0 8 8 ∧ f 6 = i64 k) 8
  ⟨0, by simp, (Ext.refl _).set n8 _, by rw [H.set_get_same]; rfl, by simp -implicitDefEqProofs only [go_sem], by simp -implicitDefEqProofs only [go_sem], by simp -implicitDefEqProofs only [go_sem], by simp -implicitDefEqProofs only [go_sem]; rfl⟩ ?_
 rintro m f h' ⟨k, hm, he, hg, f0, f1, f5, f6⟩
 have hb1 := he.1
 have hlb : (xorB x y).length = 8 := by rw [xorB_len (by omega), hx]
 skip
 by_cases hk : k < 8
 ·have hl : ((xorB x y).take k ++ List.replicate (8 - k) (0 : UInt8)).length = 8 := by simp [hlb]; omega
  have e1 : x[k]? = some (x[k]'(by omega)) := List.getElem?_eq_getElem _
  have e2 : y[k]? = some (y[k]'(by omega)) := List.getElem?_eq_getElem _
  have e7 : ((xorB x y).take k ++ List.replicate (8 - k) (0 : UInt8)).set k (x[k]'(by omega) ^^^ y[k]'(by omega)) = (xorB x y).take (k + 1) ++ List.replicate (8 - (k + 1)) 0 := by
   rw [List.set_append_right _ _ (by simp; omega), List.length_take, hlb, show k - min k 8 = 0 by omega, show 8 - k = (8 - (k + 1)) + 1 by omega, List.replicate_succ, List.set_cons_zero, List.take_succ_eq_append_getElem (by omega), List.append_assoc]
   simp [xorB]
  have e4 : ∀ z : UInt8, stc h' b8 (k * 1) [.int .u8 (z.toNat : Int)] 1 = some (h'.set b8 ⟨u8s (((xorB x y).take k ++ List.replicate (8 - k) (0 : UInt8)).set k z), 8⟩) := by
   intro z
   rw [stc_get hg, if_pos ⟨rfl, by simp only [u8s, List.length_map, hl]; omega, rfl⟩, u8s, Nat.mul_one, splice_set (fun b : UInt8 => (.int .u8 b.toNat : Value)) _ _ _ (by omega)]
   rfl
  have e5 := xor_u8 (x[k]'(by omega)) (y[k]'(by omega))
  simp -implicitDefEqProofs only [go_sem, hk, show ((k : Int) < 8) by omega, e1, e2, e5, e4, e7, wrap_i64 (show -(9223372036854775808 : Int) ≤ ((k : Int) + 1) by omega) (show ((k : Int) + 1) < 9223372036854775808 by omega), f0, f1, f5, f6, Int.ofNat_lt, Int.natCast_nonneg, hb8, hb1]
  exact ⟨m - 1, by omega, _, Ext.refl _, k + 1, by omega, he.set' n8 _, H.set_get_same _ _ _, rfl⟩
 ·have e : k = 8 := by omega
  subst e
  have e7 : (xorB x y).take 8 ++ List.replicate (8 - 8) (0 : UInt8) = xorB x y := by rw [List.take_of_length_le (by omega)]; simp
  rw [e7] at hg
  have e6 : (u8s (xorB x y)).length = 8 := by simp [u8s, hlb]
  simp -implicitDefEqProofs only [go_sem, show ¬ (((8 : Nat) : Int) < 8) by omega, Nat.lt_irrefl, ldc_get hg, e6, take_len e6, bytesOf_u8s, f0, f1, f5, f6, Int.ofNat_lt, Int.natCast_nonneg, hb8, hb1]
  exact he
def b_spec_l07Zero : C := (jo [q 0 (.mv (.c (str [])))]
 (jo [⟨(some 1), none, .mks 1 1 [(u8 0)] (.c (i64 8)) (.c (i64 8))⟩, q 2 (.b2s (.t 1)), jm 0 2]
 .ret))
theorem w_spec_l07Zero : Wk Tryz.prog 188 3 [.tmp 0] b_spec_l07Zero := Wk.of mixedOrders Tryz.func188 (by kernel_rfl) (by kernel_rfl)

theorem l07Zero_pc (h : H) : PC Tryz.prog 188 [] h (str zero8) := by
 refine PC_of ?_
 refine w_spec_l07Zero (by simp) ?_
 unfold b_spec_l07Zero
 simp -implicitDefEqProofs only [go_sem]
 refine Req.of (by decide) ?_
 simp -implicitDefEqProofs only [go_sem, Int.reduceToNat]
 intro b8 hb8 n8
 have e6 : (List.replicate 8 [Value.int .u8 0]).flatten = u8s zero8 := rfl
 have e7 : (u8s zero8).length = 8 := rfl
 simp -implicitDefEqProofs only [go_sem, e6, e7, take_len e7, bytesOf_u8s]
 exact (Ext.refl _).set n8 _
def makeOk (s : UStep) (src : List UInt8) : Prop := (1 ≤ s.kind ∧ s.kind ≤ 4) ∧ (s.kind = 4 → s.data.length = 8 ∧ src.length = 8)
def b_impl_madeBy : C := (jo [⟨(some 2), none, .box (.t 0)⟩, q 4 (.mv (.c (str [])))]
 (.seq (jo [jf 5 0 2, jl 6 5]
 (.block 0 (jo [jk 8 .eql 6 1, jm 7 8]
 (.cond (.t 7) (jo [q 4 (.mv (.c (str [0, 0, 0, 0, 0, 0, 0, 0])))]
 .ret) (jo [jk 10 .eql 6 2, jm 9 10]
 (.cond (.t 9) (jo [jf 11 3 2, jl 12 11, jm 4 12]
 .ret) (jo [jk 14 .eql 6 3, jm 13 14]
 (.cond (.t 13) (jo [jm 15 1, jm 4 15]
 .ret) .skip))))))))
 (jo [jm 16 1, jf 17 3 2, jl 18 17, jc 19 93 [(.t 16), (.t 18)], jm 4 19]
 .ret)))
theorem w_impl_madeBy : Wk Tryz.prog 126 20 [.tmp 4] b_impl_madeBy := Wk.of mixedOrders Tryz.func126 (by kernel_rfl) (by kernel_rfl)

theorem madeBy_pc (h : H) (s : UStep) {src : List UInt8} (hk : makeOk s src) : PC Tryz.prog 126 [.agg s.cells.toArray, str src] h (str (makeB s src)) := by
 obtain ⟨kind, dst, sr, data⟩ := s
 obtain ⟨⟨k1, k2⟩, k4⟩ := hk
 simp only at k1 k2 k4
 refine PC_of ?_
 unfold makeB
 refine w_impl_madeBy (by simp) ?_
 unfold b_impl_madeBy
 simp -implicitDefEqProofs only [go_sem]
 intro b2 hb_b2 n_b2
 simp -implicitDefEqProofs only [go_sem, hb_b2]
 by_cases h1 : kind = 1
 ·subst h1
  simp -implicitDefEqProofs only [go_sem, hb_b2]
  exact ⟨((Ext.refl _).set' n_b2 _), rfl⟩
 by_cases h2 : kind = 2
 ·subst h2
  simp -implicitDefEqProofs only [go_sem, hb_b2]
  exact ((Ext.refl _).set' n_b2 _)
 by_cases h3 : kind = 3
 ·subst h3
  simp -implicitDefEqProofs only [go_sem, hb_b2]
  exact ((Ext.refl _).set' n_b2 _)
 have h4 : kind = 4 := by omega
 subst h4
 simp -implicitDefEqProofs only [go_sem, hb_b2]
 refine (xored_pc _ (k4 rfl).2 (k4 rfl).1).use ?_
 simp -implicitDefEqProofs only [go_sem, hb_b2]
 exact ((Ext.refl _).set' n_b2 _)
end Go.Proofs.YthjbhdmjfakfaaaGreatDoor