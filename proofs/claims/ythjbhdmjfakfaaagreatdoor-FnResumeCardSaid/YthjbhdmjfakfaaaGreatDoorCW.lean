/- A helper of this seat's claims (contracts of the functions): what it shows is shown for every input that its statements name, on no other condition. -/
import Derived.Test.YthjbhdmjfakfaaaGreatDoorMCH
import Derived.Test.YthjbhdmjfakfaaaGreatDoorKD
set_option linter.unusedVariables false
set_option linter.unusedSimpArgs false
set_option maxRecDepth 100000
namespace Go.Proofs.YthjbhdmjfakfaaaGreatDoor
open Go.KH

theorem dirty_wid (l : List UDirty) : Wid 2 (l.map UDirty.cells) := Wid.map fun _ => rfl
theorem dirty_one (l : List UDirty) : (l.map UDirty.cells).flatten.all Value.oneCell' = true := by
 induction l with
 | nil => rfl
 | cons d l ih => simp only [List.map_cons, List.flatten_cons, List.all_append, ih, Bool.and_true]; rfl
theorem sects_wid (l : List (List UInt8)) : Wid 1 (sects l) := Wid.map fun _ => rfl
theorem sects_one (l : List (List UInt8)) : (sects l).flatten.all Value.oneCell' = true := by simp [sects, oneCell_str]
theorem flat_cut {l : List UDirty} {k : Nat} (hk : k < l.length) : (l.map UDirty.cells).flatten = ((l.take k).map UDirty.cells).flatten ++ (i64 l[k].place :: str l[k].data :: ((l.drop (k + 1)).map UDirty.cells).flatten) := by
 conv => lhs; rw [← List.take_append_drop k l, List.drop_eq_getElem_cons hk]
 rw [List.map_append, List.flatten_append, List.map_cons, List.flatten_cons]
 rfl
theorem own_putD {h0 h : H} {v : Value} {l : List UDirty} (f : Own h0 h v 2 (l.map UDirty.cells)) {k : Nat} (hk : k < l.length) (d : List UInt8) :
  ∃ b c z, v = sl b 0 l.length c ∧ h.base ≤ b ∧ h0.get b = none ∧ h.get b = some ⟨(l.map UDirty.cells).flatten, z⟩ ∧ stc h b (k * 2 + 1) [str d] 1 = some (h.set b ⟨((l.set k ⟨l[k].place, d⟩).map UDirty.cells).flatten, z⟩) ∧ Own h0 (h.set b ⟨((l.set k ⟨l[k].place, d⟩).map UDirty.cells).flatten, z⟩) v 2 ((l.set k ⟨l[k].place, d⟩).map UDirty.cells) := by
 rcases f with ⟨rfl, e⟩ | ⟨b, c, z, rfl, hlc, hb, h0b, hg, hcz, hw⟩
 ·have : l = [] := List.map_eq_nil_iff.1 e
  subst this; simp at hk
 have hl := flat_length hw
 rw [List.length_map] at hl hlc
 refine ⟨b, c, z, by rw [List.length_map], hb, h0b, hg, ?_, .inr ⟨b, c, z, by simp, by simpa using hlc, hb, h0b, H.set_get_same _ _ _, hcz, dirty_wid _⟩⟩
 rw [stc_get hg, if_pos ⟨rfl, by simp only [hl]; omega, rfl⟩]
 simp only
 congr 3
 have h1 : (((l.take k).map UDirty.cells).flatten).length = k * 2 := by rw [flat_length (dirty_wid _)]; simp; omega
 rw [flat_cut hk, splice_app _ _ _ 1 (by omega), splice_s, splice_z]
 rw [List.set_eq_take_append_cons_drop, if_pos hk, List.map_append, List.flatten_append, List.map_cons, List.flatten_cons]
 rfl
def FlO (h0 h : H) (f : UFlash) (vs vd : Value) : Prop := Own h0 h vs 1 (sects f.sec) ∧ Own h0 h vd 2 (f.dirty.map UDirty.cells) ∧ Ap vs vd
theorem FlO.f {h0 h : H} {f : UFlash} {vs vd : Value} (o : FlO h0 h f vs vd) : FlF h0 h f vs vd := ⟨o.1.fre, o.2.1.fre, o.2.2.dj⟩
theorem FlO.r {h0 h : H} {f : UFlash} {vs vd : Value} (o : FlO h0 h f vs vd) : FlR h f vs vd := o.f.r
theorem FlO.ext {h0 h h' : H} {f : UFlash} {vs vd : Value} (o : FlO h0 h f vs vd) (e : Ext h h') : FlO h0 h' f vs vd := ⟨o.1.ext e, o.2.1.ext e, o.2.2⟩
theorem FlO.back {h0 h1 h : H} {f : UFlash} {vs vd : Value} (o : FlO h1 h f vs vd) (e : Ext h0 h1) : FlO h0 h f vs vd := ⟨o.1.back e, o.2.1.back e, o.2.2⟩
theorem FlO.setK {h0 h : H} {f : UFlash} {vs vd : Value} (o : FlO h0 h f vs vd) {b : Nat} {x : Ob} (hb : h0.get b = some x) (y : Ob) : FlO h0 (h.set b y) f vs vd :=
 ⟨o.1.setOb (fun e => by rw [(o.1.ob_new e).1] at hb; cases hb) y, o.2.1.setOb (fun e => by rw [(o.2.1.ob_new e).1] at hb; cases hb) y, o.2.2⟩
theorem cloneStrsO_ac {h : H} {v : Value} {l : List (List UInt8)} (hv : Sl h v 1 (strs l)) (hb : l.length ≤ 1048576) : AC Tryz.prog 124 [v] h fun v' h' => Ext h h' ∧ Own h h' v' 1 (strs l) := by
 obtain ⟨a, c, rfl⟩ := hv.shape
 have hl : (strs l).length = l.length := by simp
 refine w_slices_Clone_string_string (by simp) ?_
 unfold b_slices_Clone_string_string
 simp -implicitDefEqProofs only [go_sem]
 cases a with
 | none =>
  simp -implicitDefEqProofs only [go_sem, Option.isNone_none]
  exact ⟨Ext.refl _, .inl ⟨rfl, hv.none⟩⟩
 | some a =>
  simp -implicitDefEqProofs only [go_sem, Option.isNone_some]
  intro b1 hb1 hn1
  have hsrc := src0 hn1 hv (strs_wid l) (by decide)
  simp -implicitDefEqProofs only [go_sem, hsrc]
  refine app0 hb1 hn1 rfl (strs_wid l) (strs_one l) (by rw [hl]; omega) ?_
  intro v' h' e o
  simp -implicitDefEqProofs only [go_sem]
  exact ⟨e, o⟩
def b_slices_Clone_impl_Dirty_impl_Dirty : C := (jo [q 2 (.mv (.c nils))]
 (.seq (jo [jm 3 0, q 4 (.eqs false (.t 3) (.c nils))]
 (.cond (.t 4) (jo [q 2 (.mv (.c nils))]
 .ret) .skip))
 (jo [⟨(some 5), none, .bsl 0 [] []⟩, jm 6 0, ⟨(some 7), none, .app 2 24 (.t 5) (.t 6)⟩, jm 2 7]
 .ret)))
theorem w_slices_Clone_impl_Dirty_impl_Dirty : Wk Tryz.prog 214 8 [.tmp 2] b_slices_Clone_impl_Dirty_impl_Dirty := Wk.of mixedOrders Tryz.func214 (by kernel_rfl) (by kernel_rfl)

theorem cloneDirty_ac {h : H} {v : Value} {l : List UDirty} (hv : Sl h v 2 (l.map UDirty.cells)) (hb : l.length ≤ 1048576) : AC Tryz.prog 214 [v] h fun v' h' => Ext h h' ∧ Own h h' v' 2 (l.map UDirty.cells) := by
 obtain ⟨a, c, rfl⟩ := hv.shape
 have hl : (l.map UDirty.cells).length = l.length := by simp
 refine w_slices_Clone_impl_Dirty_impl_Dirty (by simp) ?_
 unfold b_slices_Clone_impl_Dirty_impl_Dirty
 simp -implicitDefEqProofs only [go_sem]
 cases a with
 | none =>
  simp -implicitDefEqProofs only [go_sem, Option.isNone_none]
  exact ⟨Ext.refl _, .inl ⟨rfl, hv.none⟩⟩
 | some a =>
  simp -implicitDefEqProofs only [go_sem, Option.isNone_some]
  intro b1 hb1 hn1
  have hsrc := src0 hn1 hv (dirty_wid l) (by decide)
  simp -implicitDefEqProofs only [go_sem, hsrc]
  refine app0 hb1 hn1 rfl (dirty_wid l) (dirty_one l) (by rw [hl]; omega) ?_
  intro v' h' e o
  simp -implicitDefEqProofs only [go_sem]
  exact ⟨e, o⟩
def b_impl_cloneFlash : C := (jo [⟨(some 1), none, .box (.t 0)⟩, ⟨(some 2), none, .alloc [nils, nils]⟩]
 (.seq (.dops true (.tk (jf 3 0 1) (.tk (jl 4 3) (.tk (jf 6 1 1) (.tk (jl 7 6) (.sq (jc 5 124 [(.t 4)]) (.sq (jc 8 214 [(.t 7)]) (.tk (q 9 (.build [nils, nils] [(0, 1, (.t 5)), (1, 1, (.t 8))])) (.lt (js 2 2 9) .nil)))))))))
 .ret))
theorem w_impl_cloneFlash : Wk Tryz.prog 154 10 [.cell 2 true 2] b_impl_cloneFlash := Wk.of mixedOrders Tryz.func154 (by kernel_rfl) (by kernel_rfl)

theorem cloneFlash_ac {h : H} {vs vd : Value} {f : UFlash} (hv : FlR h f vs vd) (hs : f.fin1) : AC Tryz.prog 154 [.agg #[vs, vd]] h fun r h' => Ext h h' ∧ ∃ us ud, r = .agg #[us, ud] ∧ FlO h h' f us ud := by
 have o1 := hv.1.one
 have o2 := hv.2.one
 skip
 refine w_impl_cloneFlash (by simp) ?_
 unfold b_impl_cloneFlash
 simp -implicitDefEqProofs only [go_sem, o1, o2]
 intro b1 hb_b1 n_b1
 simp -implicitDefEqProofs only [go_sem, o1, o2, hb_b1]
 intro b2 hb_b2 m0_b2
 obtain ⟨z_b2_b1, y_b2_b1, n_b2⟩ := fne m0_b2
 simp only [H.set_base] at hb_b2
 simp -implicitDefEqProofs only [go_sem, o1, o2, hb_b1, hb_b2, z_b2_b1, y_b2_b1]
 refine AC_of (cloneStrsO_ac (hv.1.ext (((Ext.refl _).set' n_b1 _).set' n_b2 _)) hs.1) ?_
 rintro v1 h1 - ⟨e1, f1⟩
 simp -implicitDefEqProofs only [go_sem, e1.2, o1, o2, hb_b1, hb_b2, z_b2_b1, y_b2_b1]
 have E1 := ((((Ext.refl _).set' n_b1 _).set' n_b2 _)).trans e1
 refine AC_of (cloneDirty_ac (hv.2.ext E1) hs.2) ?_
 rintro v2 h2 - ⟨e2, f2⟩
 have g2 := (e1.trans e2).2.g b2 _ (by simp -implicitDefEqProofs only [go_sem, o1, o2, hb_b1, hb_b2, z_b2_b1, y_b2_b1]; rfl)
 have hb4 := (e1.trans e2).1
 simp only [H.set_base] at hb4
 have p1 := f1.sl.one
 have p2 := f2.sl.one
 have p3 := f1.sl.vcl
 have p4 := f2.sl.vcl
 simp -implicitDefEqProofs only [go_sem, (e1.trans e2).2, ldc_get g2, stc_get g2, hb4, p1, p2, p3, p4, o1, o2, hb_b1, hb_b2, z_b2_b1, y_b2_b1]
 have E2 := (E1.trans e2)
 have o : FlO _ h2 f v1 v2 := ⟨f1.ext e2, f2.back e1, f1.ap f2⟩
 exact ⟨E2.set' n_b2 _, _, _, rfl, (o.setK (H.set_get_same _ _ _) _).back (((Ext.refl _).set' n_b1 _).set' n_b2 _)⟩
def b_impl_Flash_write : C := (jo [jm 7 0, q 8 (.nck (.t 7)), jd 9 2 8, jm 10 1, jc 11 215 [(.t 9), (.t 10)], jm 6 11]
 (jo [jm 12 6, jk 13 .geq 12 0]
 (.cond (.t 13) (.ops [jm 14 0, q 15 (.nck (.t 14)), jf 16 1 15, jl 17 16, jm 18 6, jm 19 2, q 20 (.idx 2 (.t 17) (.t 18)), jf 21 1 20, js 1 21 19]) (.ops [jm 22 0, jm 23 0, q 24 (.nck (.t 23)), jf 25 1 24, jl 26 25, jm 27 1, jm 28 2, q 29 (.build [(i64 0), (str [])] [(0, 1, (.t 27)), (1, 1, (.t 28))]), ⟨(some 30), none, .bsl 1 [(i64 0), (str [])] [(0, 2, (.t 29))]⟩, ⟨(some 31), none, .app 2 24 (.t 26) (.t 30)⟩, q 32 (.nck (.t 22)), jf 33 1 32, js 1 33 31]))))
theorem w_impl_Flash_write : Wk Tryz.prog 156 34 [] b_impl_Flash_write := Wk.of mixedOrders Tryz.func156 (by kernel_rfl) (by kernel_rfl)

theorem Box.ext {h0 h : H} {b : Nat} {f : UFlash} (x : Box h0 h b f) : Ext h0 h := by obtain ⟨_, _, _, _, _, _, _, _, _, _, e⟩ := x; exact e
theorem Box.grow {h0 h h' : H} {b : Nat} {f : UFlash} (x : Box h0 h b f) (e : Ext h h') : Box h0 h' b f := by
 obtain ⟨vs, vd, g, o1, o2, ap, n1, n2, n, hb, ex⟩ := x
 exact ⟨vs, vd, e.2.g _ _ g, o1.ext e, o2.ext e, ap, n1, n2, n, by rw [e.1]; exact hb, ex.trans e⟩
theorem write_ac {h0 h : H} {b : Nat} {f : UFlash} {n : Int} {d : List UInt8} (hB : Box h0 h b f) (hs : f.dirty.length ≤ 1000) : AC Tryz.prog 156 [ptr b 0, i64 n, str d] h fun r h' => Box h0 h' b (flashPut f n d) := by
 obtain ⟨vs, vd, g, o1, o2, ap, n1, n2, n0, hb, ex⟩ := hB
 have hr : FlR h f vs vd := ⟨o1.sl, o2.sl⟩
 have p1 := o1.sl.one
 have p2 := o2.sl.one
 have p3 := o2.sl.vcl
 skip
 refine w_impl_Flash_write (by simp) ?_
 unfold b_impl_Flash_write
 simp -implicitDefEqProofs only [go_sem, p1, p2, p3, ldc_get g, hb]
 refine (dirty_pc hr (by omega)).use ?_
 by_cases hf : 0 ≤ firstAt (isAt n) f.dirty
 ·obtain ⟨k, hk, he, hp, hno⟩ := firstAt_get hf
  have hkn : f.dirty[k].place = n := by simpa [isAt] using hp
  rw [flashPut_at hk hkn (fun i hi => by simpa [isAt] using hno i hi), he]
  obtain ⟨b2, c, z, rfl, hb2, nb2, g2, hst, o3⟩ := own_putD o2 hk d
  rw [hkn] at hst o3
  have hne : b2 ≠ b := fun e => n2 (by rw [← e]; rfl)
  simp -implicitDefEqProofs only [go_sem, Int.natCast_nonneg, Int.ofNat_lt, hk, hb2, hst, p1, p2, p3, ldc_get g, hb]
  have g' : (h.set b2 ⟨((f.dirty.set k ⟨n, d⟩).map UDirty.cells).flatten, z⟩).get b = some ⟨[vs, sl b2 0 f.dirty.length c], 2⟩ := by rw [H.set_get_ne _ _ _ _ (Ne.symm hne)]; exact g
  exact ⟨vs, _, g', o1.setOb (fun e => ap _ e rfl) _, o3, ap, n1, n2, n0, hb, ex.set' nb2 _⟩
 ·have hno : ∀ i, (hi : i < f.dirty.length) → f.dirty[i].place ≠ n := fun i hi => by simpa [isAt] using firstAt_neg hf i hi
  rw [flashPut_new hno]
  simp -implicitDefEqProofs only [go_sem, hf, p1, p2, p3, ldc_get g, hb]
  intro b3 hb3 n3
  have hne : b ≠ b3 := fun e => by rw [← e, g] at n3; cases n3
  have e3 := fun x => (Ext.refl h).set n3 x
  simp -implicitDefEqProofs only [go_sem, (eq_false hne), p1, p2, p3, ldc_get g, hb]
  obtain ⟨a2, c2, rfl⟩ := o2.shape
  simp -implicitDefEqProofs only [go_sem, p1, p2, p3, ldc_get g, hb]
  refine appW_ownB (h0 := h0) (by_ := 24) (rows := f.dirty.map UDirty.cells) (new := [UDirty.cells ⟨n, d⟩]) (fun c hc => ?_) (o2.ext (e3 _)) (by simp -implicitDefEqProofs only [go_sem, p1, p2, p3, ldc_get g, hb]; rfl) (by intro r hr; simp at hr; subst hr; rfl) rfl (by simp; omega) ?_ (by simp)
  ·by_cases e : c = b3
   ·subst e; exact ex.none n3
   ·rw [H.set_get_ne _ _ _ _ e] at hc; exact ex.none hc
  ·intro v' b' x nb' hb' hob o3
   have nb2 : b' ≠ b := fun e => by
    subst e
    rcases hb' with hb' | hb'
    ·exact n2 hb'
    ·rw [H.set_get_ne _ _ _ _ hne, g] at hb'; cases hb'
   have gX : ((h.set b3 ⟨[i64 n, str d], 2⟩).set b' x).get b = some ⟨[vs, .slice a2 (f.dirty.map UDirty.cells).length c2], 2⟩ := by rw [H.set_get_ne _ _ _ _ (Ne.symm nb2), H.set_get_ne _ _ _ _ hne]; exact g
   have q1 := o3.sl.one
   have q2 := o3.sl.vcl
   simp -implicitDefEqProofs only [go_sem, stc_get gX, q1, q2, p1, p2, p3, ldc_get g, hb]
   have nbv : ob v' ≠ some b := fun e => nb2 (hob b e).symm
   have hnv : ob vs ≠ some b' := fun e => by
    rcases hb' with hb' | hb'
    ·exact ap _ e hb'
    ·obtain ⟨_, _, z, hg⟩ := o1.ob_new e
     rw [H.set_get_ne _ _ _ _ (fun q => by rw [← q] at n3; rw [hg] at n3; cases n3), hg] at hb'
     cases hb'
   have hnv3 : ob vs ≠ some b3 := fun e => by
    obtain ⟨_, _, z, hg⟩ := o1.ob_new e
    rw [hg] at n3; cases n3
   exact ⟨vs, v', H.set_get_same _ _ _, ((o1.setOb hnv3 _).setOb hnv _).setOb n1 _, by simpa using o3.setOb nbv _, fun q h1 h2 => hnv (by rw [h1, hob q h2]), n1, nbv, n0, hb, ((ex.set n3 _).set' nb' _).set' n0 _⟩
def b_impl_Flash_sync : C := (.seq (jo [jm 4 0, q 5 (.nck (.t 4)), jf 6 1 5, jl 7 6, q 8 (.len (.t 7)), q 9 (.mv (.c (i64 0)))]
 (.block 0 (.loop (jo [jb 10 .lss 9 8]
 (.seq (.cond (.t 10) .skip (.exit 0))
 (.seq (.block 1 (jo [q 11 (.idx 2 (.t 7) (.t 9)), jd 12 2 11, ⟨(some 3), none, .alloc [(i64 0), (str [])]⟩, js 2 3 12]
 (.dops true (.tk (jm 13 0) (.tk (q 14 (.nck (.t 13))) (.tk (jf 15 0 14) (.tk (jl 16 15) (.tk (jf 17 0 3) (.tk (jl 18 17) (.tk (jf 19 1 3) (.tk (jl 20 19) (.tk (q 21 (.idx 1 (.t 16) (.t 18))) (.lt (js 1 21 20) .nil)))))))))))))
 (.ops [jk 22 .add 9 1, jm 9 22])))))))
 (.ops [jm 23 0, q 24 (.nck (.t 23)), jf 25 1 24, ⟨none, none, .st 1 (.t 25) (.c nils)⟩]))
theorem w_impl_Flash_sync : Wk Tryz.prog 155 26 [] b_impl_Flash_sync := Wk.of mixedOrders Tryz.func155 (by kernel_rfl) (by kernel_rfl)

theorem sync_ac {h0 h : H} {b : Nat} {f : UFlash} (hB : Box h0 h b f) (hp : ∀ i, (hi : i < f.dirty.length) → 0 ≤ f.dirty[i].place ∧ f.dirty[i].place < f.sec.length) (hs : f.dirty.length ≤ 1000) : AC Tryz.prog 155 [ptr b 0] h fun r h' => Box h0 h' b (flashSync f) := by
 obtain ⟨vs, vd, g, o1, o2, ap, n1, n2, n0, hb, ex⟩ := hB
 obtain ⟨a2, c2, rfl⟩ := o2.shape
 have l2 : (f.dirty.map UDirty.cells).length = f.dirty.length := by simp
 rw [l2] at o2 g n2 ap
 have p1 := o1.sl.one
 have hb1 : h0.base ≤ b := by rw [← ex.1]; exact hb
 refine w_impl_Flash_sync (by simp) ?_
 unfold b_impl_Flash_sync
 simp -implicitDefEqProofs only [go_sem, p1, ldc_get g, hb, l2]
 refine loopW_of (fun m f1 h' => ∃ k, m + k = f.dirty.length ∧ h'.get b = some ⟨[vs, .slice a2 f.dirty.length c2], 2⟩ ∧ Own h0 h' vs 1 (sects (syncS f.sec (f.dirty.take k))) ∧ Own h0 h' (.slice a2 f.dirty.length c2) 2 (f.dirty.map UDirty.cells) ∧ Ext h0 h' ∧ f1 0 = ptr b 0 ∧ f1 7 = .slice a2 f.dirty.length c2 ∧ f1 8 = i64 f.dirty.length ∧ f1 9 = i64 k) f.dirty.length
  ⟨0, by simp, g, by simpa [syncS] using o1, o2, ex, by simp -implicitDefEqProofs only [go_sem], by simp -implicitDefEqProofs only [go_sem], by simp -implicitDefEqProofs only [go_sem], by simp -implicitDefEqProofs only [go_sem]; rfl⟩ ?_
 clear o1 o2 ex g hb
 rintro m f1 h' ⟨k, hm, g, o1, o2, ex, f0, f7, f8, f9⟩
 have hb : h'.base ≤ b := by rw [ex.1]; exact hb1
 by_cases hk : k < f.dirty.length
 rotate_left
 ·have e : k = f.dirty.length := by omega
  subst e
  simp -implicitDefEqProofs only [go_sem, f0, f7, f8, f9, Int.ofNat_lt, Nat.lt_irrefl, stc_get g, hb]
  rw [List.take_length] at o1
  exact ⟨vs, nils, H.set_get_same _ _ _, o1.setOb n1 _, Own.nil _ _ _, fun _ _ h => (by cases h), n1, by simp [ob], n0, hb, ex.set' n0 _⟩
 obtain ⟨_, _, bd, od, e', hc', q2, q3⟩ := o2.sl
 rw [l2] at e' q2
 simp only [Value.slice.injEq, true_and] at e'
 obtain ⟨rfl, rfl⟩ := e'
 have d1 := q3 k (f.dirty[k]).cells (by simp [hk])
 have hpk := hp k hk
 simp -implicitDefEqProofs only [go_sem, f0, f7, f8, f9, Int.ofNat_lt, Int.natCast_nonneg, hk, q2, d1]
 intro b3 hb3 n3
 have hne : b ≠ b3 := fun e => by rw [← e, g] at n3; cases n3
 have e3 := fun x => (Ext.refl h').set n3 x
 have g' := (e3 ⟨(f.dirty[k]).cells, 2⟩).2.g b _ g
 have gb3 : (h'.set b3 ⟨(f.dirty[k]).cells, 2⟩).get b3 = some ⟨(f.dirty[k]).cells, 2⟩ := H.set_get_same _ _ _
 have o1' := o1.ext (e3 ⟨(f.dirty[k]).cells, 2⟩)
 have o2' := o2.ext (e3 ⟨(f.dirty[k]).cells, 2⟩)
 have hlen : (sects (syncS f.sec (f.dirty.take k))).length = f.sec.length := by simp [syncS_len]
 obtain ⟨q, hq⟩ : ∃ q : Nat, f.dirty[k].place = q := ⟨f.dirty[k].place.toNat, by omega⟩
 obtain ⟨bs, cs, z, rfl, hbs, nbs, gs, hst, o3⟩ := own_put o1' (k := q) (by rw [hlen]; omega) (r := [str f.dirty[k].data]) rfl rfl
 have hsb : bs ≠ b := fun e => n1 (by rw [← e]; rfl)
 rw [hlen] at g' o3
 simp -implicitDefEqProofs only [go_sem, hb3, hlen]
 generalize hX : h'.set b3 ⟨(f.dirty[k]).cells, 2⟩ = hx at *
 have hbx : hx.base = h'.base := by rw [← hX]; rfl
 have hbs' : h'.base ≤ bs := by rw [← hbx]; exact hbs
 have hq' : q < f.sec.length := by omega
 simp -implicitDefEqProofs only [go_sem, f0, f9, ldc_get g', ldc_get gb3, hq, hq', hlen, hst, hbx, hbs', Int.natCast_nonneg, Int.ofNat_lt, wrap_i64 (show -(9223372036854775808 : Int) ≤ ((k : Int) + 1) by omega) (show ((k : Int) + 1) < 9223372036854775808 by omega)]
 have hsx : hx.get b = some ⟨[sl bs 0 f.sec.length cs, .slice _ f.dirty.length c2], 2⟩ := g'
 have hsy : sects (syncS f.sec (f.dirty.take (k + 1))) = (sects (syncS f.sec (f.dirty.take k))).set q [str f.dirty[k].data] := by
  rw [syncS_take _ _ _ hk, hq, Int.toNat_natCast, sects, List.map_set]
 refine ⟨m - 1, by omega, _, Ext.refl _, k + 1, by omega, ?_, ?_, ?_, ?_, f7, f8, rfl⟩
 ·rw [H.set_get_ne _ _ _ _ (Ne.symm hsb)]; exact g'
 ·rw [hsy]; exact o3
 ·exact o2'.setOb (fun e => ap bs rfl e) _
 ·rw [← hX]; exact (ex.set n3 _).set' nbs _
theorem Box.flO {h0 h : H} {b : Nat} {f : UFlash} (x : Box h0 h b f) : ∃ vs vd, h.get b = some ⟨[vs, vd], 2⟩ ∧ FlO h0 h f vs vd := by
 obtain ⟨vs, vd, g, o1, o2, ap, _⟩ := x
 exact ⟨vs, vd, g, o1, o2, ap⟩
theorem Box.of {h0 h : H} {b : Nat} {f : UFlash} {vs vd : Value} (o : FlO h0 h f vs vd) (e : Ext h0 h) (n : h.get b = none) (hb : h.base ≤ b) : Box h0 (h.set b ⟨[vs, vd], 2⟩) b f := by
 have n1 : ob vs ≠ some b := fun q => by obtain ⟨_, _, z, hg⟩ := o.1.ob_new q; rw [n] at hg; cases hg
 have n2 : ob vd ≠ some b := fun q => by obtain ⟨_, _, z, hg⟩ := o.2.1.ob_new q; rw [n] at hg; cases hg
 exact ⟨vs, vd, H.set_get_same _ _ _, o.1.setOb n1 _, o.2.1.setOb n2 _, o.2.2, n1, n2, e.none n, hb, e.set n _⟩
def b_impl_acted : C := (jo [⟨(some 2), none, .box (.t 0)⟩, ⟨(some 4), none, .alloc [nils, nils]⟩]
 (jo [jd 8 2 2, jc 9 154 [(.t 8)], ⟨(some 5), none, .alloc [nils, nils]⟩, js 2 5 9]
 (.seq (jo [jm 10 1, q 11 (.len (.t 10)), q 12 (.mv (.c (i64 0)))]
 (.block 0 (.loop (jo [jb 13 .lss 12 11]
 (.seq (.cond (.t 13) .skip (.exit 0))
 (.seq (.block 1 (jo [q 14 (.idx 3 (.t 10) (.t 12)), jd 15 3 14, ⟨(some 7), none, .alloc [(.bool false), (i64 0), (str [])]⟩, js 3 7 15]
 (jo [jf 16 0 7, jl 17 16]
 (.cond (.t 17) (.ops [jc 18 155 [(.t 5)]]) (.ops [jf 19 1 7, jl 20 19, jf 21 2 7, jl 22 21, jc 23 156 [(.t 5), (.t 20), (.t 22)]])))))
 (.ops [jk 24 .add 12 1, jm 12 24])))))))
 (jo [jd 25 2 5, js 2 4 25]
 .ret))))
theorem w_impl_acted : Wk Tryz.prog 74 26 [.cell 4 true 2] b_impl_acted := Wk.of mixedOrders Tryz.func74 (by kernel_rfl) (by kernel_rfl)

set_option maxHeartbeats 1600000 in
theorem actedO_ac {h : H} {vs vd va : Value} {f : UFlash} {l : List UAct} (hv : FlR h f vs vd) (ha : Sl h va 3 (l.map UAct.cells)) (ho : flashOk f) (hl : ∀ a ∈ l, actOk f.sec.length a) (hn : l.length ≤ 1000) : AC Tryz.prog 74 [.agg #[vs, vd], va] h fun r h' => Ext h h' ∧ ∃ us ud, r = .agg #[us, ud] ∧ FlO h h' (actsDo f l) us ud := by
 have o1 := hv.1.one
 have o2 := hv.2.one
 have hsm := flashOk_small ho
 obtain ⟨aa, ca, rfl⟩ := ha.shape
 have ll : (l.map UAct.cells).length = l.length := by simp
 rw [ll] at ha
 skip
 refine w_impl_acted (by simp) ?_
 unfold b_impl_acted
 simp -implicitDefEqProofs only [go_sem, o1, o2, ll]
 intro b2 hb_b2 n_b2
 simp -implicitDefEqProofs only [go_sem, o1, o2, ll, hb_b2]
 intro b4 hb_b4 m0_b4
 obtain ⟨z_b4_b2, y_b4_b2, n_b4⟩ := fne m0_b4
 simp only [H.set_base] at hb_b4
 simp -implicitDefEqProofs only [go_sem, o1, o2, ll, hb_b2, hb_b4, z_b4_b2, y_b4_b2]
 refine AC_of (cloneFlash_ac (hv.ext (((Ext.refl _).set' n_b2 _).set' n_b4 _)) ⟨by omega, by omega⟩) ?_
 rintro _ h1 - ⟨e1, us, ud, rfl, o⟩
 have p1 := o.1.sl.one
 have p2 := o.2.1.sl.one
 have E0 := (Ext.set' (Ext.set' (Ext.refl h) n_b2 ⟨[vs, vd], 2⟩) n_b4 ⟨[nils, nils], 2⟩)
 generalize hH : (h.set b2 ⟨[vs, vd], 2⟩).set b4 ⟨[nils, nils], 2⟩ = hh at e1 o E0 ⊢
 have g4 : hh.get b4 = some ⟨[nils, nils], 2⟩ := by rw [← hH]; exact H.set_get_same _ _ _
 have hb4 : hh.base ≤ b4 := by rw [← hH]; simp only [H.set_base]; exact hb_b4
 simp -implicitDefEqProofs only [go_sem, p1, p2, o1, o2, ll, hb_b2, hb_b4, z_b4_b2, y_b4_b2]
 intro b5 hb5 n5
 have hB := Box.of o e1 n5 hb5
 have g4' := (e1.set n5 ⟨[us, ud], 2⟩).2.g b4 _ g4
 skip
 simp -implicitDefEqProofs only [go_sem, p1, p2, hb5, ll, o1, o2, ll]
 refine loopW_of (fun m f1 h' => ∃ k, m + k = l.length ∧ Box hh h' b5 (actsDo f (l.take k)) ∧ f1 4 = ptr b4 0 ∧ f1 5 = ptr b5 0 ∧ f1 10 = .slice aa l.length ca ∧ f1 11 = i64 l.length ∧ f1 12 = i64 k) l.length
  ⟨0, by simp, by simpa [actsDo] using hB, by simp -implicitDefEqProofs only [go_sem, o1, o2, ll], by simp -implicitDefEqProofs only [go_sem, o1, o2, ll], by simp -implicitDefEqProofs only [go_sem, o1, o2, ll], by simp -implicitDefEqProofs only [go_sem, o1, o2, ll], by simp -implicitDefEqProofs only [go_sem, o1, o2, ll]; rfl⟩ ?_
 rintro m f1 h' ⟨k, hm, B, f4, f5, f10, f11, f12⟩
 by_cases hk : k < l.length
 rotate_left
 ·have e : k = l.length := by omega
  subst e
  rw [List.take_length] at B
  obtain ⟨ws, wd, g, oo⟩ := Box.flO B
  have q1 := oo.1.sl.one
  have q2 := oo.2.1.sl.one
  have g4'' := (Box.ext B).2.g b4 _ g4
  have hb4' : h'.base ≤ b4 := by rw [(Box.ext B).1]; exact hb4
  simp -implicitDefEqProofs only [go_sem, f4, f5, f11, f12, Int.ofNat_lt, Nat.lt_irrefl, ldc_get g, stc_get g4'', hb4', q1, q2, o1, o2, ll]
  exact ⟨(E0.trans (Box.ext B)).set' n_b4 _, ws, wd, rfl, (oo.setK g4 _).back E0⟩
 obtain ⟨_, _, bd, od, e', hc', q2, q3⟩ := (ha.ext (E0.trans (Box.ext B)))
 rw [ll] at e' q2
 simp only [Value.slice.injEq, true_and] at e'
 obtain ⟨rfl, rfl⟩ := e'
 have d1 := q3 k (l[k]).cells (by simp [hk])
 have hok := actsDo_ok (l.take k) ho (fun a h => hl a (List.mem_of_mem_take h))
 have hlen := actsDo_len (l.take k) f
 have hsm2 := flashOk_small hok
 have hnext := actsDo_take f l k hk
 simp -implicitDefEqProofs only [go_sem, f4, f5, f10, f11, f12, Int.ofNat_lt, Int.natCast_nonneg, hk, q2, d1, o1, o2, ll]
 intro b7 hb7 n7
 have e7 := fun x => (Ext.refl h').set n7 x
 have B7 := Box.grow B (e7 ⟨(l[k]).cells, 3⟩)
 unfold actDo at hnext
 cases hsy : (l[k]).sync with
 | true =>
  rw [if_pos hsy] at hnext
  simp -implicitDefEqProofs only [go_sem, f5, hb7, hsy, o1, o2, ll]
  refine AC_of (sync_ac B7 (fun i hi => by have := (hok.2.2.2 i hi).1; omega) (by omega)) ?_
  rintro _ h8 - B8
  rw [← hnext] at B8
  simp -implicitDefEqProofs only [go_sem, f5, f12, wrap_i64 (show -(9223372036854775808 : Int) ≤ ((k : Int) + 1) by omega) (show ((k : Int) + 1) < 9223372036854775808 by omega), o1, o2, ll]
  exact ⟨m - 1, by omega, _, Ext.refl _, k + 1, by omega, B8, f4, f10, f11, rfl⟩
 | false =>
  rw [if_neg (by rw [hsy]; simp)] at hnext
  simp -implicitDefEqProofs only [go_sem, f5, hb7, hsy, o1, o2, ll]
  refine AC_of (write_ac B7 (by omega)) ?_
  rintro _ h8 - B8
  rw [← hnext] at B8
  simp -implicitDefEqProofs only [go_sem, f5, f12, wrap_i64 (show -(9223372036854775808 : Int) ≤ ((k : Int) + 1) by omega) (show ((k : Int) + 1) < 9223372036854775808 by omega), o1, o2, ll]
  exact ⟨m - 1, by omega, _, Ext.refl _, k + 1, by omega, B8, f4, f10, f11, rfl⟩
theorem acted_ac {h : H} {vs vd va : Value} {f : UFlash} {l : List UAct} (hv : FlR h f vs vd) (ha : Sl h va 3 (l.map UAct.cells)) (ho : flashOk f) (hl : ∀ a ∈ l, actOk f.sec.length a) (hn : l.length ≤ 1000) : AC Tryz.prog 74 [.agg #[vs, vd], va] h fun r h' => Ext h h' ∧ ∃ us ud, r = .agg #[us, ud] ∧ FlF h h' (actsDo f l) us ud :=
 (actedO_ac hv ha ho hl hn).mono fun r h' _ ⟨e, us, ud, hr, o⟩ => ⟨e, us, ud, hr, o.f⟩
end Go.Proofs.YthjbhdmjfakfaaaGreatDoor