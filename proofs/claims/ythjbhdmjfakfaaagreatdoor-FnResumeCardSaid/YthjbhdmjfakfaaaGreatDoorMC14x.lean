/- A helper of this seat's claims (contracts of the functions): what it shows is shown for every input that its statements name, on no other condition. -/
import Derived.Test.YthjbhdmjfakfaaaGreatDoorC14b
import Derived.Test.YthjbhdmjfakfaaaGreatDoorC14n
import Derived.Test.YthjbhdmjfakfaaaGreatDoorCWt
import Derived.Test.YthjbhdmjfakfaaaGreatDoorC05
set_option linter.unusedVariables false
set_option linter.unusedSimpArgs false
set_option maxRecDepth 100000
namespace Go.Proofs.YthjbhdmjfakfaaaGreatDoor
open Go.KH

theorem saveActs_ok {m : UMach} {s : UState} (hf : machFit m) (hok : stateOk s) : ∀ a ∈ saveActs m s, actOk m.flash.sec.length a := metaActs_ok (mach_two hf) (by have := stateB_46 hok; omega)
theorem noteR_len {t : List UInt8} {n : Int} {p : Int × List UInt8} (h : noteR t n = some p) : p.2.length = 8 := by
 unfold noteR at h
 split at h
 ·simp only at h
  split at h
  ·rename_i hc
   simp only [Option.some.injEq] at h
   rw [← h]
   simp only
   exact hc.2.2.2.2.2
  ·cases h
 ·cases h
theorem sync_ok (n : Nat) : actOk n ⟨true, 0, []⟩ := fun h => by cases h
theorem bootActs_ok {m : UMach} {s : UState} (hf : machFit m) (hok : stateOk s) : ∀ a ∈ bootActs m s, actOk m.flash.sec.length a := by
 have h27 := hf.2.2
 have hb := hf.1
 have hL := (stateOk_log hok).2.2.2
 intro a ha
 unfold bootActs at ha
 split at ha
 ·have hw : ∀ a ∈ wipes m (s.mine.drop (loadAt m s)), actOk m.flash.sec.length a := fun a ha => by
   unfold wipes at ha
   obtain ⟨x, hx, rfl⟩ := List.mem_map.1 ha
   have := hL x (List.mem_of_mem_drop (List.mem_filter.1 hx).1)
   exact fun _ => ⟨by unfold wipe; simp only; omega, by unfold wipe; simp⟩
  unfold loadActs syncs at ha
  split at ha
  ·rcases List.mem_append.1 ha with ha | ha
   ·exact hw a ha
   ·rw [List.mem_singleton.1 ha]; exact sync_ok _
  ·exact hw a ha
 ·split at ha
  ·rename_i p3
   exact saveActs_ok hf (ok_retry hok p3) a ha
  ·split at ha
   ·rename_i p4
    split at ha
    ·exact saveActs_ok hf (ok_idle hok) a ha
    ·rename_i ht
     exact saveActs_ok hf (ok_less hok p4 ht) a ha
   ·split at ha
    ·rename_i p5
     unfold noteActs at ha
     split at ha
     ·rename_i p hp
      split at ha
      ·cases ha
      ·rename_i hc
       have d40 : ¬ s.done = 40 := fun h => hc (.inl h)
       have hh : hasAt m p.1 := Classical.byContradiction fun h => hc (.inr h)
       rcases List.mem_append.1 ha with ha | ha
       ·rcases List.mem_cons.1 ha with rfl | ha
        ·have := noteR_len hp
         unfold hasAt at hh
         exact fun _ => ⟨by simp only; omega, by simp only; omega⟩
        ·rw [List.mem_singleton.1 ha]; exact sync_ok _
       ·exact saveActs_ok hf (ok_more hok p5 d40) a ha
     ·cases ha
    ·cases ha
def bootM (m : UMach) (s : UState) : UMach := ⟨m.blocks, actsDo m.flash (bootActs m s)⟩
def bootOut (m : UMach) : UMach × Int := match stM m with | some s => (bootM m s, 0) | none => (mach0, 1)
def b_impl_Boot : C := (jo [⟨(some 1), none, .box (.t 0)⟩, ⟨(some 2), none, .alloc [(i64 0), nils, nils, (i64 0)]⟩]
 (jo [jd 6 3 1, jc 7 76 [(.t 6)], jm 5 7, q 8 (.ext 0 (.t 5)), q 9 (.ext 1 (.t 5)), ⟨(some 3), none, .alloc [(i64 0), (i64 0), (i64 0), (i64 0), (i64 0), (str []), nils, nils]⟩, js 8 3 8, jm 4 9]
 (.seq (jo [jm 10 4, q 11 (.un .not (.t 10))]
 (.cond (.t 11) (jo [q 12 (.build [(i64 0), nils, nils, (i64 0)] [(3, 1, (.c (i64 1)))]), js 4 2 12]
 .ret) .skip))
 (.seq (.dops true (.tk (jf 13 0 1) (.tk (jl 14 13) (.tk (jf 15 1 1) (.tk (jd 16 2 15) (.tk (jd 17 3 1) (.tk (jd 18 8 3) (.sq (jc 19 79 [(.t 17), (.t 18)]) (.sq (jc 20 74 [(.t 16), (.t 19)]) (.tk (q 21 (.build [(i64 0), nils, nils] [(0, 1, (.t 14)), (1, 2, (.t 20))])) (.tk (q 22 (.build [(i64 0), nils, nils, (i64 0)] [(0, 3, (.t 21))])) (.lt (js 4 2 22) .nil))))))))))))
 .ret))))
theorem w_impl_Boot : Wk Tryz.prog 30 23 [.cell 2 true 4] b_impl_Boot := Wk.of mixedOrders Tryz.func30 (by kernel_rfl) (by kernel_rfl)

set_option maxHeartbeats 1600000 in
theorem implBoot_ac {h : H} {cs : List Value} {m : UMach} (hv : RepR h (spMach m) cs) (hs : m.flash.fin1) : AC Tryz.prog 30 [.agg cs.toArray] h fun r h' => Ext h h' ∧ ∃ cs', r = .agg cs'.toArray ∧ RepF h h' (spMachO (bootOut m)) cs' := by
 have hv0 := hv
 obtain ⟨vs, vd, rfl, fr⟩ := mach_r.1 hv
 have o4 := fr.1.one
 have o5 := fr.2.one
 have c4 : vcl vs = [vs] := fr.1.vcl
 have c5 : vcl vd = [vd] := fr.2.vcl
 unfold bootOut
 skip
 refine w_impl_Boot (by simp) ?_
 unfold b_impl_Boot
 simp -implicitDefEqProofs only [go_sem, o4, o5, c4, c5]
 intro b1 hb_b1 n_b1
 simp -implicitDefEqProofs only [go_sem, o4, o5, c4, c5, hb_b1]
 intro b2 hb_b2 m0_b2
 obtain ⟨z_b2_b1, y_b2_b1, n_b2⟩ := fne m0_b2
 simp only [H.set_base] at hb_b2
 simp -implicitDefEqProofs only [go_sem, o4, o5, c4, c5, hb_b1, hb_b2, z_b2_b1, y_b2_b1]
 refine AC_of (stateOf_ac (hv0.ext (((Ext.refl _).set' n_b1 _).set' n_b2 _)) hs) ?_
 rintro _ h2 - ⟨e2, cs2, rfl, F2⟩
 have l2 := F2.r.len
 have t2 := take_len l2
 have o2 := F2.r.one
 have g1 := e2.2.g b1 _ (by simp -implicitDefEqProofs only [go_sem, o4, o5, c4, c5, hb_b1, hb_b2, z_b2_b1, y_b2_b1]; rfl)
 have g2 := e2.2.g b2 _ (by simp -implicitDefEqProofs only [go_sem, o4, o5, c4, c5, hb_b1, hb_b2, z_b2_b1, y_b2_b1]; rfl)
 have n2 := n_b2
 have hbb : h2.base ≤ b2 := by rw [e2.1]; simp only [H.set_base]; exact hb_b2
 have E2 := ((((Ext.refl _).set' n_b1 _).set' n_b2 _)).trans e2
 skip
 simp -implicitDefEqProofs only [go_sem, l2, t2, o2, o4, o5, c4, c5]
 intro b3 hb3 n3
 have z31 : (b1 = b3) = False := eq_false fun e => by rw [← e, g1] at n3; cases n3
 have z32 : (b2 = b3) = False := eq_false fun e => by rw [← e, g2] at n3; cases n3
 have y32 : (b3 = b2) = False := eq_false fun e => (of_eq_false z32) e.symm
 have e3 := (Ext.refl h2).set n3 ⟨cs2, 8⟩
 have E3 := E2.trans e3
 have G1 := e3.2.g b1 _ g1
 have G2 := e3.2.g b2 _ g2
 cases hst : stM m with
 | none =>
  simp -implicitDefEqProofs only [go_sem, l2, t2, o2, hb3, z32, y32, stc_get g2, hbb, Option.isSome_none, o4, o5, c4, c5]
  exact ⟨(E2.set' n2 _).set' (E2.none n3) _, _, rfl, mach0_f _ _ _⟩
 | some s =>
  rw [hst] at F2
  simp only [Option.getD_some] at F2
  have hok := stM_ok hst
  have h25 := bootActs_len m hok.2
  simp -implicitDefEqProofs only [go_sem, l2, t2, o2, hb3, z31, ldc_get g1, Option.isSome_some, o4, o5, c4, c5]
  generalize hH : h2.set b3 ⟨cs2, 8⟩ = hS at e3 E3 G1 G2 ⊢
  refine AC_of (bootActs_ac (hv0.ext E3) hok.1 (F2.r.ext e3) hok.2) ?_
  rintro v6 h6 - ⟨e6, ow⟩
  have E6 := E3.trans e6
  simp -implicitDefEqProofs only [go_sem, e6.2, ow.sl.vcl, o4, o5, c4, c5]
  refine AC_of (acted_ac (fr.ext E6) ow.sl hok.1.2.1 (bootActs_ok hok.1 hok.2) (by omega)) ?_
  rintro _ h7 - ⟨e7, us, ud, rfl, f7⟩
  have p1 := f7.1.sl.one
  have p2 := f7.2.1.sl.one
  have g27 := (e6.trans e7).2.g b2 _ G2
  have hb7 : h7.base ≤ b2 := by rw [(e3.trans (e6.trans e7)).1]; exact hbb
  simp -implicitDefEqProofs only [go_sem, (e6.trans e7).2, p1, p2, stc_get g27, hb7, o4, o5, c4, c5]
  exact ⟨(E6.trans e7).set' n2 _, _, rfl, machO_f.2 ⟨us, ud, rfl, FlF.back (FlF.set f7 (e6.2.g b2 _ G2) _) E6⟩⟩
end Go.Proofs.YthjbhdmjfakfaaaGreatDoor
namespace Go.Proofs.YthjbhdmjfakfaaaGreatDoor
open Go.KH

def tornB (old fresh : List UInt8) (fate : Int) : List UInt8 := if fate < 1 then old else if fate = 1 then fresh else fresh.take (min (fate - 2) fresh.length).toNat
theorem tornB_len {old fresh : List UInt8} {n : Nat} (fate : Int) (h1 : old.length ≤ n) (h2 : fresh.length ≤ n) : (tornB old fresh fate).length ≤ n := by
 unfold tornB
 split
 ·exact h1
 ·split
  ·exact h2
  ·rw [List.length_take]; omega
def fateAt (fs : List Int) (k : Nat) : Int := fs.getD k 0
def crashS (sec : List (List UInt8)) (ds : List UDirty) (fs : List Int) : Nat → List (List UInt8)
 | 0 => sec
 | k + 1 => match ds[k]? with
  | some d => (crashS sec ds fs k).set d.place.toNat (tornB (sec.getD d.place.toNat []) d.data (fateAt fs k))
  | none => crashS sec ds fs k
theorem crashS_step {sec : List (List UInt8)} {ds : List UDirty} {fs : List Int} {k : Nat} (hk : k < ds.length) : crashS sec ds fs (k + 1) = (crashS sec ds fs k).set (ds[k]).place.toNat (tornB (sec.getD (ds[k]).place.toNat []) (ds[k]).data (fateAt fs k)) := by
 rw [crashS, List.getElem?_eq_getElem hk]
theorem crashS_len (sec : List (List UInt8)) (ds : List UDirty) (fs : List Int) : ∀ k, (crashS sec ds fs k).length = sec.length
 | 0 => rfl
 | k + 1 => by
  rw [crashS]
  split
  ·rw [List.length_set, crashS_len]
  ·exact crashS_len _ _ _ _
theorem crashS_get {sec : List (List UInt8)} {ds : List UDirty} {fs : List Int} {p : Nat} : ∀ k, k ≤ ds.length → (∀ i, (hi : i < k) → (hl : i < ds.length) → (ds[i]).place.toNat ≠ p) → (crashS sec ds fs k)[p]? = sec[p]?
 | 0, _, _ => rfl
 | k + 1, hk, hp => by
  rw [crashS_step (by omega), List.getElem?_set_ne (hp k (by omega) (by omega))]
  exact crashS_get k (by omega) fun i hi hl => hp i (by omega) hl
def crashF (f : UFlash) (fs : List Int) : UFlash := ⟨crashS f.sec f.dirty fs f.dirty.length, []⟩
theorem crashS_old {f : UFlash} (ho : flashOk f) {fs : List Int} {k : Nat} (hk : k < f.dirty.length) : (crashS f.sec f.dirty fs k)[(f.dirty[k]).place.toNat]? = some (f.sec.getD (f.dirty[k]).place.toNat []) := by
 have h1 := (ho.2.2.2 k hk).1
 rw [crashS_get k (by omega) (fun i hi hl e => (ho.2.2.2 k hk).2.2 i hi (by have := (ho.2.2.2 i hl).1; omega))]
 rw [List.getD_eq_getElem?_getD, List.getElem?_eq_getElem (by omega)]
 rfl
def b_impl_torn : C := (jo [q 6 (.mv (.c (str [])))]
 (.seq (.block 0 (jo [jm 8 2, jk 9 .lss 8 1, jm 7 9]
 (.cond (.t 7) (jo [jm 10 0, jm 6 10]
 .ret) (jo [jm 12 2, jk 13 .eql 12 1, jm 11 13]
 (.cond (.t 11) (jo [jm 14 1, jm 6 14]
 .ret) .skip)))))
 (jo [jm 15 1, jm 16 2, jk 17 .sub 16 2, jm 18 1, q 19 (.slen (.t 18)), q 20 (.mn (.t 17) (.t 19)), q 21 (.ssl (.t 15) none (some (.t 20))), jm 6 21]
 .ret)))
theorem w_impl_torn : Wk Tryz.prog 220 22 [.tmp 6] b_impl_torn := Wk.of mixedOrders Tryz.func220 (by kernel_rfl) (by kernel_rfl)

theorem torn_pc (h : H) (old fresh : List UInt8) (fate : Int) (hf : in64 fate) : PC Tryz.prog 220 [str old, str fresh, i64 fate] h (str (tornB old fresh fate)) := by
 unfold tornB
 refine w_impl_torn (by simp) ?_
 unfold b_impl_torn
 simp -implicitDefEqProofs only [go_sem]
 by_cases h1 : fate < 1
 ·rw [if_pos h1]
  simp -implicitDefEqProofs only [go_sem, h1]
 rw [if_neg h1]
 by_cases h2 : fate = 1
 ·rw [if_pos h2]
  simp -implicitDefEqProofs only [go_sem, h1, decide_eq_true h2, h2]
 rw [if_neg h2]
 unfold in64 at hf
 simp -implicitDefEqProofs only [go_sem, h1, h2, wrap_i64 (show -(9223372036854775808 : Int) ≤ (fate - 2) by omega) (show (fate - 2) < 9223372036854775808 by omega)]
 by_cases h3 : (fresh.length : Int) < fate - 2
 ·rw [show (min (fate - 2) (fresh.length : Int)).toNat = fresh.length by omega]
  simp -implicitDefEqProofs only [go_sem, h3, Int.natCast_nonneg, Int.le_refl, Int.toNat_natCast]
 ·rw [show (min (fate - 2) (fresh.length : Int)).toNat = (fate - 2).toNat by omega]
  simp -implicitDefEqProofs only [go_sem, h3, show 0 ≤ fate - 2 by omega, show fate - 2 ≤ (fresh.length : Int) by omega]
def b_impl_Flash_crash : C := (.seq (jo [jm 7 0, q 8 (.nck (.t 7)), jf 9 1 8, jl 10 9, q 11 (.len (.t 10)), q 12 (.mv (.c (i64 0)))]
 (.block 0 (.loop (jo [jb 13 .lss 12 11]
 (.seq (.cond (.t 13) .skip (.exit 0))
 (.seq (.block 1 (jo [jm 14 12, q 15 (.idx 2 (.t 10) (.t 12)), jd 16 2 15, ⟨(some 5), none, .alloc [(i64 0), (str [])]⟩, jm 4 14, js 2 5 16]
 (jo [q 6 (.mv (.c (i64 0)))]
 (.seq (jo [jm 17 4, jm 18 1, q 19 (.len (.t 18)), jb 20 .lss 17 19]
 (.cond (.t 20) (.ops [jm 21 1, jm 22 4, q 23 (.idx 1 (.t 21) (.t 22)), jl 24 23, jm 6 24]) .skip))
 (.dops true (.tk (jm 25 0) (.tk (q 26 (.nck (.t 25))) (.tk (jf 27 0 26) (.tk (jl 28 27) (.tk (jf 29 0 5) (.tk (jl 30 29) (.tk (jm 31 0) (.tk (q 32 (.nck (.t 31))) (.tk (jf 33 0 32) (.tk (jl 34 33) (.tk (jf 35 0 5) (.tk (jl 36 35) (.tk (q 37 (.idx 1 (.t 34) (.t 36))) (.tk (jl 38 37) (.tk (jf 39 1 5) (.tk (jl 40 39) (.tk (jm 41 6) (.sq (jc 42 220 [(.t 38), (.t 40), (.t 41)]) (.tk (q 43 (.idx 1 (.t 28) (.t 30))) (.lt (js 1 43 42) .nil)))))))))))))))))))))))))
 (.ops [jk 44 .add 12 1, jm 12 44])))))))
 (.ops [jm 45 0, q 46 (.nck (.t 45)), jf 47 1 46, ⟨none, none, .st 1 (.t 47) (.c nils)⟩]))
theorem w_impl_Flash_crash : Wk Tryz.prog 169 48 [] b_impl_Flash_crash := Wk.of mixedOrders Tryz.func169 (by kernel_rfl) (by kernel_rfl)

set_option maxHeartbeats 1600000 in
theorem crash_ac {h0 h : H} {b : Nat} {f : UFlash} {vf : Value} {fs : List Int} (hB : Box h0 h b f) (hf : Sl h0 vf 1 (ints fs)) (ho : flashOk f) (hin : ∀ x ∈ fs, in64 x) : AC Tryz.prog 169 [ptr b 0, vf] h fun r h' => Box h0 h' b (crashF f fs) := by
 obtain ⟨vs, vd, g, o1, o2, ap, n1, n2, n0, hb, ex⟩ := hB
 have hsm := flashOk_small ho
 obtain ⟨a2, c2, rfl⟩ := o2.shape
 have l2 : (f.dirty.map UDirty.cells).length = f.dirty.length := by simp
 rw [l2] at o2 g n2 ap
 obtain ⟨af, cf, bf, of_, rfl, hcf, s2, s3⟩ := hf
 have lf : (ints fs).length = fs.length := by simp
 rw [lf] at s2
 have p1 := o1.sl.one
 have hb1 : h0.base ≤ b := by rw [← ex.1]; exact hb
 skip
 refine w_impl_Flash_crash (by simp) ?_
 unfold b_impl_Flash_crash
 simp -implicitDefEqProofs only [go_sem, p1, ldc_get g, hb, l2, lf]
 refine loopW_of (fun m f1 h' => ∃ k, m + k = f.dirty.length ∧ h'.get b = some ⟨[vs, .slice a2 f.dirty.length c2], 2⟩ ∧ Own h0 h' vs 1 (sects (crashS f.sec f.dirty fs k)) ∧ Own h0 h' (.slice a2 f.dirty.length c2) 2 (f.dirty.map UDirty.cells) ∧ Ext h0 h' ∧ f1 0 = ptr b 0 ∧ f1 1 = .slice af fs.length cf ∧ f1 10 = .slice a2 f.dirty.length c2 ∧ f1 11 = i64 f.dirty.length ∧ f1 12 = i64 k) f.dirty.length
  ⟨0, by simp, g, by simpa [crashS] using o1, o2, ex, by simp -implicitDefEqProofs only [go_sem, lf], by simp -implicitDefEqProofs only [go_sem, lf], by simp -implicitDefEqProofs only [go_sem, lf], by simp -implicitDefEqProofs only [go_sem, lf], by simp -implicitDefEqProofs only [go_sem, lf]; rfl⟩ ?_
 clear o1 o2 ex g hb
 rintro m f1 h' ⟨k, hm, g, o1, o2, ex, f0, f01, f7, f8, f9⟩
 have hb : h'.base ≤ b := by rw [ex.1]; exact hb1
 by_cases hk : k < f.dirty.length
 rotate_left
 ·have e : k = f.dirty.length := by omega
  subst e
  simp -implicitDefEqProofs only [go_sem, f0, f7, f8, f9, Int.ofNat_lt, Nat.lt_irrefl, stc_get g, hb, lf]
  exact ⟨vs, nils, H.set_get_same _ _ _, o1.setOb n1 _, Own.nil _ _ _, fun _ _ h => (by cases h), n1, by simp [ob], n0, hb, ex.set' n0 _⟩
 obtain ⟨_, _, bd, od, e', hc', q2, q3⟩ := o2.sl
 rw [l2] at e' q2
 simp only [Value.slice.injEq, true_and] at e'
 obtain ⟨rfl, rfl⟩ := e'
 have d1 := q3 k (f.dirty[k]).cells (by simp [hk])
 have hpk := (ho.2.2.2 k hk).1
 simp -implicitDefEqProofs only [go_sem, f0, f01, f7, f8, f9, Int.ofNat_lt, Int.natCast_nonneg, hk, q2, d1, lf]
 intro b3 hb3 n3
 have hne : b ≠ b3 := fun e => by rw [← e, g] at n3; cases n3
 have e3 := fun x => (Ext.refl h').set n3 x
 have g' := (e3 ⟨(f.dirty[k]).cells, 2⟩).2.g b _ g
 have gb3 : (h'.set b3 ⟨(f.dirty[k]).cells, 2⟩).get b3 = some ⟨(f.dirty[k]).cells, 2⟩ := H.set_get_same _ _ _
 have o1' := o1.ext (e3 ⟨(f.dirty[k]).cells, 2⟩)
 have o2' := o2.ext (e3 ⟨(f.dirty[k]).cells, 2⟩)
 have hlen : (sects (crashS f.sec f.dirty fs k)).length = f.sec.length := by simp [crashS_len]
 obtain ⟨q, hq⟩ : ∃ q : Nat, f.dirty[k].place = q := ⟨f.dirty[k].place.toNat, by omega⟩
 have old := crashS_old ho (fs := fs) hk
 have hst1 := crashS_step (sec := f.sec) (fs := fs) hk
 rw [hq, Int.toNat_natCast] at old hst1
 obtain ⟨T, hT⟩ : ∃ T, T = tornB (f.sec.getD q []) (f.dirty[k]).data (fateAt fs k) := ⟨_, rfl⟩
 rw [← hT] at hst1
 obtain ⟨bs, cs, z, rfl, hbs, nbs, gs, hst, o3⟩ := own_put o1' (k := q) (by rw [hlen]; omega) (r := [str T]) rfl rfl
 have hsb : bs ≠ b := fun e => n1 (by rw [← e]; rfl)
 have hld := ldc_pre gs (List.prefix_refl _) (sects_wid _) (k := q) (by rw [hlen]; omega)
 rw [show (sects (crashS f.sec f.dirty fs k))[q]'(by rw [hlen]; omega) = [str (f.sec.getD q [])] by
  obtain ⟨hi, he⟩ := List.getElem?_eq_some_iff.1 old
  simp only [sects, List.getElem_map, he]] at hld
 rw [hlen] at g' o3
 simp -implicitDefEqProofs only [go_sem, hb3, hlen, lf]
 generalize hX : h'.set b3 ⟨(f.dirty[k]).cells, 2⟩ = hx at *
 have hbx : hx.base = h'.base := by rw [← hX]; rfl
 have hbs' : h'.base ≤ bs := by rw [← hbx]; exact hbs
 have hq' : q < f.sec.length := by omega
 have exx : Ext h0 hx := by rw [← hX]; exact ex.set n3 _
 have hsx : hx.get b = some ⟨[sl bs 0 f.sec.length cs, .slice _ f.dirty.length c2], 2⟩ := g'
 have hsy : sects (crashS f.sec f.dirty fs (k + 1)) = (sects (crashS f.sec f.dirty fs k)).set q [str T] := by
  rw [hst1, sects, List.map_set]
 have hsx1 := hld
 by_cases hkf : k < fs.length
 ·have fe : fateAt fs k = fs[k] := by simp [fateAt, List.getD_eq_getElem?_getD, hkf]
  have df := ldc_sub exx.2 (s3 k [i64 fs[k]] (by simp [hkf]))
  simp -implicitDefEqProofs only [go_sem, f0, f01, f9, ldc_get hsx, ldc_get gb3, hq, hq', Int.natCast_nonneg, Int.ofNat_lt, hkf, df, s2, hld, lf]
  refine (torn_pc _ _ _ _ (hin _ (List.getElem_mem hkf))).use ?_
  rw [show tornB (f.sec.getD q []) (f.dirty[k]).data fs[k] = T by rw [hT, fe]]
  simp -implicitDefEqProofs only [go_sem, f0, f01, f9, ldc_get hsx, ldc_get gb3, hq, hq', hlen, hst, hbx, hbs', Int.natCast_nonneg, Int.ofNat_lt, Sub.refl, wrap_i64 (show -(9223372036854775808 : Int) ≤ ((k : Int) + 1) by omega) (show ((k : Int) + 1) < 9223372036854775808 by omega), lf]
  refine ⟨m - 1, by omega, _, Ext.refl _, k + 1, by omega, ?_, ?_, ?_, exx.set' nbs _, f7, f8, rfl⟩
  ·rw [H.set_get_ne _ _ _ _ (Ne.symm hsb)]; exact hsx
  ·rw [hsy]; exact o3
  ·exact o2'.setOb (fun e => ap bs rfl e) _
 ·have fe : fateAt fs k = 0 := by simp [fateAt, List.getD_eq_getElem?_getD, hkf]
  simp -implicitDefEqProofs only [go_sem, f0, f01, f9, ldc_get hsx, ldc_get gb3, hq, hq', Int.natCast_nonneg, Int.ofNat_lt, hkf, hld, lf]
  refine (torn_pc _ _ _ _ (by constructor <;> omega)).use ?_
  rw [show tornB (f.sec.getD q []) (f.dirty[k]).data 0 = T by rw [hT, fe]]
  simp -implicitDefEqProofs only [go_sem, f0, f01, f9, ldc_get hsx, ldc_get gb3, hq, hq', hlen, hst, hbx, hbs', Int.natCast_nonneg, Int.ofNat_lt, Sub.refl, wrap_i64 (show -(9223372036854775808 : Int) ≤ ((k : Int) + 1) by omega) (show ((k : Int) + 1) < 9223372036854775808 by omega), lf]
  refine ⟨m - 1, by omega, _, Ext.refl _, k + 1, by omega, ?_, ?_, ?_, exx.set' nbs _, f7, f8, rfl⟩
  ·rw [H.set_get_ne _ _ _ _ (Ne.symm hsb)]; exact hsx
  ·rw [hsy]; exact o3
  ·exact o2'.setOb (fun e => ap bs rfl e) _
end Go.Proofs.YthjbhdmjfakfaaaGreatDoor