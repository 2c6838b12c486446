/- A helper of this seat's claims (contracts of the functions): what it shows is shown for every input that its statements name, on no other condition. -/
import Derived.Test.YtiokibikhanfcaaGreatCWt
import Derived.Test.YtiokibikhanfcaaGreatC05
set_option linter.unusedVariables false
set_option linter.unusedSimpArgs false
set_option maxRecDepth 100000
namespace Go.Proofs.YtiokibikhanfcaaGreat
open Go.KH

/-! ## Flash memories whose power fails -/
def tornB (old fresh : List UInt8) (fate : Int) : List UInt8 := if fate < 1 then old else if fate = 1 then fresh else fresh.take (min (fate - 2) fresh.length).toNat
theorem tornB_len {old fresh : List UInt8} {n : Nat} (fate : Int) (h1 : old.length ≤ n) (h2 : fresh.length ≤ n) : (tornB old fresh fate).length ≤ n := by
  unfold tornB
  split
  · exact h1
  · split
    · exact h2
    · rw [List.length_take]; omega
def fateAt (fs : List Int) (k : Nat) : Int := fs.getD k 0
def crashS (sec : List (List UInt8)) (ds : List UDirty) (fs : List Int) : Nat → List (List UInt8)
  | 0 => sec
  | k + 1 => match ds[k]? with
    | some d => (crashS sec ds fs k).set d.place.toNat (tornB (sec.getD d.place.toNat []) d.data (fateAt fs k))
    | none => crashS sec ds fs k
theorem crashS_step {sec : List (List UInt8)} {ds : List UDirty} {fs : List Int} {k : Nat} (hk : k < ds.length) : crashS sec ds fs (k + 1) = (crashS sec ds fs k).set (ds[k]).place.toNat (tornB (sec.getD (ds[k]).place.toNat []) (ds[k]).data (fateAt fs k)) := by
  rw [crashS, List.getElem?_eq_getElem hk]
theorem crashS_len (sec : List (List UInt8)) (ds : List UDirty) (fs : List Int) : ∀ k, (crashS sec ds fs k).length = sec.length
  | 0 => rfl
  | k + 1 => by
    rw [crashS]
    split
    · rw [List.length_set, crashS_len]
    · exact crashS_len _ _ _ _
theorem crashS_get {sec : List (List UInt8)} {ds : List UDirty} {fs : List Int} {p : Nat} : ∀ k, k ≤ ds.length → (∀ i, (hi : i < k) → (hl : i < ds.length) → (ds[i]).place.toNat ≠ p) → (crashS sec ds fs k)[p]? = sec[p]?
  | 0, _, _ => rfl
  | k + 1, hk, hp => by
    rw [crashS_step (by omega), List.getElem?_set_ne (hp k (by omega) (by omega))]
    exact crashS_get k (by omega) fun i hi hl => hp i (by omega) hl
def crashF (f : UFlash) (fs : List Int) : UFlash := ⟨crashS f.sec f.dirty fs f.dirty.length, []⟩
theorem crashS_old {f : UFlash} (ho : flashOk f) {fs : List Int} {k : Nat} (hk : k < f.dirty.length) : (crashS f.sec f.dirty fs k)[(f.dirty[k]).place.toNat]? = some (f.sec.getD (f.dirty[k]).place.toNat []) := by
  have h1 := (ho.2.2.2 k hk).1
  rw [crashS_get k (by omega) (fun i hi hl e => (ho.2.2.2 k hk).2.2 i hi (by have := (ho.2.2.2 i hl).1; omega))]
  rw [List.getD_eq_getElem?_getD, List.getElem?_eq_getElem (by omega)]
  rfl
/-- impl.torn -/
def b_impl_torn : C := (.seq (.ops [q 6 (.mv (.c (str [])))])
 (.seq (.block 0 (.seq (.ops [q 8 (.mv (.t 2)), q 9 (.bin .lss (.t 8) (.c (i64 1))), q 7 (.mv (.t 9))])
 (.cond (.t 7) (.seq (.ops [q 10 (.mv (.t 0)), q 6 (.mv (.t 10))])
 .ret) (.seq (.ops [q 12 (.mv (.t 2)), q 13 (.bin .eql (.t 12) (.c (i64 1))), q 11 (.mv (.t 13))])
 (.cond (.t 11) (.seq (.ops [q 14 (.mv (.t 1)), q 6 (.mv (.t 14))])
 .ret) .skip)))))
 (.seq (.ops [q 15 (.mv (.t 1)), q 16 (.mv (.t 2)), q 17 (.bin .sub (.t 16) (.c (i64 2))), q 18 (.mv (.t 1)), q 19 (.slen (.t 18)), q 20 (.mn (.t 17) (.t 19)), q 21 (.ssl (.t 15) none (some (.t 20))), q 6 (.mv (.t 21))])
 .ret)))
theorem w_impl_torn {args : List Value} {h : H} {Q : Value → H → Prop} (hl : args.length ≤ 22) (hk : wpc Tryz.prog b_impl_torn (retw [.tmp 6] Q) (argsFr args) h) : AC Tryz.prog 186 args h Q :=
  AC.of_wpc mixedOrders Tryz.func186 (by kernel_rfl) (by kernel_rfl : prepF Tryz.prog Tryz.f186 = some ⟨22, [.tmp 6], b_impl_torn⟩) hl hk

theorem torn_pc (h : H) (old fresh : List UInt8) (fate : Int) (hf : in64 fate) : PC Tryz.prog 186 [str old, str fresh, i64 fate] h (str (tornB old fresh fate)) := by
  unfold tornB
  refine w_impl_torn (by simp) ?_
  unfold b_impl_torn
  simp -implicitDefEqProofs only [go_sem]
  by_cases h1 : fate < 1
  · rw [if_pos h1]
    simp -implicitDefEqProofs only [go_sem, h1]
  rw [if_neg h1]
  by_cases h2 : fate = 1
  · rw [if_pos h2]
    simp -implicitDefEqProofs only [go_sem, h1, decide_eq_true h2, h2]
  rw [if_neg h2]
  unfold in64 at hf
  simp -implicitDefEqProofs only [go_sem, h1, h2, wrap_i64 (show -(9223372036854775808 : Int) ≤ (fate - 2) by omega) (show (fate - 2) < 9223372036854775808 by omega)]
  by_cases h3 : (fresh.length : Int) < fate - 2
  · rw [show (min (fate - 2) (fresh.length : Int)).toNat = fresh.length by omega]
    simp -implicitDefEqProofs only [go_sem, h3, Int.natCast_nonneg, Int.le_refl, Int.toNat_natCast]
  · rw [show (min (fate - 2) (fresh.length : Int)).toNat = (fate - 2).toNat by omega]
    simp -implicitDefEqProofs only [go_sem, h3, show 0 ≤ fate - 2 by omega, show fate - 2 ≤ (fresh.length : Int) by omega]
/-- spec.Torn -/
def b_spec_Torn : C := (.seq (.ops [q 6 (.mv (.c (str [])))])
 (.seq (.seq (.ops [q 8 (.mv (.t 0)), q 9 (.slen (.t 8)), q 10 (.bin .gtr (.t 9) (.c (i64 8000))), q 11 (.mv (.t 10)), qg 12 11 false (.mv (.t 1)), qg 13 11 false (.slen (.t 12)), qg 14 11 false (.bin .gtr (.t 13) (.c (i64 8000))), q 15 (.pick (.t 11) (.c (.bool true)) (.t 14)), q 16 (.mv (.t 15)), qg 17 16 false (.mv (.t 2)), qg 18 16 false (.bin .lss (.t 17) (.c (i64 1))), q 19 (.pick (.t 16) (.c (.bool true)) (.t 18))])
 (.cond (.t 19) (.seq (.seq (.ops [q 20 (.mv (.t 0)), q 21 (.slen (.t 20)), q 22 (.bin .gtr (.t 21) (.c (i64 8000))), q 23 (.mv (.t 22)), qg 24 23 false (.mv (.t 1)), qg 25 23 false (.slen (.t 24)), qg 26 23 false (.bin .gtr (.t 25) (.c (i64 8000))), q 27 (.pick (.t 23) (.c (.bool true)) (.t 26))])
 (.cond (.t 27) (.seq (.ops [q 6 (.mv (.c (str [])))])
 .ret) .skip))
 (.seq (.ops [q 28 (.mv (.t 0)), q 6 (.mv (.t 28))])
 .ret)) .skip))
 (.seq (.seq (.ops [q 29 (.mv (.t 2)), q 30 (.bin .eql (.t 29) (.c (i64 1)))])
 (.cond (.t 30) (.seq (.ops [q 31 (.mv (.t 1)), q 6 (.mv (.t 31))])
 .ret) .skip))
 (.seq (.ops [q 32 (.mv (.t 2)), q 33 (.bin .sub (.t 32) (.c (i64 2))), q 7 (.mv (.t 33))])
 (.seq (.seq (.ops [q 34 (.mv (.t 2)), q 35 (.bin .sub (.t 34) (.c (i64 2))), q 36 (.mv (.t 1)), q 37 (.slen (.t 36)), q 38 (.bin .gtr (.t 35) (.t 37))])
 (.cond (.t 38) (.ops [q 39 (.mv (.t 1)), q 40 (.slen (.t 39)), q 7 (.mv (.t 40))]) .skip))
 (.seq (.ops [q 41 (.mv (.t 1)), q 42 (.mv (.t 7)), q 43 (.ssl (.t 41) none (some (.t 42))), q 6 (.mv (.t 43))])
 .ret))))))
theorem w_spec_Torn {args : List Value} {h : H} {Q : Value → H → Prop} (hl : args.length ≤ 44) (hk : wpc Tryz.prog b_spec_Torn (retw [.tmp 6] Q) (argsFr args) h) : AC Tryz.prog 121 args h Q :=
  AC.of_wpc mixedOrders Tryz.func121 (by kernel_rfl) (by kernel_rfl : prepF Tryz.prog Tryz.f121 = some ⟨44, [.tmp 6], b_spec_Torn⟩) hl hk

theorem specTorn_pc (h : H) (old fresh : List UInt8) (fate : Int) (hf : in64 fate) (ho : old.length ≤ 8000) (hn : fresh.length ≤ 8000) : PC Tryz.prog 121 [str old, str fresh, i64 fate] h (str (tornB old fresh fate)) := by
  unfold tornB
  have a1 : ¬ ((8000 : Int) < (old.length : Int)) := by omega
  have a2 : ¬ ((8000 : Int) < (fresh.length : Int)) := by omega
  refine w_spec_Torn (by simp) ?_
  unfold b_spec_Torn
  simp -implicitDefEqProofs only [go_sem, a1, a2]
  by_cases h1 : fate < 1
  · rw [if_pos h1]
    simp -implicitDefEqProofs only [go_sem, h1, a1, a2]
  rw [if_neg h1]
  by_cases h2 : fate = 1
  · rw [if_pos h2]
    simp -implicitDefEqProofs only [go_sem, h1, decide_eq_true h2, h2, a1, a2]
  rw [if_neg h2]
  unfold in64 at hf
  simp -implicitDefEqProofs only [go_sem, h1, h2, wrap_i64 (show -(9223372036854775808 : Int) ≤ (fate - 2) by omega) (show (fate - 2) < 9223372036854775808 by omega), a1, a2]
  by_cases h3 : fate - 2 > (fresh.length : Int)
  · rw [show (min (fate - 2) (fresh.length : Int)).toNat = fresh.length by omega]
    simp -implicitDefEqProofs only [go_sem, h3, Int.natCast_nonneg, Int.le_refl, Int.toNat_natCast]
  · rw [show (min (fate - 2) (fresh.length : Int)).toNat = (fate - 2).toNat by omega]
    simp -implicitDefEqProofs only [go_sem, h3, show 0 ≤ fate - 2 by omega, show fate - 2 ≤ (fresh.length : Int) by omega]
/-- (*impl.Flash).crash -/
def b_impl_Flash_crash : C := (.seq (.seq (.ops [q 7 (.mv (.t 0)), q 8 (.nck (.t 7)), q 9 (.fld 1 (.t 8)), q 10 (.ld false 1 (.t 9)), q 11 (.len (.t 10)), q 12 (.mv (.c (i64 0)))])
 (.block 0 (.loop (.seq (.ops [q 13 (.bin .lss (.t 12) (.t 11))])
 (.seq (.cond (.t 13) .skip (.exit 0))
 (.seq (.block 1 (.seq (.ops [q 14 (.mv (.t 12)), q 15 (.idx 2 (.t 10) (.t 12)), q 16 (.ld true 2 (.t 15)), ⟨(some 5), none, .alloc [(i64 0), (str [])]⟩, q 4 (.mv (.t 14)), ⟨none, none, .st 2 (.t 5) (.t 16)⟩])
 (.seq (.ops [q 6 (.mv (.c (i64 0)))])
 (.seq (.seq (.ops [q 17 (.mv (.t 4)), q 18 (.mv (.t 1)), q 19 (.len (.t 18)), q 20 (.bin .lss (.t 17) (.t 19))])
 (.cond (.t 20) (.ops [q 21 (.mv (.t 1)), q 22 (.mv (.t 4)), q 23 (.idx 1 (.t 21) (.t 22)), q 24 (.ld false 1 (.t 23)), q 6 (.mv (.t 24))]) .skip))
 (.dops true (.tk (q 25 (.mv (.t 0))) (.tk (q 26 (.nck (.t 25))) (.tk (q 27 (.fld 0 (.t 26))) (.tk (q 28 (.ld false 1 (.t 27))) (.tk (q 29 (.fld 0 (.t 5))) (.tk (q 30 (.ld false 1 (.t 29))) (.tk (q 31 (.mv (.t 0))) (.tk (q 32 (.nck (.t 31))) (.tk (q 33 (.fld 0 (.t 32))) (.tk (q 34 (.ld false 1 (.t 33))) (.tk (q 35 (.fld 0 (.t 5))) (.tk (q 36 (.ld false 1 (.t 35))) (.tk (q 37 (.idx 1 (.t 34) (.t 36))) (.tk (q 38 (.ld false 1 (.t 37))) (.tk (q 39 (.fld 1 (.t 5))) (.tk (q 40 (.ld false 1 (.t 39))) (.tk (q 41 (.mv (.t 6))) (.sq (⟨(some 42), none, .call (.c (.func (.func 186) #[] #[])) [(.t 38), (.t 40), (.t 41)]⟩) (.tk (q 43 (.idx 1 (.t 28) (.t 30))) (.lt (⟨none, none, .st 1 (.t 43) (.t 42)⟩) .nil)))))))))))))))))))))))))
 (.ops [q 44 (.bin .add (.t 12) (.c (i64 1))), q 12 (.mv (.t 44))])))))))
 (.ops [q 45 (.mv (.t 0)), q 46 (.nck (.t 45)), q 47 (.fld 1 (.t 46)), ⟨none, none, .st 1 (.t 47) (.c nils)⟩]))
theorem w_impl_Flash_crash {args : List Value} {h : H} {Q : Value → H → Prop} (hl : args.length ≤ 48) (hk : wpc Tryz.prog b_impl_Flash_crash (retw [] Q) (argsFr args) h) : AC Tryz.prog 123 args h Q :=
  AC.of_wpc mixedOrders Tryz.func123 (by kernel_rfl) (by kernel_rfl : prepF Tryz.prog Tryz.f123 = some ⟨48, [], b_impl_Flash_crash⟩) hl hk

set_option maxHeartbeats 1600000 in
theorem crash_ac {h0 h : H} {b : Nat} {f : UFlash} {vf : Value} {fs : List Int} (hB : Box h0 h b f) (hf : Sl h0 vf 1 (ints fs)) (ho : flashOk f) (hin : ∀ x ∈ fs, in64 x) : AC Tryz.prog 123 [ptr b 0, vf] h fun r h' => Box h0 h' b (crashF f fs) := by
  obtain ⟨vs, vd, g, o1, o2, ap, n1, n2, n0, hb, ex⟩ := hB
  have hsm := flashOk_small ho
  obtain ⟨a2, c2, rfl⟩ := o2.shape
  have l2 : (f.dirty.map UDirty.cells).length = f.dirty.length := by simp
  rw [l2] at o2 g n2 ap
  obtain ⟨af, cf, bf, of_, rfl, hcf, s2, s3⟩ := hf
  have lf : (ints fs).length = fs.length := by simp
  rw [lf] at s2
  have p1 := o1.sl.one
  have hb1 : h0.base ≤ b := by rw [← ex.1]; exact hb
  skip
  refine w_impl_Flash_crash (by simp) ?_
  unfold b_impl_Flash_crash
  simp -implicitDefEqProofs only [go_sem, p1, ldc_get g, hb, l2, lf]
  refine loopW_of (fun m f1 h' => ∃ k, m + k = f.dirty.length ∧ h'.get b = some ⟨[vs, .slice a2 f.dirty.length c2], 2⟩ ∧ Own h0 h' vs 1 (sects (crashS f.sec f.dirty fs k)) ∧ Own h0 h' (.slice a2 f.dirty.length c2) 2 (f.dirty.map UDirty.cells) ∧ Ext h0 h' ∧ f1 0 = ptr b 0 ∧ f1 1 = .slice af fs.length cf ∧ f1 10 = .slice a2 f.dirty.length c2 ∧ f1 11 = i64 f.dirty.length ∧ f1 12 = i64 k) f.dirty.length
    ⟨0, by simp, g, by simpa [crashS] using o1, o2, ex, by simp -implicitDefEqProofs only [go_sem, lf], by simp -implicitDefEqProofs only [go_sem, lf], by simp -implicitDefEqProofs only [go_sem, lf], by simp -implicitDefEqProofs only [go_sem, lf], by simp -implicitDefEqProofs only [go_sem, lf]; rfl⟩ ?_
  clear o1 o2 ex g hb
  rintro m f1 h' ⟨k, hm, g, o1, o2, ex, f0, f01, f7, f8, f9⟩
  have hb : h'.base ≤ b := by rw [ex.1]; exact hb1
  by_cases hk : k < f.dirty.length
  rotate_left
  · have e : k = f.dirty.length := by omega
    subst e
    simp -implicitDefEqProofs only [go_sem, f0, f7, f8, f9, Int.ofNat_lt, Nat.lt_irrefl, stc_get g, hb, lf]
    exact ⟨vs, nils, H.set_get_same _ _ _, o1.setOb n1 _, Own.nil _ _ _, fun _ _ h => (by cases h), n1, by simp [ob], n0, hb, ex.set' n0 _⟩
  obtain ⟨_, _, bd, od, e', hc', q2, q3⟩ := o2.sl
  rw [l2] at e' q2
  simp only [Value.slice.injEq, true_and] at e'
  obtain ⟨rfl, rfl⟩ := e'
  have d1 := q3 k (f.dirty[k]).cells (by simp [hk])
  have hpk := (ho.2.2.2 k hk).1
  simp -implicitDefEqProofs only [go_sem, f0, f01, f7, f8, f9, Int.ofNat_lt, Int.natCast_nonneg, hk, q2, d1, lf]
  intro b3 hb3 n3
  have hne : b ≠ b3 := fun e => by rw [← e, g] at n3; cases n3
  have e3 := fun x => (Ext.refl h').set n3 x
  have g' := (e3 ⟨(f.dirty[k]).cells, 2⟩).2.g b _ g
  have gb3 : (h'.set b3 ⟨(f.dirty[k]).cells, 2⟩).get b3 = some ⟨(f.dirty[k]).cells, 2⟩ := H.set_get_same _ _ _
  have o1' := o1.ext (e3 ⟨(f.dirty[k]).cells, 2⟩)
  have o2' := o2.ext (e3 ⟨(f.dirty[k]).cells, 2⟩)
  have hlen : (sects (crashS f.sec f.dirty fs k)).length = f.sec.length := by simp [crashS_len]
  obtain ⟨q, hq⟩ : ∃ q : Nat, f.dirty[k].place = q := ⟨f.dirty[k].place.toNat, by omega⟩
  have old := crashS_old ho (fs := fs) hk
  have hst1 := crashS_step (sec := f.sec) (fs := fs) hk
  rw [hq, Int.toNat_natCast] at old hst1
  obtain ⟨T, hT⟩ : ∃ T, T = tornB (f.sec.getD q []) (f.dirty[k]).data (fateAt fs k) := ⟨_, rfl⟩
  rw [← hT] at hst1
  obtain ⟨bs, cs, z, rfl, hbs, nbs, gs, hst, o3⟩ := own_put o1' (k := q) (by rw [hlen]; omega) (r := [str T]) rfl rfl
  have hsb : bs ≠ b := fun e => n1 (by rw [← e]; rfl)
  have hld := ldc_pre gs (List.prefix_refl _) (sects_wid _) (k := q) (by rw [hlen]; omega)
  rw [show (sects (crashS f.sec f.dirty fs k))[q]'(by rw [hlen]; omega) = [str (f.sec.getD q [])] by
    obtain ⟨hi, he⟩ := List.getElem?_eq_some_iff.1 old
    simp only [sects, List.getElem_map, he]] at hld
  rw [hlen] at g' o3
  simp -implicitDefEqProofs only [go_sem, hb3, hlen, lf]
  generalize hX : h'.set b3 ⟨(f.dirty[k]).cells, 2⟩ = hx at *
  have hbx : hx.base = h'.base := by rw [← hX]; rfl
  have hbs' : h'.base ≤ bs := by rw [← hbx]; exact hbs
  have hq' : q < f.sec.length := by omega
  have exx : Ext h0 hx := by rw [← hX]; exact ex.set n3 _
  have hsx : hx.get b = some ⟨[sl bs 0 f.sec.length cs, .slice _ f.dirty.length c2], 2⟩ := g'
  have hsy : sects (crashS f.sec f.dirty fs (k + 1)) = (sects (crashS f.sec f.dirty fs k)).set q [str T] := by
    rw [hst1, sects, List.map_set]
  have hsx1 := hld
  by_cases hkf : k < fs.length
  · have fe : fateAt fs k = fs[k] := by simp [fateAt, List.getD_eq_getElem?_getD, hkf]
    have df := ldc_sub exx.2 (s3 k [i64 fs[k]] (by simp [hkf]))
    simp -implicitDefEqProofs only [go_sem, f0, f01, f9, ldc_get hsx, ldc_get gb3, hq, hq', Int.natCast_nonneg, Int.ofNat_lt, hkf, df, s2, hld, lf]
    refine (torn_pc _ _ _ _ (hin _ (List.getElem_mem hkf))).use ?_
    rw [show tornB (f.sec.getD q []) (f.dirty[k]).data fs[k] = T by rw [hT, fe]]
    simp -implicitDefEqProofs only [go_sem, f0, f01, f9, ldc_get hsx, ldc_get gb3, hq, hq', hlen, hst, hbx, hbs', Int.natCast_nonneg, Int.ofNat_lt, Sub.refl, wrap_i64 (show -(9223372036854775808 : Int) ≤ ((k : Int) + 1) by omega) (show ((k : Int) + 1) < 9223372036854775808 by omega), lf]
    refine ⟨m - 1, by omega, _, Ext.refl _, k + 1, by omega, ?_, ?_, ?_, exx.set' nbs _, f7, f8, rfl⟩
    · rw [H.set_get_ne _ _ _ _ (Ne.symm hsb)]; exact hsx
    · rw [hsy]; exact o3
    · exact o2'.setOb (fun e => ap bs rfl e) _
  · have fe : fateAt fs k = 0 := by simp [fateAt, List.getD_eq_getElem?_getD, hkf]
    simp -implicitDefEqProofs only [go_sem, f0, f01, f9, ldc_get hsx, ldc_get gb3, hq, hq', Int.natCast_nonneg, Int.ofNat_lt, hkf, hld, lf]
    refine (torn_pc _ _ _ _ (by constructor <;> omega)).use ?_
    rw [show tornB (f.sec.getD q []) (f.dirty[k]).data 0 = T by rw [hT, fe]]
    simp -implicitDefEqProofs only [go_sem, f0, f01, f9, ldc_get hsx, ldc_get gb3, hq, hq', hlen, hst, hbx, hbs', Int.natCast_nonneg, Int.ofNat_lt, Sub.refl, wrap_i64 (show -(9223372036854775808 : Int) ≤ ((k : Int) + 1) by omega) (show ((k : Int) + 1) < 9223372036854775808 by omega), lf]
    refine ⟨m - 1, by omega, _, Ext.refl _, k + 1, by omega, ?_, ?_, ?_, exx.set' nbs _, f7, f8, rfl⟩
    · rw [H.set_get_ne _ _ _ _ (Ne.symm hsb)]; exact hsx
    · rw [hsy]; exact o3
    · exact o2'.setOb (fun e => ap bs rfl e) _
/-- spec.FlashCrash -/
def b_spec_FlashCrash : C := (.seq (.ops [⟨(some 2), none, .box (.t 0)⟩, ⟨(some 4), none, .alloc [nils, nils]⟩])
 (.seq (.seq (.ops [q 8 (.mv (.t 1)), q 9 (.len (.t 8)), q 10 (.bin .gtr (.t 9) (.c (i64 400)))])
 (.cond (.t 10) (.seq (.ops [q 11 (.build [nils, nils] []), ⟨none, none, .st 2 (.t 4) (.t 11)⟩])
 .ret) .skip))
 (.seq (.seq (.ops [q 12 (.ld true 2 (.t 2)), ⟨(some 13), none, .call (.c (.func (.func 77) #[] #[])) [(.t 12)]⟩, q 14 (.un .not (.t 13))])
 (.cond (.t 14) (.seq (.ops [q 15 (.ld true 2 (.t 2)), ⟨(some 16), none, .call (.c (.func (.func 101) #[] #[])) [(.t 15)]⟩, ⟨none, none, .st 2 (.t 4) (.t 16)⟩])
 .ret) .skip))
 (.seq (.ops [⟨(some 17), none, .bsl 0 [] []⟩, q 18 (.fld 0 (.t 2)), q 19 (.ld false 1 (.t 18)), ⟨(some 20), none, .app 1 16 (.t 17) (.t 19)⟩, q 21 (.build [nils, nils] [(0, 1, (.t 20))]), ⟨(some 5), none, .alloc [nils, nils]⟩, ⟨none, none, .st 2 (.t 5) (.t 21)⟩])
 (.seq (.seq (.ops [q 6 (.mv (.c (i64 0)))])
 (.block 0 (.loop (.seq (.seq (.ops [q 22 (.mv (.t 6)), q 23 (.fld 1 (.t 2)), q 24 (.ld false 1 (.t 23)), q 25 (.len (.t 24)), q 26 (.bin .lss (.t 22) (.t 25))])
 (.cond (.t 26) .skip (.exit 0)))
 (.seq (.block 1 (.seq (.ops [q 7 (.mv (.c (i64 0)))])
 (.seq (.seq (.ops [q 29 (.mv (.t 6)), q 30 (.mv (.t 1)), q 31 (.len (.t 30)), q 32 (.bin .lss (.t 29) (.t 31))])
 (.cond (.t 32) (.ops [q 33 (.mv (.t 1)), q 34 (.mv (.t 6)), q 35 (.idx 1 (.t 33) (.t 34)), q 36 (.ld false 1 (.t 35)), q 7 (.mv (.t 36))]) .skip))
 (.dops true (.tk (q 37 (.fld 0 (.t 5))) (.tk (q 38 (.ld false 1 (.t 37))) (.tk (q 39 (.fld 1 (.t 2))) (.tk (q 40 (.ld false 1 (.t 39))) (.tk (q 41 (.mv (.t 6))) (.tk (q 42 (.idx 2 (.t 40) (.t 41))) (.tk (q 43 (.fld 0 (.t 42))) (.tk (q 44 (.ld false 1 (.t 43))) (.tk (q 45 (.fld 0 (.t 2))) (.tk (q 46 (.ld false 1 (.t 45))) (.tk (q 47 (.fld 1 (.t 2))) (.tk (q 48 (.ld false 1 (.t 47))) (.tk (q 49 (.mv (.t 6))) (.tk (q 50 (.idx 2 (.t 48) (.t 49))) (.tk (q 51 (.fld 0 (.t 50))) (.tk (q 52 (.ld false 1 (.t 51))) (.tk (q 53 (.idx 1 (.t 46) (.t 52))) (.tk (q 54 (.ld false 1 (.t 53))) (.tk (q 55 (.fld 1 (.t 2))) (.tk (q 56 (.ld false 1 (.t 55))) (.tk (q 57 (.mv (.t 6))) (.tk (q 58 (.idx 2 (.t 56) (.t 57))) (.tk (q 59 (.fld 1 (.t 58))) (.tk (q 60 (.ld false 1 (.t 59))) (.tk (q 61 (.mv (.t 7))) (.sq (⟨(some 62), none, .call (.c (.func (.func 121) #[] #[])) [(.t 54), (.t 60), (.t 61)]⟩) (.tk (q 63 (.idx 1 (.t 38) (.t 44))) (.lt (⟨none, none, .st 1 (.t 63) (.t 62)⟩) .nil))))))))))))))))))))))))))))))))
 (.ops [q 27 (.mv (.t 6)), q 28 (.bin .add (.t 27) (.c (i64 1))), q 6 (.mv (.t 28))]))))))
 (.seq (.ops [q 64 (.ld true 2 (.t 5)), ⟨none, none, .st 2 (.t 4) (.t 64)⟩])
 .ret))))))
theorem w_spec_FlashCrash {args : List Value} {h : H} {Q : Value → H → Prop} (hl : args.length ≤ 65) (hk : wpc Tryz.prog b_spec_FlashCrash (retw [.cell 4 true 2] Q) (argsFr args) h) : AC Tryz.prog 63 args h Q :=
  AC.of_wpc mixedOrders Tryz.func63 (by kernel_rfl) (by kernel_rfl : prepF Tryz.prog Tryz.f63 = some ⟨65, [.cell 4 true 2], b_spec_FlashCrash⟩) hl hk

set_option maxHeartbeats 1600000 in
theorem specCrash_ac {h : H} {vs vd vf : Value} {f : UFlash} {fs : List Int} (hv : FlR h f vs vd) (ho : flashOk f) (hf : Sl h vf 1 (ints fs)) (h400 : fs.length ≤ 400) (hin : ∀ x ∈ fs, in64 x) : AC Tryz.prog 63 [.agg #[vs, vd], vf] h fun r h' => Ext h h' ∧ ∃ us ud, r = .agg #[us, ud] ∧ FlO h h' (crashF f fs) us ud := by
  obtain ⟨a1, c1, a2, c2, rfl, rfl⟩ := hv.shape
  have hsm := flashOk_small ho
  have l1 : (sects f.sec).length = f.sec.length := by simp
  have l2 : (f.dirty.map UDirty.cells).length = f.dirty.length := by simp
  have lf : (ints fs).length = fs.length := by simp
  obtain ⟨af, cf, rfl⟩ := hf.shape
  skip
  refine w_spec_FlashCrash (by simp) ?_
  unfold b_spec_FlashCrash
  simp -implicitDefEqProofs only [go_sem, lf]
  intro b1 hb_b1 n_b1
  simp -implicitDefEqProofs only [go_sem, lf, hb_b1]
  intro b2 hb_b2 m0_b2
  obtain ⟨z_b2_b1, y_b2_b1, n_b2⟩ := fne m0_b2
  simp only [H.set_base] at hb_b2
  have E0 := (Ext.set' (Ext.set' (Ext.refl h) n_b1 ⟨[.slice a1 f.sec.length c1, .slice a2 f.dirty.length c2], 2⟩) n_b2 ⟨[nils, nils], 2⟩)
  simp -implicitDefEqProofs only [go_sem, show ¬ (400 : Int) < (fs.length : Int) by omega, lf, hb_b1, hb_b2, z_b2_b1, y_b2_b1]
  have g1 : ((h.set b1 ⟨[.slice a1 f.sec.length c1, .slice a2 f.dirty.length c2], 2⟩).set b2 ⟨[nils, nils], 2⟩).get b1 = some ⟨[.slice a1 f.sec.length c1, .slice a2 f.dirty.length c2], 2⟩ := by simp -implicitDefEqProofs only [go_sem, lf, hb_b1, hb_b2, z_b2_b1, y_b2_b1]
  generalize hH : (h.set b1 ⟨[.slice a1 f.sec.length c1, .slice a2 f.dirty.length c2], 2⟩).set b2 ⟨[nils, nils], 2⟩ = hh at E0 g1 ⊢
  have g2 : hh.get b2 = some ⟨[nils, nils], 2⟩ := by rw [← hH]; exact H.set_get_same _ _ _
  have hb2 : hh.base ≤ b2 := by rw [← hH]; simp only [H.set_base]; exact hb_b2
  have hvh := hv.ext E0
  have hfh := hf.ext E0
  skip
  simp -implicitDefEqProofs only [go_sem, ldc_get g1, lf]
  refine (specFlashRight_pc hvh ⟨by omega, by omega⟩).use ?_
  simp -implicitDefEqProofs only [go_sem, ho, lf]
  intro b5 hb5 n5
  have e5 := fun x => (Ext.refl hh).set n5 x
  have sr1 : srcOf (hh.set b5 ⟨[], 0⟩) 1 (.slice a1 f.sec.length c1) = some ((sects f.sec).length, (sects f.sec).flatten) := (hvh.1.ext (e5 _)).src (sects_wid _) (by decide)
  have g1' := (e5 ⟨[], 0⟩).2.g b1 _ g1
  simp -implicitDefEqProofs only [go_sem, ldc_get g1', sr1, lf]
  refine app0B (e5 _) (H.set_get_same _ _ _) n5 hb5 (sects_wid _) (sects_one _) (by rw [l1]; omega) ?_
  intro us b' x nb hb' hob w1 e1
  have q1 := w1.sl.one
  have q2 := w1.sl.vcl
  have hg1 := e1.2.g b1 _ g1
  have hbX : ((hh.set b5 ⟨[], 0⟩).set b' x).base = hh.base := rfl
  generalize hX : (hh.set b5 ⟨[], 0⟩).set b' x = hx at w1 e1 hg1 hbX ⊢
  simp -implicitDefEqProofs only [go_sem, q1, q2, lf]
  intro b3 hb3 n3
  have n3h := e1.none n3
  have nus : ob us ≠ some b3 := fun e => by obtain ⟨_, _, z, hg⟩ := w1.ob_new e; rw [hg] at n3; cases n3
  have e3 := fun y => e1.set n3 y
  have hb3h : hh.base ≤ b3 := by rw [← hbX]; exact hb3
  simp -implicitDefEqProofs only [go_sem, q1, q2, hb3, lf]
  refine loopW_of (fun m f1 h' => ∃ k, m + k = f.dirty.length ∧ h'.get b3 = some ⟨[us, nils], 2⟩ ∧ Own hh h' us 1 (sects (crashS f.sec f.dirty fs k)) ∧ Ext hh h' ∧ f1 1 = .slice af fs.length cf ∧ f1 2 = ptr b1 0 ∧ f1 4 = ptr b2 0 ∧ f1 5 = ptr b3 0 ∧ f1 6 = i64 k) f.dirty.length
    ⟨0, by simp, H.set_get_same _ _ _, by simpa [crashS] using w1.setOb nus _, e3 _, by simp -implicitDefEqProofs only [go_sem, lf], by simp -implicitDefEqProofs only [go_sem, lf], by simp -implicitDefEqProofs only [go_sem, lf], by simp -implicitDefEqProofs only [go_sem, lf], by simp -implicitDefEqProofs only [go_sem, lf]; rfl⟩ ?_
  clear w1 e1 hg1 e3 q1 q2 hX hbX hob hb' nb n3
  rintro m f1 h' ⟨k, hm, g3, w1, e1, f00, f01, f02, f03, f04⟩
  have hg1 := e1.2.g b1 _ g1
  by_cases hk : k < f.dirty.length
  rotate_left
  · have e : k = f.dirty.length := by omega
    subst e
    have q1 := w1.sl.one
    have gg := e1.2.g b2 _ g2
    have hbb : h'.base ≤ b2 := by rw [e1.1]; exact hb2
    simp -implicitDefEqProofs only [go_sem, f01, f02, f03, f04, Int.ofNat_lt, Nat.lt_irrefl, ldc_get hg1, ldc_get g3, stc_get gg, hbb, q1, lf]
    have nb2 : ob us ≠ some b2 := fun e => by rw [(w1.ob_new e).1] at g2; cases g2
    exact ⟨(E0.trans e1).set' n_b2 _, us, nils, rfl, (w1.setOb nb2 _).back E0, Own.nil _ _ _, fun q _ h => (by cases h)⟩
  obtain ⟨_, _, bd, od, e', hc', r2, r3⟩ := (hvh.2.ext e1)
  rw [l2] at e' r2
  simp only [Value.slice.injEq, true_and] at e'
  obtain ⟨rfl, rfl⟩ := e'
  obtain ⟨_, _, bq, oq, e', hcq, t2, t3⟩ := (hvh.1.ext e1)
  rw [l1] at e' t2
  simp only [Value.slice.injEq, true_and] at e'
  obtain ⟨rfl, rfl⟩ := e'
  obtain ⟨_, _, bf, of_, e', hcf, s2, s3⟩ := (hfh.ext e1)
  rw [lf] at e' s2
  simp only [Value.slice.injEq, true_and] at e'
  obtain ⟨rfl, rfl⟩ := e'
  have d1 := r3 k (f.dirty[k]).cells (by simp [hk])
  have d2 := ldc_part d1 0 1 (by omega)
  have d3 := ldc_part d1 1 1 (by omega)
  simp only [List.drop_zero, List.drop_succ_cons, List.take_succ_cons, List.take_zero, Nat.add_zero] at d2 d3
  have hpk := (ho.2.2.2 k hk).1
  have hd96 := (ho.2.2.2 k hk).2.1
  obtain ⟨q, hq⟩ : ∃ q : Nat, f.dirty[k].place = q := ⟨f.dirty[k].place.toNat, by omega⟩
  rw [hq] at d2
  have hq' : q < f.sec.length := by omega
  have hge : f.sec.getD q [] = f.sec[q] := by simp [List.getD_eq_getElem?_getD, hq']
  have d4 := t3 q [str (f.sec.getD q [])] (by rw [hge]; simp [hq'])
  have hs96 : (f.sec.getD q []).length ≤ 96 := by rw [hge]; exact ho.2.2.1 _ (List.getElem_mem hq')
  have hst1 := crashS_step (sec := f.sec) (fs := fs) hk
  rw [hq, Int.toNat_natCast] at hst1
  obtain ⟨T, hT⟩ : ∃ T, T = tornB (f.sec.getD q []) (f.dirty[k]).data (fateAt fs k) := ⟨_, rfl⟩
  rw [← hT] at hst1
  have hlen : (sects (crashS f.sec f.dirty fs k)).length = f.sec.length := by simp [crashS_len]
  obtain ⟨bs, cs, z, hus, hbs, nbs, gs, hst, o3⟩ := own_put w1 (k := q) (by rw [hlen]; omega) (r := [str T]) rfl rfl
  have hsb : bs ≠ b3 := fun e => nus (by rw [hus, ← e]; rfl)
  have hsy : sects (crashS f.sec f.dirty fs (k + 1)) = (sects (crashS f.sec f.dirty fs k)).set q [str T] := by
    rw [hst1, sects, List.map_set]
  rw [hlen] at hus
  rw [hus] at g3
  have k1 := Int.natCast_nonneg q
  by_cases hkf : k < fs.length
  · have fe : fateAt fs k = fs[k] := by simp [fateAt, List.getD_eq_getElem?_getD, hkf]
    have df := s3 k [i64 fs[k]] (by simp [hkf])
    simp -implicitDefEqProofs only [go_sem, f00, f01, f02, f03, f04, ldc_get hg1, ldc_get g3, Int.ofNat_lt, Int.natCast_nonneg, hk, hq', r2, t2, d2, d3, d4, hkf, df, s2, lf]
    refine (specTorn_pc _ _ _ _ (hin _ (List.getElem_mem hkf)) (by omega) (by omega)).use ?_
    rw [show tornB (f.sec.getD q []) (f.dirty[k]).data fs[k] = T by rw [hT, fe]]
    simp -implicitDefEqProofs only [go_sem, f00, f01, f02, f03, f04, ldc_get hg1, ldc_get g3, Int.ofNat_lt, Int.natCast_nonneg, hk, hq', r2, t2, d2, d3, d4, hbs, hst, Sub.refl, wrap_i64 (show -(9223372036854775808 : Int) ≤ ((k : Int) + 1) by omega) (show ((k : Int) + 1) < 9223372036854775808 by omega), lf]
    refine ⟨m - 1, by omega, _, Ext.refl _, k + 1, by omega, ?_, ?_, e1.set' nbs _, by first | rfl | exact f02 | assumption⟩
    · rw [H.set_get_ne _ _ _ _ (Ne.symm hsb), hus]; exact g3
    · rw [hsy]; exact o3
  · have fe : fateAt fs k = 0 := by simp [fateAt, List.getD_eq_getElem?_getD, hkf]
    simp -implicitDefEqProofs only [go_sem, f00, f01, f02, f03, f04, ldc_get hg1, ldc_get g3, Int.ofNat_lt, Int.natCast_nonneg, hk, hq', r2, t2, d2, d3, d4, hkf, lf]
    refine (specTorn_pc _ _ _ _ (by constructor <;> omega) (by omega) (by omega)).use ?_
    rw [show tornB (f.sec.getD q []) (f.dirty[k]).data 0 = T by rw [hT, fe]]
    simp -implicitDefEqProofs only [go_sem, f00, f01, f02, f03, f04, ldc_get hg1, ldc_get g3, Int.ofNat_lt, Int.natCast_nonneg, hk, hq', r2, t2, d2, d3, d4, hbs, hst, Sub.refl, wrap_i64 (show -(9223372036854775808 : Int) ≤ ((k : Int) + 1) by omega) (show ((k : Int) + 1) < 9223372036854775808 by omega), lf]
    refine ⟨m - 1, by omega, _, Ext.refl _, k + 1, by omega, ?_, ?_, e1.set' nbs _, by first | rfl | exact f02 | assumption⟩
    · rw [H.set_get_ne _ _ _ _ (Ne.symm hsb), hus]; exact g3
    · rw [hsy]; exact o3
end Go.Proofs.YtiokibikhanfcaaGreat
