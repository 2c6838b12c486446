/- A helper of this seat's claims (contracts of the functions): what it shows is shown for every input that its statements name, on no other condition. -/
import Derived.Test.YthjbhdmjfakfaaaGreatDoorCZi
import Derived.Test.YthjbhdmjfakfaaaGreatDoorMCE
set_option linter.unusedVariables false
set_option linter.unusedSimpArgs false
set_option maxRecDepth 100000
namespace Go.Proofs.YthjbhdmjfakfaaaGreatDoor
open Go.KH

/-! ## Packages drawn -/
/-- What is drawn: a package that is right, as a rule, and an image. -/
structure PkgDrawn (h h' : H) (p : UPkg) (T : List (List UInt8)) (vs vo : Value) : Prop where
  blocks : 0 ≤ p.blocks ∧ p.blocks ≤ 100
  digest : p.digest.length ≤ 40
  steps : ∀ s ∈ p.steps, okd s
  few : p.steps.length ≤ 30
  own : Own h h' vs 4 (p.steps.map UStep.cells)
  old : Own h h' vo 1 (strs T)
  img : imageOk T
theorem stepFor_okd {old : List (List UInt8)} (ho : imageOk old) {d : Nat} (hd : d ≤ 8) {y : List UInt8} (hy : y.length = 8) : okd (stepFor old d y) := by
  have h1 := ho.1
  have a1 := firstAt_le (isP y) old
  have a2 := firstAt_le (nearP y) old
  unfold stepFor
  split
  · exact okd_of (in64_small (by omega)) (in64_small (by omega)) (in64_small (by omega)) (by simp)
  · split
    · exact okd_of (in64_small (by omega)) (in64_small (by omega)) (in64_small (by omega)) (by simp)
    · split
      · rename_i q
        obtain ⟨k, hk, e, eat⟩ := near_get ho q
        have hx := ho.2 _ (List.getElem_mem hk)
        refine okd_of (in64_small (by omega)) (in64_small (by omega)) (in64_small (by omega)) ?_
        rw [e, eat, xorB_len (by omega), hx]; omega
      · exact okd_of (in64_small (by omega)) (in64_small (by omega)) (in64_small (by omega)) (by omega)
theorem pkgSteps_okd {old fresh : List (List UInt8)} (ho : imageOk old) (hf : imageOk fresh) (hl : old.length = fresh.length) : ∀ s ∈ pkgSteps old fresh, okd s := by
  intro s hs
  unfold pkgSteps at hs
  rcases List.mem_append.1 hs with h | h
  · unfold stepsTo at h
    obtain ⟨i, hi, e⟩ := List.mem_filterMap.1 h
    have hi2 := List.mem_range.1 hi
    split at e
    · cases e
    · cases e
      have : fresh.getD i [] = fresh[i]'(by omega) := by simp [List.getD, List.getElem?_eq_getElem (by omega : i < fresh.length)]
      exact stepFor_okd ho (by have := ho.1; omega) (by rw [this]; exact hf.2 _ (List.getElem_mem _))
  · simp only [List.mem_singleton] at h
    subst h
    exact okd_of (in64_small (by omega)) (in64_small (by omega)) (in64_small (by omega)) (by simp)
theorem pkgSteps_len {old fresh : List (List UInt8)} (ho : imageOk old) : (pkgSteps old fresh).length ≤ 9 := by
  have := stepsTo_len old fresh old.length
  have := ho.1
  simp [pkgSteps]; omega
/-- In the middle of it: the package in its box. -/
structure PkgIn (v : Value) (l : List UInt8) (b b2 b6 : Nat) (T : List (List UInt8)) (vo : Value) (h : H) (p : UPkg) (vs : Value) (h' : H) : Prop where
  q2 : b2 ≠ b
  q6 : b6 ≠ b
  z26 : b2 ≠ b6
  n2h : h.get b2 = none
  n6h : h.get b6 = none
  hs : Src v l h b
  g6 : h'.get b6 = some ⟨p.cells vs, 3⟩
  b6b : h'.base ≤ b6
  g2 : h'.get b2 = some ⟨[i64 0, str [], nils], 3⟩
  b2b : h'.base ≤ b2
  D : PkgDrawn h h' p T vs vo
  n6 : ob vs ≠ some b6
  n2 : ob vs ≠ some b2
  o6 : ob vo ≠ some b6
  o2 : ob vo ≠ some b2
  ap : Ap vo vs
  W : Drew v l b h h'
theorem PkgIn.drew {v : Value} {l : List UInt8} {b b2 b6 : Nat} {T : List (List UInt8)} {vo : Value} {h : H} {p : UPkg} {vs : Value} {h1 h2 : H} (k : PkgIn v l b b2 b6 T vo h p vs h1) (d : Drew v l b h1 h2) : PkgIn v l b b2 b6 T vo h p vs h2 := by
  have hS : ∀ x, x = b → h.get x ≠ none := fun x e => by subst e; exact k.hs.known
  exact ⟨k.q2, k.q6, k.z26, k.n2h, k.n6h, k.hs, d.1.2.1 b6 _ k.q6 k.g6, by rw [d.1.1]; exact k.b6b, d.1.2.1 b2 _ k.q2 k.g2, by rw [d.1.1]; exact k.b2b,
    ⟨k.D.blocks, k.D.digest, k.D.steps, k.D.few, k.D.own.keepS d.1 hS, k.D.old.keepS d.1 hS, k.D.img⟩, k.n6, k.n2, k.o6, k.o2, k.ap, k.W.trans d⟩
theorem PkgIn.ext {v : Value} {l : List UInt8} {b b2 b6 : Nat} {T : List (List UInt8)} {vo : Value} {h : H} {p : UPkg} {vs : Value} {h1 h2 : H} (k : PkgIn v l b b2 b6 T vo h p vs h1) (e : Ext h1 h2) : PkgIn v l b b2 b6 T vo h p vs h2 := k.drew (Drew.of_ext k.W.2 e)
theorem PkgIn.put {v : Value} {l : List UInt8} {b b2 b6 : Nat} {T : List (List UInt8)} {vo : Value} {h : H} {p : UPkg} {vs : Value} {h1 : H} (k : PkgIn v l b b2 b6 T vo h p vs h1) (p' : UPkg) (vs' : Value) (hb : 0 ≤ p'.blocks ∧ p'.blocks ≤ 100) (hd : p'.digest.length ≤ 40) (hst : ∀ s ∈ p'.steps, okd s) (hf : p'.steps.length ≤ 30)
    (ho : Own h h1 vs' 4 (p'.steps.map UStep.cells)) (m6 : ob vs' ≠ some b6) (m2 : ob vs' ≠ some b2) (mp : Ap vo vs') : PkgIn v l b b2 b6 T vo h p' vs' (h1.set b6 ⟨p'.cells vs', 3⟩) :=
  ⟨k.q2, k.q6, k.z26, k.n2h, k.n6h, k.hs, H.set_get_same _ _ _, by rw [H.set_base]; exact k.b6b, by rw [H.set_get_ne _ _ _ _ k.z26]; exact k.g2, by rw [H.set_base]; exact k.b2b,
    ⟨hb, hd, hst, hf, ho.setOb m6 _, k.D.old.setOb k.o6 _, k.D.img⟩, m6, m2, k.o6, k.o2, mp, Drew.set k.W k.n6h k.hs _⟩
theorem ownBN {h0 h1 h : H} {v : Value} {w : Nat} {rows : List (List Value)} (o : Own h1 h v w rows) (e : ∀ b, h1.get b = none → h0.get b = none) : Own h0 h v w rows := by
  rcases o with o | ⟨b, c, z, h1, h2, h3, h4, h5⟩
  · exact .inl o
  · exact .inr ⟨b, c, z, h1, h2, h3, e _ h4, h5⟩
theorem ob_of_new {h0 h : H} {v : Value} {w : Nat} {rows : List (List Value)} (o : Own h0 h v w rows) {b : Nat} (hb : h0.get b ≠ none) : ob v ≠ some b := fun e => hb (o.ob_new e).1
def PkgAt (n : Nat) (v : Value) (l : List UInt8) (b b2 b6 k : Nat) (T : List (List UInt8)) (vo : Value) (h : H) (f : Fr) (h' : H) : Prop := ∃ (p : UPkg) (vs : Value), p.steps.length ≤ n ∧ f 0 = ptr b 0 ∧ f 2 = ptr b2 0 ∧ f 4 = i64 k ∧ f 5 = vo ∧ f 6 = ptr b6 0 ∧ PkgIn v l b b2 b6 T vo h p vs h'
/-- (*spec.l01Src).l08Package -/
def b_spec_l01Src_l08Package : C := (.seq (.ops [⟨(some 2), none, .alloc [(i64 0), (str []), nils]⟩, q 3 (.mv (.c nils))])
 (.seq (.ops [q 7 (.mv (.t 0)), ⟨(some 8), none, .call (.c (.func (.func 43) #[] #[])) [(.t 7), (.c (i64 5))]⟩, q 9 (.bin .add (.c (i64 1)) (.t 8)), q 4 (.mv (.t 9))])
 (.seq (.ops [q 10 (.mv (.t 0)), q 11 (.mv (.t 4)), ⟨(some 12), none, .call (.c (.func (.func 99) #[] #[])) [(.t 10), (.t 11)]⟩, q 5 (.mv (.t 12))])
 (.seq (.ops [q 13 (.mv (.t 5)), q 14 (.mv (.t 0)), q 15 (.mv (.t 4)), ⟨(some 16), none, .call (.c (.func (.func 99) #[] #[])) [(.t 14), (.t 15)]⟩, ⟨(some 17), none, .call (.c (.func (.func 14) #[] #[])) [(.t 13), (.t 16)]⟩, q 18 (.part true 0 3 (.t 17)), ⟨(some 6), none, .alloc [(i64 0), (str []), nils]⟩, ⟨none, none, .st 3 (.t 6) (.t 18)⟩])
 (.seq (.seq (.ops [q 19 (.mv (.t 0)), ⟨(some 20), none, .call (.c (.func (.func 48) #[] #[])) [(.t 19), (.c (i64 3))]⟩])
 (.cond (.t 20) (.seq (.ops [q 21 (.mv (.t 0)), q 22 (.mv (.t 4)), ⟨(some 23), none, .call (.c (.func (.func 100) #[] #[])) [(.t 21), (.t 22)]⟩, q 24 (.fld 2 (.t 6)), ⟨none, none, .st 1 (.t 24) (.t 23)⟩])
 (.ops [q 25 (.mv (.t 5)), q 26 (.fld 2 (.t 6)), q 27 (.ld false 1 (.t 26)), ⟨(some 28), none, .call (.c (.func (.func 62) #[] #[])) [(.t 25), (.t 27)]⟩, ⟨(some 29), none, .call (.c (.func (.func 54) #[] #[])) [(.t 28)]⟩, q 30 (.fld 1 (.t 6)), ⟨none, none, .st 1 (.t 30) (.t 29)⟩])) .skip))
 (.seq (.seq (.ops [q 31 (.mv (.t 0)), ⟨(some 32), none, .call (.c (.func (.func 48) #[] #[])) [(.t 31), (.c (i64 10))]⟩])
 (.cond (.t 32) (.seq (.ops [q 33 (.mv (.t 0)), ⟨(some 34), none, .call (.c (.func (.func 43) #[] #[])) [(.t 33), (.c (i64 4))]⟩])
 (.block 0 (.seq (.ops [q 43 (.bin .eql (.t 34) (.c (i64 0))), q 42 (.mv (.t 43))])
 (.cond (.t 42) (.ops [q 44 (.mv (.t 0)), ⟨(some 45), none, .call (.c (.func (.func 43) #[] #[])) [(.t 44), (.c (i64 10))]⟩, q 46 (.fld 0 (.t 6)), ⟨none, none, .st 1 (.t 46) (.t 45)⟩]) (.seq (.ops [q 48 (.bin .eql (.t 34) (.c (i64 1))), q 47 (.mv (.t 48))])
 (.cond (.t 47) (.ops [⟨(some 49), none, .call (.c (.func (.func 101) #[] #[])) [(.c (str [120]))]⟩, q 50 (.fld 1 (.t 6)), ⟨none, none, .st 1 (.t 50) (.t 49)⟩]) (.seq (.ops [q 52 (.bin .eql (.t 34) (.c (i64 2))), q 51 (.mv (.t 52))])
 (.cond (.t 51) (.ops [q 53 (.mv (.t 0)), q 54 (.mv (.t 0)), ⟨(some 55), none, .call (.c (.func (.func 43) #[] #[])) [(.t 54), (.c (i64 2))]⟩, q 56 (.bin .mul (.c (i64 2)) (.t 55)), q 57 (.bin .add (.c (i64 31)) (.t 56)), ⟨(some 58), none, .call (.c (.func (.func 102) #[] #[])) [(.t 53), (.t 57)]⟩, q 59 (.fld 1 (.t 6)), ⟨none, none, .st 1 (.t 59) (.t 58)⟩]) (.dopx (.tk (q 35 (.fld 2 (.t 6))) (.tk (q 36 (.ld false 1 (.t 35))) (.tk (q 37 (.mv (.t 0))) (.sq (⟨(some 38), none, .call (.c (.func (.func 103) #[] #[])) [(.t 37)]⟩) (.sq (⟨(some 39), none, .bsl 1 [(i64 0), (i64 0), (i64 0), (str [])] [(0, 4, (.t 38))]⟩) (.lt (⟨(some 40), none, .app 4 40 (.t 36) (.t 39)⟩) (.tk (q 41 (.fld 2 (.t 6))) (.lt (⟨none, none, .st 1 (.t 41) (.t 40)⟩) .nil))))))))))))))))) .skip))
 (.seq (.ops [q 60 (.ld true 3 (.t 6)), q 61 (.mv (.t 5)), ⟨none, none, .st 3 (.t 2) (.t 60)⟩, q 3 (.mv (.t 61))])
 .ret)))))))
theorem w_spec_l01Src_l08Package {args : List Value} {h : H} {Q : Value → H → Prop} (hl : args.length ≤ 62) (hk : wpc Tryz.prog b_spec_l01Src_l08Package (retw [.cell 2 true 3, .tmp 3] Q) (argsFr args) h) : AC Tryz.prog 42 args h Q :=
  AC.of_wpcx mixedOrders Tryz.func42 (by kernel_rfl) (by kernel_rfl : prepFx Tryz.prog Tryz.f42 = some ⟨62, [.cell 2 true 3, .tmp 3], b_spec_l01Src_l08Package⟩) hl hk

set_option maxHeartbeats 800000 in
theorem src_package {h : H} {b : Nat} {v : Value} {l : List UInt8} (hs : Src v l h b) : AC Tryz.prog 42 [ptr b 0] h fun r h' => (∃ (p : UPkg) (T : List (List UInt8)) (vs vo : Value), r = .tuple #[.agg (p.cells vs).toArray, vo] ∧ PkgDrawn h h' p T vs vo) ∧ Drew v l b h h' := by
  have hS : ∀ x, x = b → h.get x ≠ none := fun x e => by subst e; exact hs.known
  have hkn := hs.sl.known
  refine w_spec_l01Src_l08Package (by simp) ?_
  unfold b_spec_l01Src_l08Package
  simp -implicitDefEqProofs only [go_sem]
  intro b2 hb2 n2
  have e2 := (Ext.refl h).set n2 ⟨[i64 0, str [], nils], 3⟩
  have q2 : b2 ≠ b := fun e => by subst e; exact hs.known n2
  simp -implicitDefEqProofs only [go_sem]
  refine AC_of (src_n (hs.ext e2) (by omega)) ?_
  rintro _ h1 - ⟨⟨k, rfl, k0, k1, -⟩, d1⟩
  have hk := k1 (by omega)
  obtain ⟨k, rfl⟩ : ∃ n : Nat, k = n := ⟨k.toNat, by omega⟩
  have D1 := (Drew.of_ext hs e2).trans d1
  have hk1 : IntKind.i64.wrap (1 + (k : Int)) = ((k + 1 : Nat) : Int) := by rw [wrap_i64 (by omega) (by omega)]; omega
  simp -implicitDefEqProofs only [go_sem, hk1]
  refine AC_of (src_image D1.2 (n := k + 1) (by omega)) ?_
  rintro vo h2 - ⟨⟨T, hT, hT8, oT⟩, d2⟩
  have D2 := D1.trans d2
  have iT : imageOk T := ⟨by omega, hT8⟩
  simp -implicitDefEqProofs only [go_sem]
  refine AC_of (src_image D2.2 (n := k + 1) (by omega)) ?_
  rintro vf h3 - ⟨⟨F, hF, hF8, oF⟩, d3⟩
  have D3 := D2.trans d3
  have iF : imageOk F := ⟨by omega, hF8⟩
  have oT3 := oT.keepS d3.1 (fun x e => by subst e; exact D1.2.known)
  simp -implicitDefEqProofs only [go_sem]
  refine AC_of (specPackageOfO_ac oT3.sl oF.sl (by omega) (by omega)) ?_
  rintro _ h4 - ⟨e4, vp, rfl, oP⟩
  have hpo : packageOut T F = (⟨(T.length : Int), shaL F.flatten, pkgSteps T F⟩, 0) := by
    unfold packageOut
    rw [if_neg (by have := iT.1; have := iF.1; omega), if_neg (fun q => q ⟨iT, iF, by omega⟩)]
  rw [hpo] at oP
  rw [hpo]
  simp only at oP
  have v1 := oP.sl.one
  have v2 := oP.sl.vcl
  have D4 := D3.ext e4
  simp -implicitDefEqProofs only [go_sem, v1, v2]
  intro b6 hb6 n6
  simp -implicitDefEqProofs only [go_sem, hb6, v1, v2]
  have n6h := D4.1.nones b6 n6
  have D6 := D4.ext ((Ext.refl h4).set n6 ⟨(⟨(T.length : Int), shaL F.flatten, pkgSteps T F⟩ : UPkg).cells vp, 3⟩)
  have q6 : b6 ≠ b := fun e => by subst e; exact D4.2.known n6
  have g21 : h1.get b2 = some ⟨[i64 0, str [], nils], 3⟩ := d1.1.2.1 b2 _ q2 (H.set_get_same _ _ _)
  have g22 := d2.1.2.1 b2 _ q2 g21
  have g23 := d3.1.2.1 b2 _ q2 g22
  have g2 := e4.2.g b2 _ g23
  have z26 : b2 ≠ b6 := fun e => by subst e; rw [g2] at n6; cases n6
  have E6 := (Ext.refl h4).set n6 ⟨(⟨(T.length : Int), shaL F.flatten, pkgSteps T F⟩ : UPkg).cells vp, 3⟩
  have oTh : Own h h4 vo 1 (strs T) := ((ownBN oT D1.1.nones).keepS d3.1 hS).ext e4
  have oPh := ownBN oP D3.1.nones
  have hl9 := pkgSteps_len (old := T) (fresh := F) iT
  have K6 : PkgIn v l b b2 b6 T vo h ⟨(T.length : Int), shaL F.flatten, pkgSteps T F⟩ vp (h4.set b6 ⟨(⟨(T.length : Int), shaL F.flatten, pkgSteps T F⟩ : UPkg).cells vp, 3⟩) :=
    ⟨q2, q6, z26, n2, n6h, hs, H.set_get_same _ _ _, by rw [H.set_base]; exact hb6, E6.2.g b2 _ g2, by rw [E6.1, e4.1, d3.1.1, d2.1.1, d1.1.1, H.set_base]; exact hb2,
      ⟨by have := iT.1; simp only; omega, by simp only [shaL_length]; omega, pkgSteps_okd iT iF (by omega), by simp only; omega, oPh.ext E6, oTh.ext E6, iT⟩,
      (fun e => by obtain ⟨_, _, z, hg⟩ := oP.ob_new e; rw [n6] at hg; cases hg), ob_of_new oP (by rw [g23]; simp), (fun e => by obtain ⟨_, _, z, hg⟩ := oTh.ob_new e; rw [n6] at hg; cases hg), ob_of_new oT (by rw [g21]; simp), Own.ap oT3 oP, D6⟩
  generalize h4.set b6 ⟨(⟨(T.length : Int), shaL F.flatten, pkgSteps T F⟩ : UPkg).cells vp, 3⟩ = h6 at *
  refine AC_of (src_one K6.W.2 (by omega)) ?_
  rintro _ h7 - ⟨⟨t, rfl⟩, d7⟩
  have K7 := K6.drew d7
  have hp0 : (⟨(T.length : Int), shaL F.flatten, pkgSteps T F⟩ : UPkg).steps.length ≤ 20 := by simp only; omega
  clear K6 E6 oP oPh oT oT3 oTh oF d1 d2 d3 D1 D2 D3 D4 D6 d7 e4
  generalize (⟨(T.length : Int), shaL F.flatten, pkgSteps T F⟩ : UPkg) = p0 at *
  refine wpc_cutT (PkgAt 20 v l b b2 b6 (k + 1) T vo h) ?_ ?_
  · cases t
    · simp -implicitDefEqProofs only [go_sem]
      exact ⟨p0, vp, hp0, by simp -implicitDefEqProofs only [go_sem], by simp -implicitDefEqProofs only [go_sem], by simp -implicitDefEqProofs only [go_sem], by simp -implicitDefEqProofs only [go_sem], by simp -implicitDefEqProofs only [go_sem], K7⟩
    · simp -implicitDefEqProofs only [go_sem]
      refine AC_of (src_stepsC K7.W.2 (by omega)) ?_
      rintro w h8 - ⟨⟨L, hL, ⟨hL20, hLc⟩, oL⟩, d8⟩
      have K8 := K7.drew d8
      have oLh := ownBN oL K7.W.1.nones
      have K9 := K8.put { p0 with steps := L } w K8.D.blocks K8.D.digest hL (by simp only; omega) oLh (ob_of_new oL (by rw [K7.g6]; simp)) (ob_of_new oL (by rw [K7.g2]; simp)) (Own.ap K7.D.old oL)
      have w1 := oL.sl.one
      have w2 := oL.sl.vcl
      simp -implicitDefEqProofs only [go_sem, ldc_get K8.g6, stc_get K8.g6, K8.b6b, w1, w2]
      have hst : ∀ s ∈ L, stepOk s (T.length : Int) := by
        rcases hLc with rfl | hc
        · simp
        · rw [hT]; exact (code_zero hc).1.2.2
      refine AC_of (l07Apply_ac K9.D.old.sl K9.D.own.sl iT (by simp only; omega) hst) ?_
      rintro va h10 - ⟨e10, fa⟩
      simp -implicitDefEqProofs only [go_sem]
      refine (specImageDigest_pc fa.sl (applyB_ok iT hst)).use ?_
      have K10 := K9.ext e10
      have K11 := K10.put { p0 with steps := L, digest := shaL (applyB T L).flatten } w K10.D.blocks (by simp only [shaL_length]; omega) hL (by simp only; omega) K10.D.own K10.n6 K10.n2 K10.ap
      simp -implicitDefEqProofs only [go_sem, ldc_get K10.g6, stc_get K10.g6, K10.b6b]
      exact ⟨_, w, by simp only; omega, by simp -implicitDefEqProofs only [go_sem], by simp -implicitDefEqProofs only [go_sem], by simp -implicitDefEqProofs only [go_sem], by simp -implicitDefEqProofs only [go_sem], by simp -implicitDefEqProofs only [go_sem], K11⟩
  rintro f8 h8 ⟨p, vs, hps, f0, f2, f4, f5, f6, K⟩
  clear K7
  skip
  simp -implicitDefEqProofs only [go_sem, f0, f2, f4, f5, f6]
  refine AC_of (src_one K.W.2 (by omega)) ?_
  rintro _ h9 - ⟨⟨t, rfl⟩, d9⟩
  have K9 := K.drew d9
  clear K
  refine wpc_cutT (PkgAt 21 v l b b2 b6 (k + 1) T vo h) ?_ ?_
  · cases t
    · simp -implicitDefEqProofs only [go_sem, f0, f2, f4, f5, f6]
      exact ⟨p, vs, by omega, by simp -implicitDefEqProofs only [go_sem, f0, f2, f4, f5, f6], by simp -implicitDefEqProofs only [go_sem, f0, f2, f4, f5, f6], by simp -implicitDefEqProofs only [go_sem, f0, f2, f4, f5, f6], by simp -implicitDefEqProofs only [go_sem, f0, f2, f4, f5, f6], by simp -implicitDefEqProofs only [go_sem, f0, f2, f4, f5, f6], K9⟩
    · simp -implicitDefEqProofs only [go_sem, f0, f2, f4, f5, f6]
      refine AC_of (src_n K9.W.2 (by omega)) ?_
      rintro _ h10 - ⟨⟨n, rfl, j0, j1, -⟩, d10⟩
      have hn4 := j1 (by omega)
      have K10 := K9.drew d10
      clear K9
      by_cases c0 : n = 0
      · subst c0
        simp -implicitDefEqProofs only [go_sem, f0, f2, f4, f5, f6]
        refine AC_of (src_n K10.W.2 (by omega)) ?_
        rintro _ h11 - ⟨⟨q, rfl, i0, i1, -⟩, d11⟩
        have := i1 (by omega)
        have K11 := K10.drew d11
        have K12 := K11.put { p with blocks := q } vs (by simp only; omega) K11.D.digest K11.D.steps K11.D.few K11.D.own K11.n6 K11.n2 K11.ap
        simp -implicitDefEqProofs only [go_sem, ldc_get K11.g6, stc_get K11.g6, K11.b6b, f0, f2, f4, f5, f6]
        exact ⟨_, vs, by simp only; omega, by simp -implicitDefEqProofs only [go_sem, f0, f2, f4, f5, f6], by simp -implicitDefEqProofs only [go_sem, f0, f2, f4, f5, f6], by simp -implicitDefEqProofs only [go_sem, f0, f2, f4, f5, f6], by simp -implicitDefEqProofs only [go_sem, f0, f2, f4, f5, f6], by simp -implicitDefEqProofs only [go_sem, f0, f2, f4, f5, f6], K12⟩
      by_cases c1 : n = 1
      · subst c1
        simp -implicitDefEqProofs only [go_sem, f0, f2, f4, f5, f6]
        refine (specDigest_pc _ [120] (by decide)).use ?_
        have K12 := K10.put { p with digest := digestOf [120] } vs K10.D.blocks (by unfold digestOf; rw [if_neg (by decide)]; simp only [shaL_length]; omega) K10.D.steps K10.D.few K10.D.own K10.n6 K10.n2 K10.ap
        simp -implicitDefEqProofs only [go_sem, ldc_get K10.g6, stc_get K10.g6, K10.b6b, f0, f2, f4, f5, f6]
        exact ⟨_, vs, by simp only; omega, by simp -implicitDefEqProofs only [go_sem, f0, f2, f4, f5, f6], by simp -implicitDefEqProofs only [go_sem, f0, f2, f4, f5, f6], by simp -implicitDefEqProofs only [go_sem, f0, f2, f4, f5, f6], by simp -implicitDefEqProofs only [go_sem, f0, f2, f4, f5, f6], by simp -implicitDefEqProofs only [go_sem, f0, f2, f4, f5, f6], K12⟩
      by_cases c2 : n = 2
      · subst c2
        simp -implicitDefEqProofs only [go_sem, f0, f2, f4, f5, f6]
        refine AC_of (src_n K10.W.2 (by omega)) ?_
        rintro _ h11 - ⟨⟨q, rfl, i0, i1, -⟩, d11⟩
        have := i1 (by omega)
        have K11 := K10.drew d11
        obtain ⟨m, hm⟩ : ∃ m : Nat, 31 + 2 * q = m := ⟨(31 + 2 * q).toNat, by omega⟩
        have w1 : IntKind.i64.wrap (2 * q) = 2 * q := wrap_i64 (show -(9223372036854775808 : Int) ≤ (2 * q) by omega) (show (2 * q) < 9223372036854775808 by omega)
        have w2 : IntKind.i64.wrap (31 + 2 * q) = (m : Int) := by rw [wrap_i64 (by omega) (by omega)]; exact hm
        skip
        simp -implicitDefEqProofs only [go_sem, f0, f2, f4, f5, f6, w1, w2]
        refine AC_of (src_bytes K11.W.2 (n := m) (by omega)) ?_
        rintro _ h12 - ⟨⟨s, hs', rfl⟩, d12⟩
        have K12 := K11.drew d12
        have K13 := K12.put { p with digest := s } vs K12.D.blocks (by simp only; omega) K12.D.steps K12.D.few K12.D.own K12.n6 K12.n2 K12.ap
        simp -implicitDefEqProofs only [go_sem, ldc_get K12.g6, stc_get K12.g6, K12.b6b, f0, f2, f4, f5, f6, w1, w2]
        exact ⟨_, vs, by simp only; omega, by simp -implicitDefEqProofs only [go_sem, f0, f2, f4, f5, f6, w1, w2], by simp -implicitDefEqProofs only [go_sem, f0, f2, f4, f5, f6, w1, w2], by simp -implicitDefEqProofs only [go_sem, f0, f2, f4, f5, f6, w1, w2], by simp -implicitDefEqProofs only [go_sem, f0, f2, f4, f5, f6, w1, w2], by simp -implicitDefEqProofs only [go_sem, f0, f2, f4, f5, f6, w1, w2], K13⟩
      skip
      obtain ⟨av, cv, rfl⟩ := K10.D.own.shape
      have hls : (p.steps.map UStep.cells).length = p.steps.length := by simp
      simp -implicitDefEqProofs only [go_sem, c0, c1, c2, f0, f2, f4, f5, f6]
      refine dopX_of (but h10 b) (but_sub h10 b) ?_
      have B6 : (but h10 b).get b6 = some ⟨p.cells (.slice av (p.steps.map UStep.cells).length cv), 3⟩ := by rw [but_get K10.q6]; exact K10.g6
      simp -implicitDefEqProofs only [go_sem, ldc_get B6, f0, f2, f4, f5, f6]
      refine AC_of (src_any K10.W.2) ?_
      rintro _ h11 - ⟨⟨x, hx, rfl⟩, d11⟩
      refine ⟨but_keep d11.1, ?_⟩
      have K11 := K10.drew d11
      simp -implicitDefEqProofs only [go_sem, f0, f2, f4, f5, f6]
      intro bx hbx nx
      have X := (Ext.refl h11).set nx ⟨x.cells, 4⟩
      have K12 := K11.ext X
      refine ⟨Sub.set (but_keep d11.1) nx _, ?_⟩
      simp -implicitDefEqProofs only [go_sem, hls, f0, f2, f4, f5, f6]
      refine appW_ownB (new := [x.cells]) (fun c hc => K12.W.1.nones c hc) (by have := K12.D.own; rw [hls] at this; exact this) rfl (by intro r hr; simp at hr; subst hr; rfl) rfl (by rw [hls]; have := K12.D.few; simp; omega) ?_ (fun h => by cases h)
      intro v' b' y hb' hor hob o5
      rw [← hls] at hor
      generalize h11.set bx ⟨x.cells, 4⟩ = hx2 at *
      have z6 : b6 ≠ b' := by
        rintro rfl
        rcases hor with e | e
        · exact K12.n6 e
        · rw [K12.g6] at e; cases e
      have z2 : b2 ≠ b' := by
        rintro rfl
        rcases hor with e | e
        · exact K12.n2 e
        · rw [K12.g2] at e; cases e
      have zo : ob vo ≠ some b' := fun e => by
        rcases hor with e2 | e2
        · exact K12.ap _ e e2
        · obtain ⟨_, _, z, hg⟩ := K12.D.old.ob_new e; rw [e2] at hg; cases hg
      have hmap : p.steps.map UStep.cells ++ [x.cells] = (p.steps ++ [x]).map UStep.cells := by simp
      rw [hmap] at o5
      have g6 : (hx2.set b' y).get b6 = _ := (H.set_get_ne _ _ _ _ z6).trans K12.g6
      have b6b : (hx2.set b' y).base ≤ b6 := by rw [H.set_base]; exact K12.b6b
      have m6 : ob v' ≠ some b6 := fun e => z6 (hob _ e)
      have m2 : ob v' ≠ some b2 := fun e => z2 (hob _ e)
      have gb2 : (hx2.set b' y).get b2 = _ := (H.set_get_ne _ _ _ _ z2).trans K12.g2
      have b2b' : (hx2.set b' y).base ≤ b2 := by rw [H.set_base]; exact K12.b2b
      have oo := K12.D.old.setOb zo y
      have WW := Drew.set K12.W hb' K12.hs y
      generalize hx2.set b' y = hz at *
      have K13 : PkgIn v l b b2 b6 T vo h { p with steps := p.steps ++ [x] } v' (hz.set b6 ⟨({ p with steps := p.steps ++ [x] } : UPkg).cells v', 3⟩) :=
        ⟨K12.q2, K12.q6, K12.z26, K12.n2h, K12.n6h, K12.hs, H.set_get_same _ _ _, by rw [H.set_base]; exact b6b, by rw [H.set_get_ne _ _ _ _ K12.z26]; exact gb2, by rw [H.set_base]; exact b2b',
          ⟨K12.D.blocks, K12.D.digest, fun s hs => by
            rcases List.mem_append.1 hs with h | h
            · exact K12.D.steps s h
            · simp only [List.mem_singleton] at h; subst h; exact hx, by simp; omega, o5.setOb m6 _, oo.setOb K12.o6 _, K12.D.img⟩,
          m6, m2, K12.o6, K12.o2, fun z e1 e2 => zo (by rw [e1, hob _ e2]), Drew.set WW K12.n6h K12.hs _⟩
      have w1 := o5.sl.one
      have w2 := o5.sl.vcl
      simp -implicitDefEqProofs only [go_sem, stc_get g6, b6b, w1, w2, f0, f2, f4, f5, f6]
      exact ⟨_, v', by simp; omega, by simp -implicitDefEqProofs only [go_sem, f0, f2, f4, f5, f6], by simp -implicitDefEqProofs only [go_sem, f0, f2, f4, f5, f6], by simp -implicitDefEqProofs only [go_sem, f0, f2, f4, f5, f6], by simp -implicitDefEqProofs only [go_sem, f0, f2, f4, f5, f6], by simp -implicitDefEqProofs only [go_sem, f0, f2, f4, f5, f6], K13⟩
  clear f0 f2 f4 f5 f6 K9
  rintro f9 h10 ⟨p, vs, hps, f0, f2, f4, f5, f6, K⟩
  simp -implicitDefEqProofs only [go_sem, f0, f2, f4, f5, f6, ldc_get K.g6, stc_get K.g6, ldc_get K.g2, stc_get K.g2, K.b2b, K.D.own.sl.one, K.D.own.sl.vcl, f0, f2, f4, f5, f6]
  exact ⟨⟨p, T, vs, vo, rfl, ⟨K.D.blocks, K.D.digest, K.D.steps, K.D.few, K.D.own.setOb K.n2 _, K.D.old.setOb K.o2 _, K.D.img⟩⟩, Drew.set K.W K.n2h K.hs _⟩
end Go.Proofs.YthjbhdmjfakfaaaGreatDoor
