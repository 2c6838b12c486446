/- A helper of this seat's claims (contracts of the functions): what it shows is shown for every input that its statements name, on no other condition. -/
import Derived.Test.YtiokibikhanfcaaGreatC06c
import Derived.Test.YtiokibikhanfcaaGreatMC13a
import Derived.Test.YtiokibikhanfcaaGreatC09s
import Derived.Test.YtiokibikhanfcaaGreatMC09
set_option linter.unusedVariables false
set_option linter.unusedSimpArgs false
set_option maxRecDepth 100000
namespace Go.Proofs.YtiokibikhanfcaaGreat
open Go.KH

/-! ## Packages -/
structure UPkg where
  blocks : Int
  digest : List UInt8
  steps : List UStep
deriving DecidableEq
abbrev UPkg.cells (p : UPkg) (v : Value) : List Value := [i64 p.blocks, str p.digest, v]
def pkgOk (p : UPkg) : Prop := codeOf p.steps p.blocks = 0 ∧ p.digest.length = 32
noncomputable instance (p : UPkg) : Decidable (pkgOk p) := inferInstanceAs (Decidable (_ ∧ _))
def UPkg.fin (p : UPkg) : Prop := p.steps.length ≤ maxLen
def UPkg.ok (p : UPkg) : Prop := in64 p.blocks ∧ p.digest.length ≤ maxLen ∧ p.steps.length ≤ maxLen ∧ ∀ s ∈ p.steps, s.ok
theorem stepB_60 {s : UStep} {b : Int} (hs : s.ok) (h : stepOk s b) : (stepB s).length ≤ 60 := by
  have hd := stepOk_data h
  have l1 := putNum_le hs.1
  have l2 := putNum_le hs.2.1
  have l3 := putNum_le hs.2.2.1
  have l4 := putText_le (t := s.data) (by omega)
  unfold stepB
  simp only [List.length_append]; omega
end Go.Proofs.YtiokibikhanfcaaGreat

set_option linter.unusedVariables false
set_option linter.unusedSimpArgs false
set_option maxRecDepth 100000
namespace Go.Proofs.YtiokibikhanfcaaGreat
open Go.KH

/-! ## Scans -/
def scanN (n : Nat) : List (List UInt8) → List UStep
  | [] => []
  | t :: ts => if (recR t n).2 = 0 then (recR t n).1 :: scanN (n + 1) ts else []
theorem scanN_len : ∀ (ts : List (List UInt8)) (n : Nat), (scanN n ts).length ≤ ts.length
  | [], n => by simp [scanN]
  | t :: ts, n => by
    unfold scanN
    split
    · have := scanN_len ts (n + 1); simp only [List.length_cons]; omega
    · simp
theorem recR_small {t : List UInt8} {n : Int} (h : (recR t n).2 = 0) : t.length ≤ 8000 := by
  unfold recR at h
  split at h
  · rename_i hc; simp only at h; exact absurd h (by omega)
  rename_i hc
  obtain ⟨i, c, hu⟩ : ∃ i c, unsealB t = (i, c) := ⟨_, _, rfl⟩
  rw [hu] at hc h
  have hc0 : c = 0 := by simpa using hc
  subst hc0
  simp only at h
  by_cases h0 : (getN i 0).2.2 = 0
  · have g1 := getN_eta h0
    rw [recI_s g1] at h
    cases hr : stepR (i.drop (getN i 0).2.1) with
    | none => rw [hr] at h; simp at h
    | some s =>
      rw [hr] at h
      simp only at h
      obtain ⟨r1, r2, r3⟩ := rec_read hu g1 hr
      split at h
      · rename_i hk
        have h4 := (unsealB_ok hu).2
        have e := r2 hk
        unfold recordBytes at e
        split at e
        · rename_i hs
          have l1 := stepB_60 r1 hs.2
          have l2 := putNum_le (getN_ok g1).2.2.2
          rw [← e]
          unfold recordB
          rw [sealB_len, List.length_append]
          omega
        · rw [← e]; simp
      · simp at h
  · unfold recI at h
    rw [if_neg h0] at h
    simp at h
theorem recOut_ok {t : List UInt8} {n : Int} : (recOut t n).2 = 0 ↔ (recR t n).2 = 0 := by
  unfold recOut
  split
  · rename_i h8
    constructor
    · intro h; simp at h
    · intro h; have := recR_small h; omega
  · exact Iff.rfl
theorem recOut_eq {t : List UInt8} {n : Int} (h : (recR t n).2 = 0) : recOut t n = recR t n := by
  unfold recOut; rw [if_neg (by have := recR_small h; omega)]
theorem scanN_step {ts : List (List UInt8)} {k : Nat} (hk : k < ts.length) : scanN k (ts.drop k) = if (recR ts[k] k).2 = 0 then (recR ts[k] k).1 :: scanN (k + 1) (ts.drop (k + 1)) else [] := by
  rw [List.drop_eq_getElem_cons hk, scanN]
/-- impl.scan -/
def b_impl_scan : C := (.seq (.ops [q 2 (.mv (.c nils))])
 (.seq (.ops [q 3 (.mv (.c nils))])
 (.seq (.seq (.ops [q 8 (.mv (.t 0)), q 9 (.len (.t 8)), q 10 (.mv (.c (i64 0)))])
 (.block 0 (.loop (.seq (.ops [q 11 (.bin .lss (.t 10) (.t 9))])
 (.seq (.cond (.t 11) .skip (.exit 0))
 (.seq (.block 1 (.seq (.ops [q 12 (.mv (.t 10)), q 13 (.idx 1 (.t 8) (.t 10)), q 14 (.ld false 1 (.t 13)), q 4 (.mv (.t 12)), q 5 (.mv (.t 14))])
 (.seq (.ops [q 16 (.mv (.t 5)), q 17 (.mv (.t 4)), ⟨(some 18), none, .call (.c (.func (.func 212) #[] #[])) [(.t 16), (.t 17)]⟩, q 15 (.mv (.t 18)), q 19 (.ext 0 (.t 15)), q 20 (.ext 1 (.t 15)), ⟨(some 6), none, .alloc [(i64 0), (i64 0), (i64 0), (str [])]⟩, ⟨none, none, .st 4 (.t 6) (.t 19)⟩, q 7 (.mv (.t 20))])
 (.seq (.seq (.ops [q 21 (.mv (.t 7)), q 22 (.bin .neq (.t 21) (.c (i64 0)))])
 (.cond (.t 22) (.exit 0) .skip))
 (.ops [q 23 (.mv (.t 3)), q 24 (.ld true 4 (.t 6)), ⟨(some 25), none, .bsl 1 [(i64 0), (i64 0), (i64 0), (str [])] [(0, 4, (.t 24))]⟩, ⟨(some 26), none, .app 4 40 (.t 23) (.t 25)⟩, q 3 (.mv (.t 26))])))))
 (.ops [q 27 (.bin .add (.t 10) (.c (i64 1))), q 10 (.mv (.t 27))])))))))
 (.seq (.ops [q 28 (.mv (.t 3)), q 2 (.mv (.t 28))])
 .ret))))
theorem w_impl_scan {args : List Value} {h : H} {Q : Value → H → Prop} (hl : args.length ≤ 29) (hk : wpc Tryz.prog b_impl_scan (retw [.tmp 2] Q) (argsFr args) h) : AC Tryz.prog 157 args h Q :=
  AC.of_wpc mixedOrders Tryz.func157 (by kernel_rfl) (by kernel_rfl : prepF Tryz.prog Tryz.f157 = some ⟨29, [.tmp 2], b_impl_scan⟩) hl hk

theorem scan_ac {h : H} {v : Value} {l : List (List UInt8)} (hv : Sl h v 1 (strs l)) (hn : l.length ≤ 1000) (ht : ∀ t ∈ l, t.length ≤ 1048576) : AC Tryz.prog 157 [v] h fun r h' => Ext h h' ∧ Fre h h' r 4 ((scanN 0 l).map UStep.cells) := by
  obtain ⟨a, c, b, o, rfl, hcap, h2, h3⟩ := hv
  simp only [List.length_map] at h2
  skip
  refine w_impl_scan (by simp) ?_
  unfold b_impl_scan
  simp -implicitDefEqProofs only [go_sem, List.length_map]
  refine loopW_of (fun m f h' => ∃ (k : Nat) (acc : List UStep) (w : Value), m + k = l.length ∧ f 8 = .slice a l.length c ∧ f 9 = i64 l.length ∧ f 10 = i64 k ∧ f 3 = w ∧ scanN 0 l = acc ++ scanN k (l.drop k) ∧ acc.length = k ∧ Ext h h' ∧ Own h h' w 4 (acc.map UStep.cells)) l.length
    ⟨0, [], nils, by simp, by simp -implicitDefEqProofs only [go_sem, List.length_map], by simp -implicitDefEqProofs only [go_sem, List.length_map], by simp -implicitDefEqProofs only [go_sem, List.length_map]; rfl, by simp -implicitDefEqProofs only [go_sem, List.length_map], by simp, rfl, Ext.refl _, Own.nil _ _ _⟩ ?_
  rintro m f h' ⟨k, acc, w, hm, f8, f9, f10, f3, hsc, hak, he, ho⟩
  obtain ⟨aw, cw, rfl⟩ := ho.shape
  rw [List.length_map] at ho f3
  skip
  by_cases hk : k < l.length
  · have e1 := ldc_sub he.2 (h3 k [str l[k]] (by simp [hk]))
    have hmem := ht _ (List.getElem_mem hk)
    simp -implicitDefEqProofs only [go_sem, hk, e1, List.length_map, f8, f9, f10, f3, h2, Int.ofNat_lt, Int.natCast_nonneg]
    refine (recordRead_pc _ l[k] k hmem).use ?_
    rw [scanN_step hk] at hsc
    simp -implicitDefEqProofs only [go_sem, List.length_map, f8, f9, f10, f3, h2, Int.ofNat_lt, Int.natCast_nonneg]
    intro b6 hb_b6 n_b6
    by_cases hc : (recR l[k] k).2 = 0
    · rw [if_pos hc] at hsc
      simp -implicitDefEqProofs only [go_sem, hc, List.length_map, f8, f9, f10, f3, h2, Int.ofNat_lt, Int.natCast_nonneg, hb_b6]
      intro b7 hb_b7 m0_b7
      obtain ⟨z_b7_b6, y_b7_b6, n_b7⟩ := fne m0_b7
      simp only [H.set_base] at hb_b7
      simp -implicitDefEqProofs only [go_sem, List.length_map, f8, f9, f10, f3, h2, Int.ofNat_lt, Int.natCast_nonneg, hb_b6, hb_b7, z_b7_b6, y_b7_b6]
      refine appW_own (new := [(recR l[k] k).1.cells]) ((he.set n_b6 _).set m0_b7 _) (ho.ext (((Ext.refl _).set n_b6 _).set m0_b7 _)) rfl (by intro r hr; simp at hr; subst hr; rfl) rfl (by simp; omega) ?_
      intro v' h'' he2 ho2 _
      simp -implicitDefEqProofs only [go_sem, wrap_i64 (show -(9223372036854775808 : Int) ≤ ((k : Int) + 1) by omega) (show ((k : Int) + 1) < 9223372036854775808 by omega), List.length_map, f8, f9, f10, f3, h2, Int.ofNat_lt, Int.natCast_nonneg, hb_b6, hb_b7, z_b7_b6, y_b7_b6]
      exact ⟨m - 1, by omega, h'', Ext.refl _, k + 1, acc ++ [(recR l[k] k).1], v', by omega, rfl, rfl, by rw [hsc]; simp, by simp [hak], he2, by simpa using ho2⟩
    · skip
      rw [if_neg hc, List.append_nil] at hsc
      simp -implicitDefEqProofs only [go_sem, hc, List.length_map, f8, f9, f10, f3, h2, Int.ofNat_lt, Int.natCast_nonneg, hb_b6]
      rw [hsc]
      exact ⟨he.set n_b6 _, (ho.ext ((Ext.refl _).set n_b6 _)).fre⟩
  · skip
    have e : k = l.length := by omega
    subst e
    rw [List.drop_length, scanN, List.append_nil] at hsc
    simp -implicitDefEqProofs only [go_sem, Nat.lt_irrefl, List.length_map, f8, f9, f10, f3, h2, Int.ofNat_lt, Int.natCast_nonneg]
    rw [hsc]
    exact ⟨he, ho.fre⟩
/-- spec.l09Scan -/
def b_spec_l09Scan : C := (.seq (.ops [q 2 (.mv (.c nils))])
 (.seq (.ops [⟨(some 6), none, .bsl 0 [] []⟩, q 3 (.mv (.t 6))])
 (.seq (.seq (.ops [q 4 (.mv (.c (i64 0)))])
 (.block 0 (.loop (.seq (.seq (.ops [q 7 (.mv (.t 4)), q 8 (.mv (.t 0)), q 9 (.len (.t 8)), q 10 (.bin .lss (.t 7) (.t 9))])
 (.cond (.t 10) .skip (.exit 0)))
 (.seq (.block 1 (.seq (.ops [q 13 (.mv (.t 0)), q 14 (.mv (.t 4)), q 15 (.idx 1 (.t 13) (.t 14)), q 16 (.ld false 1 (.t 15)), q 17 (.mv (.t 4)), ⟨(some 18), none, .call (.c (.func (.func 197) #[] #[])) [(.t 16), (.t 17)]⟩, ⟨(some 5), none, .alloc [(i64 0), (i64 0), (i64 0), (str []), (i64 0)]⟩, ⟨none, none, .st 5 (.t 5) (.t 18)⟩])
 (.seq (.seq (.ops [q 19 (.fld 4 (.t 5)), q 20 (.ld false 1 (.t 19)), q 21 (.bin .neq (.t 20) (.c (i64 0)))])
 (.cond (.t 21) (.exit 0) .skip))
 (.ops [q 22 (.mv (.t 3)), q 23 (.fld 0 (.t 5)), q 24 (.ld true 4 (.t 23)), ⟨(some 25), none, .bsl 1 [(i64 0), (i64 0), (i64 0), (str [])] [(0, 4, (.t 24))]⟩, ⟨(some 26), none, .app 4 40 (.t 22) (.t 25)⟩, q 3 (.mv (.t 26))]))))
 (.ops [q 11 (.mv (.t 4)), q 12 (.bin .add (.t 11) (.c (i64 1))), q 4 (.mv (.t 12))]))))))
 (.seq (.ops [q 27 (.mv (.t 3)), q 2 (.mv (.t 27))])
 .ret))))
theorem w_spec_l09Scan {args : List Value} {h : H} {Q : Value → H → Prop} (hl : args.length ≤ 28) (hk : wpc Tryz.prog b_spec_l09Scan (retw [.tmp 2] Q) (argsFr args) h) : AC Tryz.prog 134 args h Q :=
  AC.of_wpc mixedOrders Tryz.func134 (by kernel_rfl) (by kernel_rfl : prepF Tryz.prog Tryz.f134 = some ⟨28, [.tmp 2], b_spec_l09Scan⟩) hl hk

theorem l09Scan_ac {h : H} {v : Value} {l : List (List UInt8)} (hv : Sl h v 1 (strs l)) (hn : l.length ≤ 1000) (ht : ∀ t ∈ l, t.length ≤ 1048576) : AC Tryz.prog 134 [v] h fun r h' => Ext h h' ∧ Fre h h' r 4 ((scanN 0 l).map UStep.cells) := by
  obtain ⟨a, c, b, o, rfl, hcap, h2, h3⟩ := hv
  simp only [List.length_map] at h2
  skip
  refine w_spec_l09Scan (by simp) ?_
  unfold b_spec_l09Scan
  simp -implicitDefEqProofs only [go_sem, List.length_map]
  intro b0 hb0 n0
  simp -implicitDefEqProofs only [go_sem, List.length_map]
  refine loopW_of (fun m f h' => ∃ (k : Nat) (acc : List UStep) (w : Value), m + k = l.length ∧ f 0 = .slice a l.length c ∧ f 4 = i64 k ∧ f 3 = w ∧ scanN 0 l = acc ++ scanN k (l.drop k) ∧ acc.length = k ∧ Ext h h' ∧ Own h h' w 4 (acc.map UStep.cells)) l.length
    ⟨0, [], sl b0 0 0 0, by simp, by simp -implicitDefEqProofs only [go_sem, List.length_map], by simp -implicitDefEqProofs only [go_sem, List.length_map]; rfl, by simp -implicitDefEqProofs only [go_sem, List.length_map], by simp, rfl, (Ext.refl _).set n0 _, .inr ⟨b0, 0, 0, rfl, Nat.le_refl _, hb0, n0, H.set_get_same _ _ _, by simp, Wid.nil 4⟩⟩ ?_
  rintro m f h' ⟨k, acc, w, hm, f0, f4, f3, hsc, hak, he, ho⟩
  obtain ⟨aw, cw, rfl⟩ := ho.shape
  rw [List.length_map] at ho f3
  skip
  by_cases hk : k < l.length
  · have e1 := ldc_sub he.2 (h3 k [str l[k]] (by simp [hk]))
    have hmem := ht _ (List.getElem_mem hk)
    simp -implicitDefEqProofs only [go_sem, hk, e1, List.length_map, f0, f4, f3, h2, Int.ofNat_lt, Int.natCast_nonneg]
    refine (specRecordRead_pc _ l[k] k (by unfold in64; omega) hmem).use ?_
    rw [scanN_step hk] at hsc
    simp -implicitDefEqProofs only [go_sem, List.length_map, f0, f4, f3, h2, Int.ofNat_lt, Int.natCast_nonneg]
    intro b5 hb_b5 n_b5
    by_cases hc : (recR l[k] k).2 = 0
    · rw [if_pos hc] at hsc
      rw [recOut_eq hc]
      simp -implicitDefEqProofs only [go_sem, hc, List.length_map, f0, f4, f3, h2, Int.ofNat_lt, Int.natCast_nonneg, hb_b5]
      intro b7 hb_b7 m0_b7
      obtain ⟨z_b7_b5, y_b7_b5, n_b7⟩ := fne m0_b7
      simp only [H.set_base] at hb_b7
      simp -implicitDefEqProofs only [go_sem, List.length_map, f0, f4, f3, h2, Int.ofNat_lt, Int.natCast_nonneg, hb_b5, hb_b7, z_b7_b5, y_b7_b5]
      refine appW_own (new := [(recR l[k] k).1.cells]) ((he.set n_b5 _).set m0_b7 _) (ho.ext (((Ext.refl _).set n_b5 _).set m0_b7 _)) rfl (by intro r hr; simp at hr; subst hr; rfl) rfl (by simp; omega) ?_
      intro v' h'' he2 ho2 _
      simp -implicitDefEqProofs only [go_sem, wrap_i64 (show -(9223372036854775808 : Int) ≤ ((k : Int) + 1) by omega) (show ((k : Int) + 1) < 9223372036854775808 by omega), List.length_map, f0, f4, f3, h2, Int.ofNat_lt, Int.natCast_nonneg, hb_b5, hb_b7, z_b7_b5, y_b7_b5]
      exact ⟨m - 1, by omega, h'', Ext.refl _, k + 1, acc ++ [(recR l[k] k).1], v', by omega, rfl, rfl, by rw [hsc]; simp, by simp [hak], he2, by simpa using ho2⟩
    · skip
      rw [if_neg hc, List.append_nil] at hsc
      have hc2 : ¬ (recOut l[k] k).2 = 0 := fun h => hc (recOut_ok.1 h)
      simp -implicitDefEqProofs only [go_sem, hc2, List.length_map, f0, f4, f3, h2, Int.ofNat_lt, Int.natCast_nonneg, hb_b5]
      rw [hsc]
      exact ⟨he.set n_b5 _, (ho.ext ((Ext.refl _).set n_b5 _)).fre⟩
  · skip
    have e : k = l.length := by omega
    subst e
    rw [List.drop_length, scanN, List.append_nil] at hsc
    simp -implicitDefEqProofs only [go_sem, Nat.lt_irrefl, List.length_map, f0, f4, f3, h2, Int.ofNat_lt, Int.natCast_nonneg]
    rw [hsc]
    exact ⟨he, ho.fre⟩
structure UScan where
  steps : List UStep
  kept : Int
deriving DecidableEq
abbrev UScan.cells (o : UScan) (v : Value) : List Value := [v, i64 o.kept]
def UScan.fin (o : UScan) : Prop := o.steps.length ≤ maxLen
def UScan.small (o : UScan) : Prop := o.steps.length ≤ 1048576
end Go.Proofs.YtiokibikhanfcaaGreat
