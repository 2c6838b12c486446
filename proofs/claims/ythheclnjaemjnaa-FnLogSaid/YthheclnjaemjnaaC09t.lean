/- A helper of this seat's claims (contracts of the functions): what it shows is shown for every input that its statements name, on no other condition. -/
import Derived.Test.YthheclnjaemjnaaC09s
import Derived.Test.YthheclnjaemjnaaC09
import Derived.Test.YthheclnjaemjnaaC08
set_option linter.unusedVariables false
set_option linter.unusedSimpArgs false
set_option maxRecDepth 100000
namespace Go.Proofs.Ythheclnjaemjnaa
open Go.KH

/-! ## Scans -/
def scanN (n : Nat) : List (List UInt8) → List UStep
  | [] => []
  | t :: ts => if (recR t n).2 = 0 then (recR t n).1 :: scanN (n + 1) ts else []
theorem scanN_len : ∀ (ts : List (List UInt8)) (n : Nat), (scanN n ts).length ≤ ts.length
  | [], n => by simp [scanN]
  | t :: ts, n => by
    unfold scanN
    split
    · have := scanN_len ts (n + 1); simp only [List.length_cons]; omega
    · simp
theorem recR_small {t : List UInt8} {n : Int} (h : (recR t n).2 = 0) : t.length ≤ 8000 := by
  unfold recR at h
  split at h
  · rename_i hc; simp only at h; exact absurd h (by omega)
  rename_i hc
  obtain ⟨i, c, hu⟩ : ∃ i c, unsealB t = (i, c) := ⟨_, _, rfl⟩
  rw [hu] at hc h
  have hc0 : c = 0 := by simpa using hc
  subst hc0
  simp only at h
  by_cases h0 : (getN i 0).2.2 = 0
  · have g1 := getN_eta h0
    rw [recI_s g1] at h
    cases hr : stepR (i.drop (getN i 0).2.1) with
    | none => rw [hr] at h; simp at h
    | some s =>
      rw [hr] at h
      simp only at h
      obtain ⟨r1, r2, r3⟩ := rec_read hu g1 hr
      split at h
      · rename_i hk
        have h4 := (unsealB_ok hu).2
        have e := r2 hk
        unfold recordBytes at e
        split at e
        · rename_i hs
          have l1 := stepB_60 r1 hs.2
          have l2 := putNum_le (getN_ok g1).2.2.2
          rw [← e]
          unfold recordB
          rw [sealB_len, List.length_append]
          omega
        · rw [← e]; simp
      · simp at h
  · unfold recI at h
    rw [if_neg h0] at h
    simp at h
theorem recOut_ok {t : List UInt8} {n : Int} : (recOut t n).2 = 0 ↔ (recR t n).2 = 0 := by
  unfold recOut
  split
  · rename_i h8
    constructor
    · intro h; simp at h
    · intro h; have := recR_small h; omega
  · exact Iff.rfl
theorem recOut_eq {t : List UInt8} {n : Int} (h : (recR t n).2 = 0) : recOut t n = recR t n := by
  unfold recOut; rw [if_neg (by have := recR_small h; omega)]
theorem scanN_step {ts : List (List UInt8)} {k : Nat} (hk : k < ts.length) : scanN k (ts.drop k) = if (recR ts[k] k).2 = 0 then (recR ts[k] k).1 :: scanN (k + 1) (ts.drop (k + 1)) else [] := by
  rw [List.drop_eq_getElem_cons hk, scanN]
/-- impl.scan -/
def b_impl_scan : C := (.seq (.ops [q 2 (.mv (.c nils))])
 (.seq (.ops [q 3 (.mv (.c nils))])
 (.seq (.seq (.ops [q 8 (.mv (.t 0)), q 9 (.len (.t 8)), q 10 (.mv (.c (i64 0)))])
 (.block 0 (.loop (.seq (.ops [q 11 (.bin .lss (.t 10) (.t 9))])
 (.seq (.cond (.t 11) .skip (.exit 0))
 (.seq (.block 1 (.seq (.ops [q 12 (.mv (.t 10)), q 13 (.idx 1 (.t 8) (.t 10)), q 14 (.ld false 1 (.t 13)), q 4 (.mv (.t 12)), q 5 (.mv (.t 14))])
 (.seq (.ops [q 16 (.mv (.t 5)), q 17 (.mv (.t 4)), ⟨(some 18), none, .call (.c (.func (.func 75) #[] #[])) [(.t 16), (.t 17)]⟩, q 15 (.mv (.t 18)), q 19 (.ext 0 (.t 15)), q 20 (.ext 1 (.t 15)), ⟨(some 6), none, .alloc [(i64 0), (i64 0), (i64 0), (str [])]⟩, ⟨none, none, .st 4 (.t 6) (.t 19)⟩, q 7 (.mv (.t 20))])
 (.seq (.seq (.ops [q 21 (.mv (.t 7)), q 22 (.bin .neq (.t 21) (.c (i64 0)))])
 (.cond (.t 22) (.exit 0) .skip))
 (.ops [q 23 (.mv (.t 3)), q 24 (.ld true 4 (.t 6)), ⟨(some 25), none, .bsl 1 [(i64 0), (i64 0), (i64 0), (str [])] [(0, 4, (.t 24))]⟩, ⟨(some 26), none, .app 4 40 (.t 23) (.t 25)⟩, q 3 (.mv (.t 26))])))))
 (.ops [q 27 (.bin .add (.t 10) (.c (i64 1))), q 10 (.mv (.t 27))])))))))
 (.seq (.ops [q 28 (.mv (.t 3)), q 2 (.mv (.t 28))])
 .ret))))
theorem w_impl_scan {args : List Value} {h : H} {Q : Value → H → Prop} (hl : args.length ≤ 29) (hk : wpc Try.prog b_impl_scan (retw [.tmp 2] Q) (argsFr args) h) : AC Try.prog 77 args h Q :=
  AC.of_wpc mixedOrders Try.func77 (by kernel_rfl) (by kernel_rfl : prepF Try.prog Try.f77 = some ⟨29, [.tmp 2], b_impl_scan⟩) hl hk

theorem scan_ac {h : H} {v : Value} {l : List (List UInt8)} (hv : Sl h v 1 (strs l)) (hn : l.length ≤ 1000) (ht : ∀ t ∈ l, t.length ≤ 1048576) : AC Try.prog 77 [v] h fun r h' => Ext h h' ∧ Fre h h' r 4 ((scanN 0 l).map UStep.cells) := by
  obtain ⟨a, c, b, o, rfl, hcap, h2, h3⟩ := hv
  simp only [List.length_map] at h2
  skip
  refine w_impl_scan (by simp) ?_
  unfold b_impl_scan
  simp -implicitDefEqProofs only [go_sem, List.length_map]
  refine loopW_of (fun m f h' => ∃ (k : Nat) (acc : List UStep) (w : Value), m + k = l.length ∧ f 8 = .slice a l.length c ∧ f 9 = i64 l.length ∧ f 10 = i64 k ∧ f 3 = w ∧ scanN 0 l = acc ++ scanN k (l.drop k) ∧ acc.length = k ∧ Ext h h' ∧ Own h h' w 4 (acc.map UStep.cells)) l.length
    ⟨0, [], nils, by simp, by simp -implicitDefEqProofs only [go_sem, List.length_map], by simp -implicitDefEqProofs only [go_sem, List.length_map], by simp -implicitDefEqProofs only [go_sem, List.length_map]; rfl, by simp -implicitDefEqProofs only [go_sem, List.length_map], by simp, rfl, Ext.refl _, Own.nil _ _ _⟩ ?_
  rintro m f h' ⟨k, acc, w, hm, f8, f9, f10, f3, hsc, hak, he, ho⟩
  obtain ⟨aw, cw, rfl⟩ := ho.shape
  rw [List.length_map] at ho f3
  skip
  by_cases hk : k < l.length
  · have e1 := ldc_sub he.2 (h3 k [str l[k]] (by simp [hk]))
    have hmem := ht _ (List.getElem_mem hk)
    simp -implicitDefEqProofs only [go_sem, hk, e1, List.length_map, f8, f9, f10, f3, h2, Int.ofNat_lt, Int.natCast_nonneg]
    refine (recordRead_pc _ l[k] k hmem).use ?_
    rw [scanN_step hk] at hsc
    simp -implicitDefEqProofs only [go_sem, List.length_map, f8, f9, f10, f3, h2, Int.ofNat_lt, Int.natCast_nonneg]
    intro b6 hb_b6 n_b6
    by_cases hc : (recR l[k] k).2 = 0
    · rw [if_pos hc] at hsc
      simp -implicitDefEqProofs only [go_sem, hc, List.length_map, f8, f9, f10, f3, h2, Int.ofNat_lt, Int.natCast_nonneg, hb_b6]
      intro b7 hb_b7 m0_b7
      obtain ⟨z_b7_b6, y_b7_b6, n_b7⟩ := fne m0_b7
      simp only [H.set_base] at hb_b7
      simp -implicitDefEqProofs only [go_sem, List.length_map, f8, f9, f10, f3, h2, Int.ofNat_lt, Int.natCast_nonneg, hb_b6, hb_b7, z_b7_b6, y_b7_b6]
      refine appW_own (new := [(recR l[k] k).1.cells]) ((he.set n_b6 _).set m0_b7 _) (ho.ext (((Ext.refl _).set n_b6 _).set m0_b7 _)) rfl (by intro r hr; simp at hr; subst hr; rfl) rfl (by simp; omega) ?_
      intro v' h'' he2 ho2 _
      simp -implicitDefEqProofs only [go_sem, wrap_i64 (show -(9223372036854775808 : Int) ≤ ((k : Int) + 1) by omega) (show ((k : Int) + 1) < 9223372036854775808 by omega), List.length_map, f8, f9, f10, f3, h2, Int.ofNat_lt, Int.natCast_nonneg, hb_b6, hb_b7, z_b7_b6, y_b7_b6]
      exact ⟨m - 1, by omega, h'', Ext.refl _, k + 1, acc ++ [(recR l[k] k).1], v', by omega, rfl, rfl, by rw [hsc]; simp, by simp [hak], he2, by simpa using ho2⟩
    · skip
      rw [if_neg hc, List.append_nil] at hsc
      simp -implicitDefEqProofs only [go_sem, hc, List.length_map, f8, f9, f10, f3, h2, Int.ofNat_lt, Int.natCast_nonneg, hb_b6]
      rw [hsc]
      exact ⟨he.set n_b6 _, (ho.ext ((Ext.refl _).set n_b6 _)).fre⟩
  · skip
    have e : k = l.length := by omega
    subst e
    rw [List.drop_length, scanN, List.append_nil] at hsc
    simp -implicitDefEqProofs only [go_sem, Nat.lt_irrefl, List.length_map, f8, f9, f10, f3, h2, Int.ofNat_lt, Int.natCast_nonneg]
    rw [hsc]
    exact ⟨he, ho.fre⟩
/-- spec.l09Scan -/
def b_spec_l09Scan : C := (.seq (.ops [q 2 (.mv (.c nils))])
 (.seq (.ops [⟨(some 6), none, .bsl 0 [] []⟩, q 3 (.mv (.t 6))])
 (.seq (.seq (.ops [q 4 (.mv (.c (i64 0)))])
 (.block 0 (.loop (.seq (.seq (.ops [q 7 (.mv (.t 4)), q 8 (.mv (.t 0)), q 9 (.len (.t 8)), q 10 (.bin .lss (.t 7) (.t 9))])
 (.cond (.t 10) .skip (.exit 0)))
 (.seq (.block 1 (.seq (.ops [q 13 (.mv (.t 0)), q 14 (.mv (.t 4)), q 15 (.idx 1 (.t 13) (.t 14)), q 16 (.ld false 1 (.t 15)), q 17 (.mv (.t 4)), ⟨(some 18), none, .call (.c (.func (.func 18) #[] #[])) [(.t 16), (.t 17)]⟩, ⟨(some 5), none, .alloc [(i64 0), (i64 0), (i64 0), (str []), (i64 0)]⟩, ⟨none, none, .st 5 (.t 5) (.t 18)⟩])
 (.seq (.seq (.ops [q 19 (.fld 4 (.t 5)), q 20 (.ld false 1 (.t 19)), q 21 (.bin .neq (.t 20) (.c (i64 0)))])
 (.cond (.t 21) (.exit 0) .skip))
 (.ops [q 22 (.mv (.t 3)), q 23 (.fld 0 (.t 5)), q 24 (.ld true 4 (.t 23)), ⟨(some 25), none, .bsl 1 [(i64 0), (i64 0), (i64 0), (str [])] [(0, 4, (.t 24))]⟩, ⟨(some 26), none, .app 4 40 (.t 22) (.t 25)⟩, q 3 (.mv (.t 26))]))))
 (.ops [q 11 (.mv (.t 4)), q 12 (.bin .add (.t 11) (.c (i64 1))), q 4 (.mv (.t 12))]))))))
 (.seq (.ops [q 27 (.mv (.t 3)), q 2 (.mv (.t 27))])
 .ret))))
theorem w_spec_l09Scan {args : List Value} {h : H} {Q : Value → H → Prop} (hl : args.length ≤ 28) (hk : wpc Try.prog b_spec_l09Scan (retw [.tmp 2] Q) (argsFr args) h) : AC Try.prog 78 args h Q :=
  AC.of_wpc mixedOrders Try.func78 (by kernel_rfl) (by kernel_rfl : prepF Try.prog Try.f78 = some ⟨28, [.tmp 2], b_spec_l09Scan⟩) hl hk

theorem l09Scan_ac {h : H} {v : Value} {l : List (List UInt8)} (hv : Sl h v 1 (strs l)) (hn : l.length ≤ 1000) (ht : ∀ t ∈ l, t.length ≤ 1048576) : AC Try.prog 78 [v] h fun r h' => Ext h h' ∧ Fre h h' r 4 ((scanN 0 l).map UStep.cells) := by
  obtain ⟨a, c, b, o, rfl, hcap, h2, h3⟩ := hv
  simp only [List.length_map] at h2
  skip
  refine w_spec_l09Scan (by simp) ?_
  unfold b_spec_l09Scan
  simp -implicitDefEqProofs only [go_sem, List.length_map]
  intro b0 hb0 n0
  simp -implicitDefEqProofs only [go_sem, List.length_map]
  refine loopW_of (fun m f h' => ∃ (k : Nat) (acc : List UStep) (w : Value), m + k = l.length ∧ f 0 = .slice a l.length c ∧ f 4 = i64 k ∧ f 3 = w ∧ scanN 0 l = acc ++ scanN k (l.drop k) ∧ acc.length = k ∧ Ext h h' ∧ Own h h' w 4 (acc.map UStep.cells)) l.length
    ⟨0, [], sl b0 0 0 0, by simp, by simp -implicitDefEqProofs only [go_sem, List.length_map], by simp -implicitDefEqProofs only [go_sem, List.length_map]; rfl, by simp -implicitDefEqProofs only [go_sem, List.length_map], by simp, rfl, (Ext.refl _).set n0 _, .inr ⟨b0, 0, 0, rfl, Nat.le_refl _, hb0, n0, H.set_get_same _ _ _, by simp, Wid.nil 4⟩⟩ ?_
  rintro m f h' ⟨k, acc, w, hm, f0, f4, f3, hsc, hak, he, ho⟩
  obtain ⟨aw, cw, rfl⟩ := ho.shape
  rw [List.length_map] at ho f3
  skip
  by_cases hk : k < l.length
  · have e1 := ldc_sub he.2 (h3 k [str l[k]] (by simp [hk]))
    have hmem := ht _ (List.getElem_mem hk)
    simp -implicitDefEqProofs only [go_sem, hk, e1, List.length_map, f0, f4, f3, h2, Int.ofNat_lt, Int.natCast_nonneg]
    refine (specRecordRead_pc _ l[k] k (by unfold in64; omega) hmem).use ?_
    rw [scanN_step hk] at hsc
    simp -implicitDefEqProofs only [go_sem, List.length_map, f0, f4, f3, h2, Int.ofNat_lt, Int.natCast_nonneg]
    intro b5 hb_b5 n_b5
    by_cases hc : (recR l[k] k).2 = 0
    · rw [if_pos hc] at hsc
      rw [recOut_eq hc]
      simp -implicitDefEqProofs only [go_sem, hc, List.length_map, f0, f4, f3, h2, Int.ofNat_lt, Int.natCast_nonneg, hb_b5]
      intro b7 hb_b7 m0_b7
      obtain ⟨z_b7_b5, y_b7_b5, n_b7⟩ := fne m0_b7
      simp only [H.set_base] at hb_b7
      simp -implicitDefEqProofs only [go_sem, List.length_map, f0, f4, f3, h2, Int.ofNat_lt, Int.natCast_nonneg, hb_b5, hb_b7, z_b7_b5, y_b7_b5]
      refine appW_own (new := [(recR l[k] k).1.cells]) ((he.set n_b5 _).set m0_b7 _) (ho.ext (((Ext.refl _).set n_b5 _).set m0_b7 _)) rfl (by intro r hr; simp at hr; subst hr; rfl) rfl (by simp; omega) ?_
      intro v' h'' he2 ho2 _
      simp -implicitDefEqProofs only [go_sem, wrap_i64 (show -(9223372036854775808 : Int) ≤ ((k : Int) + 1) by omega) (show ((k : Int) + 1) < 9223372036854775808 by omega), List.length_map, f0, f4, f3, h2, Int.ofNat_lt, Int.natCast_nonneg, hb_b5, hb_b7, z_b7_b5, y_b7_b5]
      exact ⟨m - 1, by omega, h'', Ext.refl _, k + 1, acc ++ [(recR l[k] k).1], v', by omega, rfl, rfl, by rw [hsc]; simp, by simp [hak], he2, by simpa using ho2⟩
    · skip
      rw [if_neg hc, List.append_nil] at hsc
      have hc2 : ¬ (recOut l[k] k).2 = 0 := fun h => hc (recOut_ok.1 h)
      simp -implicitDefEqProofs only [go_sem, hc2, List.length_map, f0, f4, f3, h2, Int.ofNat_lt, Int.natCast_nonneg, hb_b5]
      rw [hsc]
      exact ⟨he.set n_b5 _, (ho.ext ((Ext.refl _).set n_b5 _)).fre⟩
  · skip
    have e : k = l.length := by omega
    subst e
    rw [List.drop_length, scanN, List.append_nil] at hsc
    simp -implicitDefEqProofs only [go_sem, Nat.lt_irrefl, List.length_map, f0, f4, f3, h2, Int.ofNat_lt, Int.natCast_nonneg]
    rw [hsc]
    exact ⟨he, ho.fre⟩
structure UScan where
  steps : List UStep
  kept : Int
deriving DecidableEq
abbrev UScan.cells (o : UScan) (v : Value) : List Value := [v, i64 o.kept]
abbrev spScan (o : UScan) : List Sp := [.s 4 (o.steps.map UStep.cells), .v (i64 o.kept)]
abbrev spMScan (o : UScan) (k : Int) : List Sp := [.s 4 (mks gStep 4 k o.steps.length), .v (i64 o.kept)]
theorem scan_r {h : H} {o : UScan} {cs : List Value} : RepR h (spScan o) cs ↔ ∃ v, cs = o.cells v ∧ Sl h v 4 (o.steps.map UStep.cells) := by
  simp only [spScan, RepR_i, RepR_s, RepR_nil]
  constructor
  · rintro ⟨v, _, rfl, h1, _, rfl, rfl⟩; exact ⟨v, rfl, h1⟩
  · rintro ⟨v, rfl, h1⟩; exact ⟨v, _, rfl, h1, _, rfl, rfl⟩
theorem scan_m {h : H} {o : UScan} {cs : List Value} {k : Int} : RepR h (spMScan o k) cs ↔ ∃ v, cs = o.cells v ∧ Sl h v 4 (mks gStep 4 k o.steps.length) := by
  simp only [spMScan, RepR_i, RepR_s, RepR_nil]
  constructor
  · rintro ⟨v, _, rfl, h1, _, rfl, rfl⟩; exact ⟨v, rfl, h1⟩
  · rintro ⟨v, rfl, h1⟩; exact ⟨v, _, rfl, h1, _, rfl, rfl⟩
theorem scan_f {h0 h : H} {o : UScan} {cs : List Value} : RepF h0 h (spScan o) cs ↔ ∃ v, cs = o.cells v ∧ Fre h0 h v 4 (o.steps.map UStep.cells) := by
  simp only [spScan, RepF_i, RepF_s, RepF_nil]
  constructor
  · rintro ⟨v, _, rfl, h1, _, _, rfl, rfl⟩; exact ⟨v, rfl, h1⟩
  · rintro ⟨v, rfl, h1⟩; exact ⟨v, _, rfl, h1, fun d hd => by simp only [List.mem_singleton] at hd; subst hd; exact Dj.nb rfl, _, rfl, rfl⟩
def UScan.fin (o : UScan) : Prop := o.steps.length ≤ maxLen
def UScan.small (o : UScan) : Prop := o.steps.length ≤ 1048576
def mkNScan (o : UScan) : Int := (4 * o.steps.length : Nat)
def scanOut (l : List (List UInt8)) : UScan := if 24 < l.length then ⟨[], 0⟩ else ⟨scanN 0 l, keptOf (scanN 0 l)⟩
theorem scanOut_small (l : List (List UInt8)) : (scanOut l).steps.length ≤ 24 := by
  unfold scanOut
  split
  · simp
  · have := scanN_len l 0; simp only; omega
/-- impl.Scan -/
def b_impl_Scan : C := (.seq (.ops [⟨(some 2), none, .alloc [nils, (i64 0)]⟩])
 (.seq (.seq (.ops [q 4 (.mv (.t 0)), q 5 (.len (.t 4)), q 6 (.bin .gtr (.t 5) (.c (i64 24)))])
 (.cond (.t 6) (.seq (.ops [q 7 (.build [nils, (i64 0)] []), ⟨none, none, .st 2 (.t 2) (.t 7)⟩])
 .ret) .skip))
 (.seq (.ops [q 8 (.mv (.t 0)), ⟨(some 9), none, .call (.c (.func (.func 77) #[] #[])) [(.t 8)]⟩, q 3 (.mv (.t 9))])
 (.seq (.ops [q 10 (.mv (.t 3)), q 11 (.mv (.t 3)), ⟨(some 12), none, .call (.c (.func (.func 20) #[] #[])) [(.t 11)]⟩, q 13 (.build [nils, (i64 0)] [(0, 1, (.t 10)), (1, 1, (.t 12))]), ⟨none, none, .st 2 (.t 2) (.t 13)⟩])
 .ret))))
theorem w_impl_Scan {args : List Value} {h : H} {Q : Value → H → Prop} (hl : args.length ≤ 14) (hk : wpc Try.prog b_impl_Scan (retw [.cell 2 true 2] Q) (argsFr args) h) : AC Try.prog 15 args h Q :=
  AC.of_wpc mixedOrders Try.func15 (by kernel_rfl) (by kernel_rfl : prepF Try.prog Try.f15 = some ⟨14, [.cell 2 true 2], b_impl_Scan⟩) hl hk

theorem implScan_ac {h : H} {v : Value} {l : List (List UInt8)} (hv : Sl h v 1 (strs l)) (hn : l.length ≤ 1048576) (ht : ∀ t ∈ l, t.length ≤ 1048576) : AC Try.prog 15 [v] h fun r h' => Ext h h' ∧ ∃ cs, r = .agg cs.toArray ∧ RepF h h' (spScan (scanOut l)) cs := by
  obtain ⟨a, c, rfl⟩ := hv.shape
  have hl : (strs l).length = l.length := by simp
  have hle := scanN_len l 0
  unfold scanOut
  skip
  refine w_impl_Scan (by simp) ?_
  unfold b_impl_Scan
  simp -implicitDefEqProofs only [go_sem, hl]
  intro b2 hb_b2 n_b2
  rw [hl] at hv
  by_cases h4 : 24 < l.length
  · rw [if_pos h4]
    simp -implicitDefEqProofs only [go_sem, show (24 : Int) < (l.length : Int) by omega, hl, hb_b2]
    exact ⟨((Ext.refl _).set' n_b2 _), _, rfl, scan_f.2 ⟨nils, rfl, .inl ⟨none, 0, rfl, rfl⟩⟩⟩
  rw [if_neg h4]
  simp -implicitDefEqProofs only [go_sem, show ¬ ((24 : Int) < (l.length : Int)) by omega, hl, hl, hb_b2]
  refine AC_of (scan_ac (hv.ext ((Ext.refl _).set' n_b2 _)) (by omega) ht) ?_
  rintro v1 h1 - ⟨e1, f1⟩
  have g2 := e1.2.g b2 _ (H.set_get_same _ _ _)
  have hb4 := e1.1
  simp only [H.set_base] at hb4
  simp -implicitDefEqProofs only [go_sem, hl, hb_b2]
  refine (implKeptOf_pc f1.sl (by omega)).use ?_
  simp -implicitDefEqProofs only [go_sem, f1.sl.vcl, f1.sl.one, ldc_get g2, stc_get g2, hb4, hl, hb_b2]
  exact ⟨((((Ext.refl _).set' n_b2 _)).trans e1).set' n_b2 _, _, rfl, scan_f.2 ⟨v1, rfl, (f1.set (b := b2) (H.set_get_same _ _ _) _).back ((Ext.refl _).set' n_b2 _)⟩⟩
/-- spec.Scan -/
def b_spec_Scan : C := (.seq (.ops [⟨(some 2), none, .alloc [nils, (i64 0)]⟩])
 (.seq (.seq (.ops [q 4 (.mv (.t 0)), q 5 (.len (.t 4)), q 6 (.bin .gtr (.t 5) (.c (i64 24)))])
 (.cond (.t 6) (.seq (.ops [q 7 (.build [nils, (i64 0)] []), ⟨none, none, .st 2 (.t 2) (.t 7)⟩])
 .ret) .skip))
 (.seq (.ops [q 8 (.mv (.t 0)), ⟨(some 9), none, .call (.c (.func (.func 78) #[] #[])) [(.t 8)]⟩, q 3 (.mv (.t 9))])
 (.seq (.ops [q 10 (.mv (.t 3)), q 11 (.mv (.t 3)), ⟨(some 12), none, .call (.c (.func (.func 21) #[] #[])) [(.t 11)]⟩, q 13 (.build [nils, (i64 0)] [(0, 1, (.t 10)), (1, 1, (.t 12))]), ⟨none, none, .st 2 (.t 2) (.t 13)⟩])
 .ret))))
theorem w_spec_Scan {args : List Value} {h : H} {Q : Value → H → Prop} (hl : args.length ≤ 14) (hk : wpc Try.prog b_spec_Scan (retw [.cell 2 true 2] Q) (argsFr args) h) : AC Try.prog 16 args h Q :=
  AC.of_wpc mixedOrders Try.func16 (by kernel_rfl) (by kernel_rfl : prepF Try.prog Try.f16 = some ⟨14, [.cell 2 true 2], b_spec_Scan⟩) hl hk

theorem specScan_ac {h : H} {v : Value} {l : List (List UInt8)} (hv : Sl h v 1 (strs l)) (hn : l.length ≤ 1048576) (ht : ∀ t ∈ l, t.length ≤ 1048576) : AC Try.prog 16 [v] h fun r h' => Ext h h' ∧ ∃ cs, r = .agg cs.toArray ∧ RepF h h' (spScan (scanOut l)) cs := by
  obtain ⟨a, c, rfl⟩ := hv.shape
  have hl : (strs l).length = l.length := by simp
  have hle := scanN_len l 0
  unfold scanOut
  skip
  refine w_spec_Scan (by simp) ?_
  unfold b_spec_Scan
  simp -implicitDefEqProofs only [go_sem, hl]
  intro b2 hb_b2 n_b2
  rw [hl] at hv
  by_cases h4 : 24 < l.length
  · rw [if_pos h4]
    simp -implicitDefEqProofs only [go_sem, show (24 : Int) < (l.length : Int) by omega, hl, hb_b2]
    exact ⟨((Ext.refl _).set' n_b2 _), _, rfl, scan_f.2 ⟨nils, rfl, .inl ⟨none, 0, rfl, rfl⟩⟩⟩
  rw [if_neg h4]
  simp -implicitDefEqProofs only [go_sem, show ¬ ((24 : Int) < (l.length : Int)) by omega, hl, hl, hb_b2]
  refine AC_of (l09Scan_ac (hv.ext ((Ext.refl _).set' n_b2 _)) (by omega) ht) ?_
  rintro v1 h1 - ⟨e1, f1⟩
  have g2 := e1.2.g b2 _ (H.set_get_same _ _ _)
  have hb4 := e1.1
  simp only [H.set_base] at hb4
  simp -implicitDefEqProofs only [go_sem, hl, hb_b2]
  refine (specKeptOf_pc f1.sl (by omega)).use ?_
  simp -implicitDefEqProofs only [go_sem, f1.sl.vcl, f1.sl.one, ldc_get g2, stc_get g2, hb4, hl, hb_b2]
  exact ⟨((((Ext.refl _).set' n_b2 _)).trans e1).set' n_b2 _, _, rfl, scan_f.2 ⟨v1, rfl, (f1.set (b := b2) (H.set_get_same _ _ _) _).back ((Ext.refl _).set' n_b2 _)⟩⟩
end Go.Proofs.Ythheclnjaemjnaa
