/- A helper of this seat's claims (contracts of the functions): what it shows is shown for every input that its statements name, on no other condition. -/
import Derived.Test.YthjbhdmjfakfaaaGreatDoorC06c
import Derived.Test.YthjbhdmjfakfaaaGreatDoorMC13a
set_option linter.unusedVariables false
set_option linter.unusedSimpArgs false
set_option maxRecDepth 100000
namespace Go.Proofs.YthjbhdmjfakfaaaGreatDoor
open Go.KH

/-! ## Packages -/
structure UPkg where
  blocks : Int
  digest : List UInt8
  steps : List UStep
deriving DecidableEq
abbrev UPkg.cells (p : UPkg) (v : Value) : List Value := [i64 p.blocks, str p.digest, v]
abbrev spPkg (p : UPkg) : List Sp := [.v (i64 p.blocks), .v (str p.digest), .s 4 (p.steps.map UStep.cells)]
theorem pkg_r {h : H} {p : UPkg} {cs : List Value} : RepR h (spPkg p) cs ↔ ∃ v, cs = p.cells v ∧ Sl h v 4 (p.steps.map UStep.cells) := by
  simp only [spPkg, RepR_i, RepR_str, RepR_s, RepR_nil]
  constructor
  · rintro ⟨_, rfl, _, rfl, v, _, rfl, h1, rfl⟩; exact ⟨v, rfl, h1⟩
  · rintro ⟨v, rfl, h1⟩; exact ⟨_, rfl, _, rfl, v, _, rfl, h1, rfl⟩
theorem pkg_f {h0 h : H} {p : UPkg} {cs : List Value} : RepF h0 h (spPkg p) cs ↔ ∃ v, cs = p.cells v ∧ Fre h0 h v 4 (p.steps.map UStep.cells) := by
  simp only [spPkg, RepF_i, RepF_str, RepF_s, RepF_nil]
  constructor
  · rintro ⟨_, rfl, _, rfl, v, _, rfl, h1, _, rfl⟩; exact ⟨v, rfl, h1⟩
  · rintro ⟨v, rfl, h1⟩; exact ⟨_, rfl, _, rfl, v, _, rfl, h1, by simp, rfl⟩
def pkgOk (p : UPkg) : Prop := codeOf p.steps p.blocks = 0 ∧ p.digest.length = 32
noncomputable instance (p : UPkg) : Decidable (pkgOk p) := inferInstanceAs (Decidable (_ ∧ _))
def pkgI (p : UPkg) (k : Nat) : List UInt8 := putNum p.blocks ++ putText p.digest ++ putNum p.steps.length ++ (p.steps.take k).flatMap fun s => putText (stepB s)
def pkgB (p : UPkg) : List UInt8 := sealB (pkgI p p.steps.length)
noncomputable def pkgBytes (p : UPkg) : List UInt8 := if pkgOk p then pkgB p else []
def UPkg.fin (p : UPkg) : Prop := p.steps.length ≤ maxLen
def UPkg.ok (p : UPkg) : Prop := in64 p.blocks ∧ p.digest.length ≤ maxLen ∧ p.steps.length ≤ maxLen ∧ ∀ s ∈ p.steps, s.ok
theorem pkgOk_steps {p : UPkg} (h : pkgOk p) : stepsOk p.steps p.blocks := by
  have h1 := h.1
  unfold codeOf at h1
  split at h1
  · assumption
  · omega
theorem stepB_60 {s : UStep} {b : Int} (hs : s.ok) (h : stepOk s b) : (stepB s).length ≤ 60 := by
  have hd := stepOk_data h
  have l1 := putNum_le hs.1
  have l2 := putNum_le hs.2.1
  have l3 := putNum_le hs.2.2.1
  have l4 := putText_le (t := s.data) (by omega)
  unfold stepB
  simp only [List.length_append]; omega
theorem pkgI_le {p : UPkg} (h : pkgOk p) (hok : p.ok) : ∀ k, k ≤ p.steps.length → (pkgI p k).length ≤ 62 + 70 * k
  | 0, _ => by
    have l1 := putNum_le hok.1
    have l2 := putText_le (t := p.digest) (by have := h.2; omega)
    have l3 := putNum_le (n := (p.steps.length : Int)) ⟨by omega, by have := (pkgOk_steps h).1; omega⟩
    have := h.2
    unfold pkgI
    simp only [List.take_zero, List.flatMap_nil, List.length_append, List.length_nil]; omega
  | k + 1, hk => by
    have ih := pkgI_le h hok k (by omega)
    have hs := List.getElem_mem (l := p.steps) (n := k) (by omega)
    have l1 := stepB_60 (hok.2.2.2 _ hs) ((pkgOk_steps h).2.2 _ hs)
    have l2 := putText_le (t := stepB p.steps[k]) (by omega)
    unfold pkgI at ih ⊢
    rw [List.take_succ_eq_append_getElem (by omega), List.flatMap_append]
    simp only [List.length_append, List.flatMap_cons, List.flatMap_nil, List.append_nil] at ih ⊢
    omega
theorem pkgI_succ {p : UPkg} {k : Nat} (hk : k < p.steps.length) : pkgI p (k + 1) = pkgI p k ++ putText (stepB p.steps[k]) := by
  unfold pkgI
  rw [List.take_succ_eq_append_getElem hk, List.flatMap_append]
  simp
theorem putNum_pos (n : Int) : 0 < (putNum n).length := by
  unfold putNum
  by_cases h : zig n < 128
  · rw [leb_lt h]; simp
  · rw [leb_ge h]; simp
/-- impl.isPackage -/
def b_impl_isPackage : C := (.seq (.ops [⟨(some 1), none, .box (.t 0)⟩, q 2 (.mv (.c (.bool false)))])
 (.seq (.ops [q 3 (.fld 2 (.t 1)), q 4 (.ld false 1 (.t 3)), q 5 (.fld 0 (.t 1)), q 6 (.ld false 1 (.t 5)), ⟨(some 7), none, .call (.c (.func (.func 64) #[] #[])) [(.t 4), (.t 6)]⟩, q 8 (.bin .eql (.t 7) (.c (i64 0))), q 9 (.mv (.t 8)), qg 10 9 true (.fld 1 (.t 1)), qg 11 9 true (.ld false 1 (.t 10)), qg 12 9 true (.slen (.t 11)), qg 13 9 true (.bin .eql (.t 12) (.c (i64 32))), q 14 (.pick (.t 9) (.t 13) (.c (.bool false))), q 2 (.mv (.t 14))])
 .ret))
theorem w_impl_isPackage {args : List Value} {h : H} {Q : Value → H → Prop} (hl : args.length ≤ 15) (hk : wpc Tryz.prog b_impl_isPackage (retw [.tmp 2] Q) (argsFr args) h) : AC Tryz.prog 39 args h Q :=
  AC.of_wpc mixedOrders Tryz.func39 (by kernel_rfl) (by kernel_rfl : prepF Tryz.prog Tryz.f39 = some ⟨15, [.tmp 2], b_impl_isPackage⟩) hl hk

theorem isPackage_pc {h : H} {cs : List Value} {p : UPkg} (hv : RepR h (spPkg p) cs) (hs : p.steps.length ≤ 1048576) : PC Tryz.prog 39 [.agg cs.toArray] h (.bool (decide (pkgOk p))) := by
  obtain ⟨v, rfl, a1⟩ := pkg_r.1 hv
  refine PC_of ?_
  refine w_impl_isPackage (by simp) ?_
  unfold b_impl_isPackage
  simp -implicitDefEqProofs only [go_sem]
  intro b1 hb_b1 n_b1
  simp -implicitDefEqProofs only [go_sem, hb_b1]
  refine (stepsCode_pc (a1.ext ((Ext.refl _).set' n_b1 _)) hs).use ?_
  simp -implicitDefEqProofs only [go_sem, hb_b1]
  refine Br.of (fun h1 => ?_) (fun h1 => ?_)
  · simp -implicitDefEqProofs only [go_sem, h1, hb_b1]
    exact ⟨((Ext.refl _).set' n_b1 _), bool_eq ⟨fun h2 => ⟨h1, by omega⟩, fun h2 => by have := h2.2; omega⟩⟩
  · simp -implicitDefEqProofs only [go_sem, h1, hb_b1]
    exact ⟨((Ext.refl _).set' n_b1 _), dec_f fun h2 => h1 h2.1⟩
/-- spec.PackageRight -/
def b_spec_PackageRight : C := (.seq (.ops [⟨(some 1), none, .box (.t 0)⟩, q 2 (.mv (.c (.bool false)))])
 (.seq (.ops [q 3 (.fld 2 (.t 1)), q 4 (.ld false 1 (.t 3)), q 5 (.fld 0 (.t 1)), q 6 (.ld false 1 (.t 5)), ⟨(some 7), none, .call (.c (.func (.func 63) #[] #[])) [(.t 4), (.t 6)]⟩, q 8 (.bin .eql (.t 7) (.c (i64 0))), q 9 (.mv (.t 8)), qg 10 9 true (.fld 1 (.t 1)), qg 11 9 true (.ld false 1 (.t 10)), qg 12 9 true (.slen (.t 11)), qg 13 9 true (.bin .eql (.t 12) (.c (i64 32))), q 14 (.pick (.t 9) (.t 13) (.c (.bool false))), q 2 (.mv (.t 14))])
 .ret))
theorem w_spec_PackageRight {args : List Value} {h : H} {Q : Value → H → Prop} (hl : args.length ≤ 15) (hk : wpc Tryz.prog b_spec_PackageRight (retw [.tmp 2] Q) (argsFr args) h) : AC Tryz.prog 20 args h Q :=
  AC.of_wpc mixedOrders Tryz.func20 (by kernel_rfl) (by kernel_rfl : prepF Tryz.prog Tryz.f20 = some ⟨15, [.tmp 2], b_spec_PackageRight⟩) hl hk

theorem specPackageRight_pc {h : H} {cs : List Value} {p : UPkg} (hv : RepR h (spPkg p) cs) (hs : p.steps.length ≤ 1048576) : PC Tryz.prog 20 [.agg cs.toArray] h (.bool (decide (pkgOk p))) := by
  obtain ⟨v, rfl, a1⟩ := pkg_r.1 hv
  refine PC_of ?_
  refine w_spec_PackageRight (by simp) ?_
  unfold b_spec_PackageRight
  simp -implicitDefEqProofs only [go_sem]
  intro b1 hb_b1 n_b1
  simp -implicitDefEqProofs only [go_sem, hb_b1]
  refine (specStepsCode_pc (a1.ext ((Ext.refl _).set' n_b1 _)) hs).use ?_
  simp -implicitDefEqProofs only [go_sem, hb_b1]
  refine Br.of (fun h1 => ?_) (fun h1 => ?_)
  · simp -implicitDefEqProofs only [go_sem, h1, hb_b1]
    exact ⟨((Ext.refl _).set' n_b1 _), bool_eq ⟨fun h2 => ⟨h1, by omega⟩, fun h2 => by have := h2.2; omega⟩⟩
  · simp -implicitDefEqProofs only [go_sem, h1, hb_b1]
    exact ⟨((Ext.refl _).set' n_b1 _), dec_f fun h2 => h1 h2.1⟩
/-- impl.size[impl.Step] -/
def b_impl_size_impl_Step : C := (.seq (.ops [q 2 (.mv (.c (i64 0)))])
 (.seq (.ops [q 3 (.mv (.t 0)), q 4 (.len (.t 3)), q 2 (.mv (.t 4))])
 .ret))
theorem w_impl_size_impl_Step {args : List Value} {h : H} {Q : Value → H → Prop} (hl : args.length ≤ 5) (hk : wpc Tryz.prog b_impl_size_impl_Step (retw [.tmp 2] Q) (argsFr args) h) : AC Tryz.prog 96 args h Q :=
  AC.of_wpc mixedOrders Tryz.func96 (by kernel_rfl) (by kernel_rfl : prepF Tryz.prog Tryz.f96 = some ⟨5, [.tmp 2], b_impl_size_impl_Step⟩) hl hk

theorem sizeStep_pc {h : H} {v : Value} {l : List UStep} (hv : Sl h v 4 (l.map UStep.cells)) : PC Tryz.prog 96 [v] h (i64 l.length) := by
  obtain ⟨a, c, b, o, rfl, hcap, h2, h3⟩ := hv
  rw [List.length_map]
  refine w_impl_size_impl_Step (by simp) ?_
  unfold b_impl_size_impl_Step
  simp -implicitDefEqProofs only [go_sem]
/-- impl.packageBytes -/
def b_impl_packageBytes : C := (.seq (.ops [⟨(some 1), none, .box (.t 0)⟩, q 2 (.mv (.c (str [])))])
 (.seq (.dops true (.tk (q 6 (.fld 0 (.t 1))) (.tk (q 7 (.ld false 1 (.t 6))) (.tk (q 9 (.fld 1 (.t 1))) (.tk (q 10 (.ld false 1 (.t 9))) (.tk (q 13 (.fld 2 (.t 1))) (.tk (q 14 (.ld false 1 (.t 13))) (.sq (⟨(some 8), none, .call (.c (.func (.func 94) #[] #[])) [(.t 7)]⟩) (.sq (⟨(some 11), none, .call (.c (.func (.func 95) #[] #[])) [(.t 10)]⟩) (.tk (q 12 (.bin .add (.t 8) (.t 11))) (.sq (⟨(some 15), none, .call (.c (.func (.func 96) #[] #[])) [(.t 14)]⟩) (.sq (⟨(some 16), none, .call (.c (.func (.func 94) #[] #[])) [(.t 15)]⟩) (.tk (q 17 (.bin .add (.t 12) (.t 16))) (.tk (q 3 (.mv (.t 17))) .nil))))))))))))))
 (.seq (.seq (.ops [q 18 (.fld 2 (.t 1)), q 19 (.ld false 1 (.t 18)), q 20 (.len (.t 19)), q 21 (.mv (.c (i64 0)))])
 (.block 0 (.loop (.seq (.ops [q 22 (.bin .lss (.t 21) (.t 20))])
 (.seq (.cond (.t 22) .skip (.exit 0))
 (.seq (.block 1 (.seq (.ops [q 23 (.idx 4 (.t 19) (.t 21)), q 24 (.ld true 4 (.t 23)), ⟨(some 5), none, .alloc [(i64 0), (i64 0), (i64 0), (str [])]⟩, ⟨none, none, .st 4 (.t 5) (.t 24)⟩])
 (.ops [q 25 (.mv (.t 3)), q 26 (.ld true 4 (.t 5)), ⟨(some 27), none, .call (.c (.func (.func 97) #[] #[])) [(.t 26)]⟩, ⟨(some 28), none, .call (.c (.func (.func 95) #[] #[])) [(.t 27)]⟩, q 29 (.bin .add (.t 25) (.t 28)), q 3 (.mv (.t 29))])))
 (.ops [q 30 (.bin .add (.t 21) (.c (i64 1))), q 21 (.mv (.t 30))])))))))
 (.seq (.ops [q 31 (.mv (.t 3)), ⟨(some 32), none, .call (.c (.func (.func 98) #[] #[])) [(.t 31)]⟩, q 2 (.mv (.t 32))])
 .ret))))
theorem w_impl_packageBytes {args : List Value} {h : H} {Q : Value → H → Prop} (hl : args.length ≤ 33) (hk : wpc Tryz.prog b_impl_packageBytes (retw [.tmp 2] Q) (argsFr args) h) : AC Tryz.prog 40 args h Q :=
  AC.of_wpc mixedOrders Tryz.func40 (by kernel_rfl) (by kernel_rfl : prepF Tryz.prog Tryz.f40 = some ⟨33, [.tmp 2], b_impl_packageBytes⟩) hl hk

set_option maxHeartbeats 800000 in
theorem packageB_pc {h : H} {cs : List Value} {p : UPkg} (hv : RepR h (spPkg p) cs) (hp : pkgOk p) (hok : p.ok) : PC Tryz.prog 40 [.agg cs.toArray] h (str (pkgB p)) := by
  obtain ⟨v, rfl, a1⟩ := pkg_r.1 hv
  have hst := pkgOk_steps hp
  have hd := hp.2
  have hlen := pkgI_le hp hok
  have l0 := hlen 0 (Nat.zero_le _)
  have hn64 : in64 (p.steps.length : Int) := by have := hst.1; unfold in64; omega
  obtain ⟨a, c, b, o, rfl, hcap, h2, h3⟩ := id a1
  simp only [List.length_map] at a1 h2
  unfold pkgI at l0
  simp only [List.take_zero, List.flatMap_nil, List.append_nil, List.length_append] at l0
  refine PC_of ?_
  skip
  refine w_impl_packageBytes (by simp) ?_
  unfold b_impl_packageBytes
  simp -implicitDefEqProofs only [go_sem, List.length_map]
  intro b1 hb_b1 n_b1
  simp -implicitDefEqProofs only [go_sem, List.length_map, hb_b1]
  refine (putNum_pc _ _ hok.1).use ?_
  simp -implicitDefEqProofs only [go_sem, List.length_map, hb_b1]
  refine (putText_pc _ _ (by omega)).use ?_
  simp -implicitDefEqProofs only [go_sem, List.length_map, hb_b1]
  refine Req.of (by omega) ?_
  simp -implicitDefEqProofs only [go_sem, List.length_map, hb_b1]
  refine (sizeStep_pc (a1.ext ((Ext.refl _).set' n_b1 _))).use ?_
  simp -implicitDefEqProofs only [go_sem, List.length_map, hb_b1]
  refine (putNum_pc _ _ hn64).use ?_
  simp -implicitDefEqProofs only [go_sem, List.length_map, hb_b1]
  refine Req.of (by simp only [List.length_append]; omega) ?_
  simp -implicitDefEqProofs only [go_sem, List.length_map, hb_b1]
  refine loopW_of (fun m f h' => ∃ k, m + k = p.steps.length ∧ h' = h.set b1 ⟨[i64 p.blocks, str p.digest, .slice a p.steps.length c], 3⟩ ∧ f 19 = .slice a p.steps.length c ∧ f 20 = i64 p.steps.length ∧ f 21 = i64 k ∧ f 3 = str (pkgI p k)) p.steps.length
    ⟨0, by simp, rfl, by simp -implicitDefEqProofs only [go_sem, List.length_map, hb_b1], by simp -implicitDefEqProofs only [go_sem, List.length_map, hb_b1], by simp -implicitDefEqProofs only [go_sem, List.length_map, hb_b1]; rfl, by simp -implicitDefEqProofs only [go_sem, List.length_map, hb_b1]; simp [pkgI]⟩ ?_
  rintro m f h' ⟨k, hm, rfl, f19, f20, f21, f3⟩
  skip
  by_cases hk : k < p.steps.length
  · have hmem := List.getElem_mem hk
    have e1 := ldc_sub (Sub.set (Sub.refl h) n_b1 ⟨[i64 p.blocks, str p.digest, .slice a p.steps.length c], 3⟩) (h3 k (p.steps[k]).cells (by simp [hk]))
    have l1 := hlen k (by omega)
    have l2 := stepB_60 (hok.2.2.2 _ hmem) (hst.2.2 _ hmem)
    have l3 := putText_le (t := stepB p.steps[k]) (by omega)
    have hs20 := hst.1
    simp -implicitDefEqProofs only [go_sem, hk, e1, List.length_map, hb_b1, f19, f20, f21, f3, h2, Int.ofNat_lt, Int.natCast_nonneg]
    intro b5 hb_b5 m0_b5
    obtain ⟨z_b5_b1, y_b5_b1, n_b5⟩ := fne m0_b5
    simp only [H.set_base] at hb_b5
    simp -implicitDefEqProofs only [go_sem, List.length_map, hb_b1, f19, f20, f21, f3, h2, Int.ofNat_lt, Int.natCast_nonneg, hb_b5, z_b5_b1, y_b5_b1]
    refine (stepBytes_pc _ _ (hok.2.2.2 _ hmem) (by have := stepOk_data (hst.2.2 _ hmem); omega)).use ?_
    simp -implicitDefEqProofs only [go_sem, List.length_map, hb_b1, f19, f20, f21, f3, h2, Int.ofNat_lt, Int.natCast_nonneg, hb_b5, z_b5_b1, y_b5_b1]
    refine (putText_pc _ _ (by omega)).use ?_
    simp -implicitDefEqProofs only [go_sem, List.length_map, hb_b1, f19, f20, f21, f3, h2, Int.ofNat_lt, Int.natCast_nonneg, hb_b5, z_b5_b1, y_b5_b1]
    refine Req.of (by omega) ?_
    simp -implicitDefEqProofs only [go_sem, wrap_i64 (show -(9223372036854775808 : Int) ≤ ((k : Int) + 1) by omega) (show ((k : Int) + 1) < 9223372036854775808 by omega), List.length_map, hb_b1, f19, f20, f21, f3, h2, Int.ofNat_lt, Int.natCast_nonneg, hb_b5, z_b5_b1, y_b5_b1]
    exact ⟨m - 1, by omega, _, (Ext.refl _).set m0_b5 _, k + 1, by omega, rfl, rfl, by rw [pkgI_succ hk]⟩
  · skip
    have e : k = p.steps.length := by omega
    subst e
    have l1 := hlen _ (Nat.le_refl _)
    have hs20 := hst.1
    simp -implicitDefEqProofs only [go_sem, Nat.lt_irrefl, List.length_map, hb_b1, f19, f20, f21, f3, h2, Int.ofNat_lt, Int.natCast_nonneg]
    refine (seal_pc _ _ (by omega)).use ?_
    simp -implicitDefEqProofs only [go_sem, List.length_map, hb_b1, f19, f20, f21, f3, h2, Int.ofNat_lt, Int.natCast_nonneg]
    first | with_reducible exact ((Ext.refl _).set' n_b1 _) | ((with_reducible refine ⟨((Ext.refl _).set' n_b1 _), ?_⟩); first | rfl | (trivial))
/-- impl.PackageBytes -/
def b_impl_PackageBytes : C := (.seq (.ops [⟨(some 1), none, .box (.t 0)⟩, q 2 (.mv (.c (str [])))])
 (.seq (.seq (.ops [q 3 (.ld true 3 (.t 1)), ⟨(some 4), none, .call (.c (.func (.func 39) #[] #[])) [(.t 3)]⟩, q 5 (.un .not (.t 4))])
 (.cond (.t 5) (.seq (.ops [q 2 (.mv (.c (str [])))])
 .ret) .skip))
 (.seq (.ops [q 6 (.ld true 3 (.t 1)), ⟨(some 7), none, .call (.c (.func (.func 40) #[] #[])) [(.t 6)]⟩, q 2 (.mv (.t 7))])
 .ret)))
theorem w_impl_PackageBytes {args : List Value} {h : H} {Q : Value → H → Prop} (hl : args.length ≤ 8) (hk : wpc Tryz.prog b_impl_PackageBytes (retw [.tmp 2] Q) (argsFr args) h) : AC Tryz.prog 9 args h Q :=
  AC.of_wpc mixedOrders Tryz.func9 (by kernel_rfl) (by kernel_rfl : prepF Tryz.prog Tryz.f9 = some ⟨8, [.tmp 2], b_impl_PackageBytes⟩) hl hk

theorem implPackageBytes_pc {h : H} {cs : List Value} {p : UPkg} (hv : RepR h (spPkg p) cs) (hs : p.steps.length ≤ 1048576) (hok : p.ok) : PC Tryz.prog 9 [.agg cs.toArray] h (str (pkgBytes p)) := by
  have hl := hv.len
  have ht := take_len hl
  simp only [List.length_cons, List.length_nil, Nat.reduceAdd] at hl ht
  refine PC_of ?_
  unfold pkgBytes
  skip
  refine w_impl_PackageBytes (by simp) ?_
  unfold b_impl_PackageBytes
  simp -implicitDefEqProofs only [go_sem, hl, ht]
  intro b1 hb_b1 n_b1
  simp -implicitDefEqProofs only [go_sem, hl, ht, hb_b1]
  refine (isPackage_pc (hv.ext ((Ext.refl _).set' n_b1 _)) hs).use ?_
  simp -implicitDefEqProofs only [go_sem, hl, ht, hb_b1]
  refine Br.of (fun h1 => ?_) (fun h1 => ?_)
  · rw [if_pos h1]
    simp -implicitDefEqProofs only [go_sem, h1, hl, ht, hb_b1]
    refine (packageB_pc (hv.ext ((Ext.refl _).set' n_b1 _)) h1 hok).use ?_
    simp -implicitDefEqProofs only [go_sem, hl, ht, hb_b1]
    first | with_reducible exact ((Ext.refl _).set' n_b1 _) | ((with_reducible refine ⟨((Ext.refl _).set' n_b1 _), ?_⟩); first | rfl | (trivial))
  · rw [if_neg h1]
    simp -implicitDefEqProofs only [go_sem, h1, hl, ht, hb_b1]
    first | with_reducible exact ((Ext.refl _).set' n_b1 _) | ((with_reducible refine ⟨((Ext.refl _).set' n_b1 _), ?_⟩); first | rfl | (trivial))
/-- spec.PackageBytes -/
def b_spec_PackageBytes : C := (.seq (.ops [⟨(some 1), none, .box (.t 0)⟩, q 2 (.mv (.c (str [])))])
 (.seq (.seq (.ops [q 5 (.ld true 3 (.t 1)), ⟨(some 6), none, .call (.c (.func (.func 20) #[] #[])) [(.t 5)]⟩, q 7 (.un .not (.t 6))])
 (.cond (.t 7) (.seq (.ops [q 2 (.mv (.c (str [])))])
 .ret) .skip))
 (.seq (.dops true (.tk (q 8 (.fld 0 (.t 1))) (.tk (q 9 (.ld false 1 (.t 8))) (.tk (q 11 (.fld 1 (.t 1))) (.tk (q 12 (.ld false 1 (.t 11))) (.tk (q 15 (.fld 2 (.t 1))) (.tk (q 16 (.ld false 1 (.t 15))) (.tk (q 17 (.len (.t 16))) (.sq (⟨(some 10), none, .call (.c (.func (.func 55) #[] #[])) [(.t 9)]⟩) (.sq (⟨(some 13), none, .call (.c (.func (.func 56) #[] #[])) [(.t 12)]⟩) (.tk (q 14 (.bin .add (.t 10) (.t 13))) (.sq (⟨(some 18), none, .call (.c (.func (.func 55) #[] #[])) [(.t 17)]⟩) (.tk (q 19 (.bin .add (.t 14) (.t 18))) (.tk (q 3 (.mv (.t 19))) .nil))))))))))))))
 (.seq (.seq (.ops [q 4 (.mv (.c (i64 0)))])
 (.block 0 (.loop (.seq (.seq (.ops [q 20 (.mv (.t 4)), q 21 (.fld 2 (.t 1)), q 22 (.ld false 1 (.t 21)), q 23 (.len (.t 22)), q 24 (.bin .lss (.t 20) (.t 23))])
 (.cond (.t 24) .skip (.exit 0)))
 (.seq (.block 1 (.ops [q 27 (.mv (.t 3)), q 28 (.fld 2 (.t 1)), q 29 (.ld false 1 (.t 28)), q 30 (.mv (.t 4)), q 31 (.idx 4 (.t 29) (.t 30)), q 32 (.ld true 4 (.t 31)), ⟨(some 33), none, .call (.c (.func (.func 57) #[] #[])) [(.t 32)]⟩, ⟨(some 34), none, .call (.c (.func (.func 56) #[] #[])) [(.t 33)]⟩, q 35 (.bin .add (.t 27) (.t 34)), q 3 (.mv (.t 35))]))
 (.ops [q 25 (.mv (.t 4)), q 26 (.bin .add (.t 25) (.c (i64 1))), q 4 (.mv (.t 26))]))))))
 (.seq (.ops [q 36 (.mv (.t 3)), ⟨(some 37), none, .call (.c (.func (.func 45) #[] #[])) [(.t 36)]⟩, q 2 (.mv (.t 37))])
 .ret)))))
theorem w_spec_PackageBytes {args : List Value} {h : H} {Q : Value → H → Prop} (hl : args.length ≤ 38) (hk : wpc Tryz.prog b_spec_PackageBytes (retw [.tmp 2] Q) (argsFr args) h) : AC Tryz.prog 15 args h Q :=
  AC.of_wpc mixedOrders Tryz.func15 (by kernel_rfl) (by kernel_rfl : prepF Tryz.prog Tryz.f15 = some ⟨38, [.tmp 2], b_spec_PackageBytes⟩) hl hk

set_option maxHeartbeats 800000 in
theorem specPackageBytes_pc {h : H} {cs : List Value} {p : UPkg} (hv : RepR h (spPkg p) cs) (hs : p.steps.length ≤ 1048576) (hok : p.ok) : PC Tryz.prog 15 [.agg cs.toArray] h (str (pkgBytes p)) := by
  obtain ⟨v, rfl, a1⟩ := pkg_r.1 hv
  have hv0 := hv
  obtain ⟨a, c, b, o, rfl, hcap, h2, h3⟩ := id a1
  simp only [List.length_map] at a1 h2 hv0
  refine PC_of ?_
  unfold pkgBytes
  skip
  refine w_spec_PackageBytes (by simp) ?_
  unfold b_spec_PackageBytes
  simp -implicitDefEqProofs only [go_sem, List.length_map]
  intro b1 hb_b1 n_b1
  simp -implicitDefEqProofs only [go_sem, List.length_map, hb_b1]
  refine (specPackageRight_pc (hv0.ext ((Ext.refl _).set' n_b1 _)) hs).use ?_
  simp -implicitDefEqProofs only [go_sem, List.length_map, hb_b1]
  refine Br.of (fun hp => ?_) (fun hp => ?_)
  rotate_left
  · rw [if_neg hp]
    simp -implicitDefEqProofs only [go_sem, hp, List.length_map, hb_b1]
    first | with_reducible exact ((Ext.refl _).set' n_b1 _) | ((with_reducible refine ⟨((Ext.refl _).set' n_b1 _), ?_⟩); first | rfl | (trivial))
  rw [if_pos hp]
  have hst := pkgOk_steps hp
  have hd := hp.2
  have hlen := pkgI_le hp hok
  have l0 := hlen 0 (Nat.zero_le _)
  have hn64 : in64 (p.steps.length : Int) := by have := hst.1; unfold in64; omega
  unfold pkgI at l0
  simp only [List.take_zero, List.flatMap_nil, List.append_nil, List.length_append] at l0
  simp -implicitDefEqProofs only [go_sem, hp, List.length_map, hb_b1]
  refine (specPutNum_pc _ _ hok.1).use ?_
  simp -implicitDefEqProofs only [go_sem, List.length_map, hb_b1]
  refine (specPutText_pc _ _ (by omega)).use ?_
  simp -implicitDefEqProofs only [go_sem, List.length_map, hb_b1]
  refine Req.of (by omega) ?_
  simp -implicitDefEqProofs only [go_sem, List.length_map, hb_b1]
  refine (specPutNum_pc _ _ hn64).use ?_
  simp -implicitDefEqProofs only [go_sem, List.length_map, hb_b1]
  refine Req.of (by simp only [List.length_append]; omega) ?_
  simp -implicitDefEqProofs only [go_sem, List.length_map, hb_b1]
  refine loopW_of (fun m f h' => ∃ k, m + k = p.steps.length ∧ h' = h.set b1 ⟨[i64 p.blocks, str p.digest, .slice a p.steps.length c], 3⟩ ∧ f 1 = ptr b1 0 ∧ f 4 = i64 k ∧ f 3 = str (pkgI p k)) p.steps.length
    ⟨0, by simp, rfl, by simp -implicitDefEqProofs only [go_sem, List.length_map, hb_b1], by simp -implicitDefEqProofs only [go_sem, List.length_map, hb_b1]; rfl, by simp -implicitDefEqProofs only [go_sem, List.length_map, hb_b1]; simp [pkgI]⟩ ?_
  rintro m f h' ⟨k, hm, rfl, f1, f4, f3⟩
  skip
  by_cases hk : k < p.steps.length
  · have hmem := List.getElem_mem hk
    have e1 := ldc_sub (Sub.set (Sub.refl h) n_b1 ⟨[i64 p.blocks, str p.digest, .slice a p.steps.length c], 3⟩) (h3 k (p.steps[k]).cells (by simp [hk]))
    have l1 := hlen k (by omega)
    have l2 := stepB_60 (hok.2.2.2 _ hmem) (hst.2.2 _ hmem)
    have l3 := putText_le (t := stepB p.steps[k]) (by omega)
    have hs20 := hst.1
    simp -implicitDefEqProofs only [go_sem, hk, e1, List.length_map, hb_b1, f1, f4, f3, h2, Int.ofNat_lt, Int.natCast_nonneg]
    refine (l06Bytes_pc _ _ (hok.2.2.2 _ hmem) (by have := stepOk_data (hst.2.2 _ hmem); omega)).use ?_
    simp -implicitDefEqProofs only [go_sem, List.length_map, hb_b1, f1, f4, f3, h2, Int.ofNat_lt, Int.natCast_nonneg]
    refine (specPutText_pc _ _ (by omega)).use ?_
    simp -implicitDefEqProofs only [go_sem, List.length_map, hb_b1, f1, f4, f3, h2, Int.ofNat_lt, Int.natCast_nonneg]
    refine Req.of (by omega) ?_
    simp -implicitDefEqProofs only [go_sem, wrap_i64 (show -(9223372036854775808 : Int) ≤ ((k : Int) + 1) by omega) (show ((k : Int) + 1) < 9223372036854775808 by omega), List.length_map, hb_b1, f1, f4, f3, h2, Int.ofNat_lt, Int.natCast_nonneg]
    exact ⟨m - 1, by omega, _, Ext.refl _, k + 1, by omega, rfl, rfl, by rw [pkgI_succ hk]⟩
  · have e : k = p.steps.length := by omega
    subst e
    have l1 := hlen _ (Nat.le_refl _)
    have hs20 := hst.1
    simp -implicitDefEqProofs only [go_sem, Nat.lt_irrefl, List.length_map, hb_b1, f1, f4, f3, h2, Int.ofNat_lt, Int.natCast_nonneg]
    refine (specSeal_pc _ _ (by omega)).use ?_
    simp -implicitDefEqProofs only [go_sem, List.length_map, hb_b1, f1, f4, f3, h2, Int.ofNat_lt, Int.natCast_nonneg]
    first | with_reducible exact ((Ext.refl _).set' n_b1 _) | ((with_reducible refine ⟨((Ext.refl _).set' n_b1 _), ?_⟩); first | rfl | (trivial))
theorem package_of {h : H} {cs : List Value} (q : fitsT h [.f (.int .i64), .f .str, .sl [.int .i64, .int .i64, .int .i64, .str]] cs) : ∃ p : UPkg, RepR h (spPkg p) cs ∧ p.ok := by
  obtain ⟨_, _, rfl, h1, q⟩ := fitsT_cons q
  obtain ⟨_, _, rfl, h2, q⟩ := fitsT_cons q
  obtain ⟨v, _, rfl, ⟨rows, s7, h7, l7⟩, q⟩ := fitsT_cons q
  obtain rfl := fitsT_nil q
  obtain ⟨a1, rfl, k1⟩ := okF_i h1
  obtain ⟨a2, rfl, k2⟩ := h2
  obtain ⟨l, rfl, kl⟩ := steps_of rows h7
  exact ⟨⟨a1, a2, l⟩, pkg_r.2 ⟨v, rfl, s7⟩, k1, k2, by simpa using l7, kl⟩
end Go.Proofs.YthjbhdmjfakfaaaGreatDoor
