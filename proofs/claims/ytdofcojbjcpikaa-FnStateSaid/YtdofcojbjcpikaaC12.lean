/- A helper of this seat's claims (contracts of the functions): what it shows is shown for every input that its statements name, on no other condition. -/
import Derived.Test.YtdofcojbjcpikaaC12w
set_option linter.unusedVariables false
set_option linter.unusedSimpArgs false
set_option maxRecDepth 100000
namespace Go.Proofs.Ytdofcojbjcpikaa
open Go.KH

/-! ## States -/
structure UState where
  phase : Int
  tries : Int
  need : Int
  stash : Int
  done : Int
  digest : List UInt8
  held : List Int
  mine : List Int
deriving DecidableEq
abbrev UState.cells (s : UState) (vh vm : Value) : List Value := [i64 s.phase, i64 s.tries, i64 s.need, i64 s.stash, i64 s.done, str s.digest, vh, vm]
def UState.small (s : UState) : Prop := s.held.length ≤ 1048576 ∧ s.mine.length ≤ 1048576
def stateOk (s : UState) : Prop := (1 ≤ s.phase ∧ s.phase ≤ 5) ∧ listOk s.held ∧ listOk s.mine ∧ (∀ x ∈ s.mine, x ∉ s.held) ∧
  (if s.phase = 1 then s.tries = 0 ∧ s.need = 0 ∧ s.stash = 0 ∧ s.done = 0 ∧ s.digest = [] ∧ s.mine = []
  else (1 ≤ s.need ∧ s.need ≤ 20) ∧ (0 ≤ s.stash ∧ s.stash ≤ 4) ∧ (s.mine.length : Int) = s.need + s.stash ∧ s.digest.length = 32 ∧ (0 ≤ s.tries ∧ s.tries ≤ 2) ∧ (s.tries = 0 ∨ s.phase = 4) ∧ (0 ≤ s.done ∧ s.done ≤ 40) ∧ (s.done = 0 ∨ s.phase = 5))
instance (s : UState) : Decidable (stateOk s) := by unfold stateOk; infer_instance
theorem isState_pc {h : H} (s : UState) {vh vm : Value} (hh : Sl h vh 1 (ints s.held)) (hm : Sl h vm 1 (ints s.mine)) (hs : s.small) : PC Try.prog 18 [.agg (s.cells vh vm).toArray] h (.bool (decide (stateOk s))) := by
  obtain ⟨phase, tries, need, stash, done, digest, held, mine⟩ := s
  obtain ⟨hs1, hs2⟩ := hs
  simp only at hh hm hs1 hs2 ⊢
  have hlm : ∃ a c, vm = .slice a mine.length c := by obtain ⟨a, c, b, o, rfl, -⟩ := hm; exact ⟨a, c, by simp⟩
  obtain ⟨am, cm, rfl⟩ := hlm
  refine PC_of ?_
  refine w_impl_isState (by simp) ?_
  unfold b_impl_isState
  simp -implicitDefEqProofs only [go_sem]
  intro b1 hb_b1 n_b1
  simp -implicitDefEqProofs only [go_sem, hb_b1]
  refine (within_pc _ _ _ _).use ?_
  simp -implicitDefEqProofs only [go_sem, hb_b1]
  refine Br.of (fun h1 => ?_) (fun h1 => ?_)
  rotate_left
  · simp -implicitDefEqProofs only [go_sem, h1, hb_b1]
    exact ⟨((Ext.refl _).set' n_b1 _), dec_f fun hp => h1 hp.1⟩
  simp -implicitDefEqProofs only [go_sem, h1, hb_b1]
  refine (isList_pc (hh.ext ((Ext.refl _).set' n_b1 _)) hs1).use ?_
  simp -implicitDefEqProofs only [go_sem, h1, hb_b1]
  refine Br.of (fun h2 => ?_) (fun h2 => ?_)
  rotate_left
  · simp -implicitDefEqProofs only [go_sem, h2, hb_b1]
    exact ⟨((Ext.refl _).set' n_b1 _), dec_f fun hp => h2 hp.2.1⟩
  simp -implicitDefEqProofs only [go_sem, h2, hb_b1]
  refine (isList_pc (hm.ext ((Ext.refl _).set' n_b1 _)) hs2).use ?_
  simp -implicitDefEqProofs only [go_sem, h2, hb_b1]
  refine Br.of (fun h3 => ?_) (fun h3 => ?_)
  rotate_left
  · simp -implicitDefEqProofs only [go_sem, h3, hb_b1]
    exact ⟨((Ext.refl _).set' n_b1 _), dec_f fun hp => h3 hp.2.2.1⟩
  simp -implicitDefEqProofs only [go_sem, h3, hb_b1]
  refine (bitsOf_pc (hh.ext ((Ext.refl _).set' n_b1 _)) h2).use ?_
  simp -implicitDefEqProofs only [go_sem, h3, hb_b1]
  refine (bitsOf_pc (hm.ext ((Ext.refl _).set' n_b1 _)) h3).use ?_
  have hd := bits_disjoint (fun x hx => (listOk_mem h2 x hx).1) (fun x hx => (listOk_mem h3 x hx).1)
  by_cases h4 : bitsN held &&& bitsN mine = 0
  rotate_left
  · simp -implicitDefEqProofs only [go_sem, h3, and_i64 (Nat.lt_trans (bits24 h2) (by decide)) (Nat.lt_trans (bits24 h3) (by decide)), Int.natCast_eq_zero, h4, hb_b1]
    exact ⟨((Ext.refl _).set' n_b1 _), dec_f fun hp => h4 (hd.2 hp.2.2.2.1)⟩
  simp -implicitDefEqProofs only [go_sem, h3, and_i64 (Nat.lt_trans (bits24 h2) (by decide)) (Nat.lt_trans (bits24 h3) (by decide)), Int.natCast_eq_zero, h4, Int.ofNat_eq_zero, hb_b1]
  have hdj := hd.1 h4
  by_cases p1 : phase = 1
  · subst p1
    simp -implicitDefEqProofs only [go_sem, List.length_map, hb_b1]
    repeat' first | (refine Br.of (fun hc => ?_) (fun hc => ?_) <;> simp -implicitDefEqProofs only [go_sem, List.length_map, *]) | (refine PC.use (within_pc _ _ _ _) ?_; simp -implicitDefEqProofs only [go_sem, List.length_map, *])
    all_goals first | exact ((Ext.refl _).set' n_b1 _) | exact ⟨((Ext.refl _).set' n_b1 _), by first | (simp_all [stateOk]; done) | (simp_all [stateOk]; intros; omega)⟩
  · have hp := And.intro h1 (And.intro h2 (And.intro h3 hdj))
    simp -implicitDefEqProofs only [go_sem, p1, hb_b1]
    refine (within_pc _ _ _ _).use ?_
    simp -implicitDefEqProofs only [go_sem, p1, hb_b1]
    refine Br.of (fun h5 => ?_) (fun h5 => ?_)
    rotate_left
    · simp -implicitDefEqProofs only [go_sem, h5, hb_b1]
      exact ⟨((Ext.refl _).set' n_b1 _), dec_f fun hq => h5 (by have := hq.2.2.2.2; rw [if_neg p1] at this; exact this.1)⟩
    simp -implicitDefEqProofs only [go_sem, h5, hb_b1]
    refine (within_pc _ _ _ _).use ?_
    simp -implicitDefEqProofs only [go_sem, h5, hb_b1]
    refine Br.of (fun h6 => ?_) (fun h6 => ?_)
    rotate_left
    · simp -implicitDefEqProofs only [go_sem, h6, hb_b1]
      exact ⟨((Ext.refl _).set' n_b1 _), dec_f fun hq => h6 (by have := hq.2.2.2.2; rw [if_neg p1] at this; exact this.2.1)⟩
    simp -implicitDefEqProofs only [go_sem, h6, hb_b1]
    refine (sizeInts_pc (hm.ext ((Ext.refl _).set' n_b1 _))).use ?_
    simp -implicitDefEqProofs only [go_sem, h6, wrap_i64 (show -(9223372036854775808 : Int) ≤ (need + stash) by omega) (show (need + stash) < 9223372036854775808 by omega), hb_b1]
    have hq : stateOk ⟨phase, tries, need, stash, done, digest, held, mine⟩ ↔ (mine.length : Int) = need + stash ∧ digest.length = 32 ∧ (0 ≤ tries ∧ tries ≤ 2) ∧ (tries = 0 ∨ phase = 4) ∧ (0 ≤ done ∧ done ≤ 40) ∧ (done = 0 ∨ phase = 5) := by
      unfold stateOk
      simp only [if_neg p1]
      exact ⟨fun h => h.2.2.2.2.2.2, fun h => ⟨h1, h2, h3, hdj, h5, h6, h⟩⟩
    clear hp hdj hd h4
    repeat' first | (refine Br.of (fun hc => ?_) (fun hc => ?_) <;> simp -implicitDefEqProofs only [go_sem, *]) | (refine PC.use (within_pc _ _ _ _) ?_; simp -implicitDefEqProofs only [go_sem, *])
    all_goals first | exact ((Ext.refl _).set' n_b1 _) | exact ⟨((Ext.refl _).set' n_b1 _), by first | (simp_all; done) | (simp_all; intros; omega)⟩
theorem specStateRight_pc {h : H} (s : UState) {vh vm : Value} (hh : Sl h vh 1 (ints s.held)) (hm : Sl h vm 1 (ints s.mine)) (hs : s.small) : PC Try.prog 14 [.agg (s.cells vh vm).toArray] h (.bool (decide (stateOk s))) := by
  obtain ⟨phase, tries, need, stash, done, digest, held, mine⟩ := s
  obtain ⟨hs1, hs2⟩ := hs
  simp only at hh hm hs1 hs2 ⊢
  obtain ⟨am, cm, bm, om, rfl, hcap, q2, q3⟩ := id hm
  simp only [List.length_map] at hm q2 hcap
  refine PC_of ?_
  refine w_spec_StateRight (by simp) ?_
  unfold b_spec_StateRight
  simp -implicitDefEqProofs only [go_sem, List.length_map]
  intro b1 hb_b1 n_b1
  simp -implicitDefEqProofs only [go_sem, hb_b1]
  refine (l03Is_pc _ _ _ _).use ?_
  simp -implicitDefEqProofs only [go_sem, hb_b1]
  refine Br.of (fun h1 => ?_) (fun h1 => ?_)
  rotate_left
  · simp -implicitDefEqProofs only [go_sem, h1, hb_b1]
    exact ⟨((Ext.refl _).set' n_b1 _), dec_f fun hp => h1 hp.1⟩
  simp -implicitDefEqProofs only [go_sem, h1, hb_b1]
  refine (specListRight_pc (hh.ext ((Ext.refl _).set' n_b1 _)) hs1).use ?_
  simp -implicitDefEqProofs only [go_sem, h1, hb_b1]
  refine Br.of (fun h2 => ?_) (fun h2 => ?_)
  rotate_left
  · simp -implicitDefEqProofs only [go_sem, h2, hb_b1]
    exact ⟨((Ext.refl _).set' n_b1 _), dec_f fun hp => h2 hp.2.1⟩
  simp -implicitDefEqProofs only [go_sem, h2, hb_b1]
  refine (specListRight_pc (hm.ext ((Ext.refl _).set' n_b1 _)) hs2).use ?_
  simp -implicitDefEqProofs only [go_sem, h2, hb_b1]
  refine Br.of (fun h3 => ?_) (fun h3 => ?_)
  rotate_left
  · simp -implicitDefEqProofs only [go_sem, h3, hb_b1]
    exact ⟨((Ext.refl _).set' n_b1 _), dec_f fun hp => h3 hp.2.2.1⟩
  simp -implicitDefEqProofs only [go_sem, h3, hb_b1]
  refine loopW_of (fun m f h' => ∃ k, m + k = mine.length ∧ h' = h.set b1 ⟨[i64 phase, i64 tries, i64 need, i64 stash, i64 done, str digest, vh, .slice am mine.length cm], 8⟩ ∧ f 1 = ptr b1 0 ∧ f 3 = i64 k ∧ ∀ i, (hi : i < mine.length) → i < k → mine[i] ∉ held) mine.length
    ⟨0, by simp, rfl, by simp -implicitDefEqProofs only [go_sem, hb_b1], by simp -implicitDefEqProofs only [go_sem, hb_b1]; rfl, by omega⟩ ?_
  rintro m f h' ⟨k, hmm, rfl, f1, f3, hno⟩
  skip
  by_cases hk : k < mine.length
  · have e1 := ldc_sub (Sub.set (Sub.refl h) n_b1 ⟨[i64 phase, i64 tries, i64 need, i64 stash, i64 done, str digest, vh, .slice am mine.length cm], 8⟩) (q3 k [i64 mine[k]] (by simp [hk]))
    simp -implicitDefEqProofs only [go_sem, hk, e1, hb_b1, f1, f3, q2, Int.ofNat_lt, Int.natCast_nonneg]
    refine (l05Has_pc (hh.ext ((Ext.refl _).set' n_b1 _)) hs1).use ?_
    simp -implicitDefEqProofs only [go_sem, hb_b1, f1, f3, q2, Int.ofNat_lt, Int.natCast_nonneg]
    refine Br.of (fun h4 => ?_) (fun h4 => ?_)
    · simp -implicitDefEqProofs only [go_sem, h4, hb_b1, f1, f3, q2, Int.ofNat_lt, Int.natCast_nonneg]
      exact ⟨((Ext.refl _).set' n_b1 _), dec_f fun hp => hp.2.2.2.1 _ (List.getElem_mem hk) h4⟩
    · simp -implicitDefEqProofs only [go_sem, h4, wrap_i64 (show -(9223372036854775808 : Int) ≤ ((k : Int) + 1) by omega) (show ((k : Int) + 1) < 9223372036854775808 by omega), hb_b1, f1, f3, q2, Int.ofNat_lt, Int.natCast_nonneg]
      refine ⟨m - 1, by omega, _, Ext.refl _, k + 1, by omega, rfl, rfl, fun i hi1 hi2 => ?_⟩
      by_cases e : i = k
      · subst e; exact h4
      · exact hno i hi1 (by omega)
  have e : k = mine.length := by omega
  subst e
  have hdj : ∀ x ∈ mine, x ∉ held := fun x hx => by obtain ⟨i, hi, rfl⟩ := List.getElem_of_mem hx; exact hno i hi hi
  clear hno
  by_cases p1 : phase = 1
  · subst p1
    simp -implicitDefEqProofs only [go_sem, Nat.lt_irrefl, hb_b1, f1, f3, q2, Int.ofNat_lt, Int.natCast_nonneg]
    repeat' first | (refine Br.of (fun hc => ?_) (fun hc => ?_) <;> simp -implicitDefEqProofs only [go_sem, List.length_map, *, Int.ofNat_lt, Int.natCast_nonneg]) | (refine PC.use (l03Is_pc _ _ _ _) ?_; simp -implicitDefEqProofs only [go_sem, List.length_map, *, Int.ofNat_lt, Int.natCast_nonneg])
    all_goals first | exact ((Ext.refl _).set' n_b1 _) | exact ⟨((Ext.refl _).set' n_b1 _), by first | (simp_all [stateOk]; done) | (simp_all [stateOk]; intros; omega)⟩
  · simp -implicitDefEqProofs only [go_sem, p1, Nat.lt_irrefl, hb_b1, f1, f3, q2, Int.ofNat_lt, Int.natCast_nonneg]
    refine (l03Is_pc _ _ _ _).use ?_
    simp -implicitDefEqProofs only [go_sem, p1, hb_b1, f1, f3, q2, Int.ofNat_lt, Int.natCast_nonneg]
    refine Br.of (fun h5 => ?_) (fun h5 => ?_)
    rotate_left
    · simp -implicitDefEqProofs only [go_sem, h5, hb_b1, f1, f3, q2, Int.ofNat_lt, Int.natCast_nonneg]
      exact ⟨((Ext.refl _).set' n_b1 _), dec_f fun hq => h5 (by have := hq.2.2.2.2; rw [if_neg p1] at this; exact this.1)⟩
    simp -implicitDefEqProofs only [go_sem, h5, hb_b1, f1, f3, q2, Int.ofNat_lt, Int.natCast_nonneg]
    refine (l03Is_pc _ _ _ _).use ?_
    simp -implicitDefEqProofs only [go_sem, h5, hb_b1, f1, f3, q2, Int.ofNat_lt, Int.natCast_nonneg]
    refine Br.of (fun h6 => ?_) (fun h6 => ?_)
    rotate_left
    · simp -implicitDefEqProofs only [go_sem, h6, hb_b1, f1, f3, q2, Int.ofNat_lt, Int.natCast_nonneg]
      exact ⟨((Ext.refl _).set' n_b1 _), dec_f fun hq => h6 (by have := hq.2.2.2.2; rw [if_neg p1] at this; exact this.2.1)⟩
    simp -implicitDefEqProofs only [go_sem, h6, wrap_i64 (show -(9223372036854775808 : Int) ≤ (need + stash) by omega) (show (need + stash) < 9223372036854775808 by omega), hb_b1, f1, f3, q2, Int.ofNat_lt, Int.natCast_nonneg]
    have hq : stateOk ⟨phase, tries, need, stash, done, digest, held, mine⟩ ↔ (mine.length : Int) = need + stash ∧ digest.length = 32 ∧ (0 ≤ tries ∧ tries ≤ 2) ∧ (tries = 0 ∨ phase = 4) ∧ (0 ≤ done ∧ done ≤ 40) ∧ (done = 0 ∨ phase = 5) := by
      unfold stateOk
      simp only [if_neg p1]
      exact ⟨fun h => h.2.2.2.2.2.2, fun h => ⟨h1, h2, h3, hdj, h5, h6, h⟩⟩
    clear hdj
    repeat' first | (refine Br.of (fun hc => ?_) (fun hc => ?_) <;> simp -implicitDefEqProofs only [go_sem, *, Int.ofNat_lt, Int.natCast_nonneg]) | (refine PC.use (l03Is_pc _ _ _ _) ?_; simp -implicitDefEqProofs only [go_sem, *, Int.ofNat_lt, Int.natCast_nonneg])
    all_goals first | exact ((Ext.refl _).set' n_b1 _) | exact ⟨((Ext.refl _).set' n_b1 _), by first | (simp_all; done) | (simp_all; intros; omega)⟩
/-- impl.StateRight -/
def b_impl_StateRight : C := (.seq (.ops [⟨(some 1), none, .box (.t 0)⟩, q 2 (.mv (.c (.bool false)))])
 (.seq (.ops [q 3 (.ld true 8 (.t 1)), ⟨(some 4), none, .call (.c (.func (.func 18) #[] #[])) [(.t 3)]⟩, q 2 (.mv (.t 4))])
 .ret))
theorem w_impl_StateRight {args : List Value} {h : H} {Q : Value → H → Prop} (hl : args.length ≤ 5) (hk : wpc Try.prog b_impl_StateRight (retw [.tmp 2] Q) (argsFr args) h) : AC Try.prog 13 args h Q :=
  AC.of_wpc mixedOrders Try.func13 (by kernel_rfl) (by kernel_rfl : prepF Try.prog Try.f13 = some ⟨5, [.tmp 2], b_impl_StateRight⟩) hl hk

theorem implStateRight_pc {h : H} (s : UState) {vh vm : Value} (hh : Sl h vh 1 (ints s.held)) (hm : Sl h vm 1 (ints s.mine)) (hs : s.small) : PC Try.prog 13 [.agg (s.cells vh vm).toArray] h (.bool (decide (stateOk s))) := by
  refine PC_of ?_
  refine w_impl_StateRight (by simp) ?_
  unfold b_impl_StateRight
  simp -implicitDefEqProofs only [go_sem]
  intro b1 hb_b1 n_b1
  simp -implicitDefEqProofs only [go_sem, hb_b1]
  refine (isState_pc s (hh.ext ((Ext.refl _).set' n_b1 _)) (hm.ext ((Ext.refl _).set' n_b1 _)) hs).use ?_
  simp -implicitDefEqProofs only [go_sem, hb_b1]
  exact ((Ext.refl _).set' n_b1 _)
end Go.Proofs.Ytdofcojbjcpikaa
