/- A helper of this seat's claims (contracts of the functions): what it shows is shown for every input that its statements name, on no other condition. -/
import Derived.Test.YtdofcojbjcpikaaCD
import Derived.Test.YtdofcojbjcpikaaCB
import Derived.Test.YtdofcojbjcpikaaC12p
import Derived.Test.YtdofcojbjcpikaaKD
set_option linter.unusedVariables false
set_option linter.unusedSimpArgs false
set_option maxRecDepth 100000
namespace Go.Proofs.Ytdofcojbjcpikaa
open Go.KH

/-! ## What is free, what is reserved: the other's, as far as the draws need it -/
theorem listOk_of {l : List Int} (h : l.Pairwise (· < ·)) (hb : ∀ x ∈ l, 0 ≤ x ∧ x < 24) : listOk l := fun i hi =>
  ⟨by have := hb _ (List.getElem_mem hi); omega, fun h0 => List.pairwise_iff_getElem.1 h (i - 1) i (by omega) hi (by omega)⟩
def freeTo (a b : List Int) : Nat → List Int
  | 0 => []
  | k + 1 => if (k : Int) ∉ a ∧ (k : Int) ∉ b then freeTo a b k ++ [(k : Int)] else freeTo a b k
theorem freeTo_mem (a b : List Int) : ∀ k, ∀ x ∈ freeTo a b k, 0 ≤ x ∧ x < k
  | 0, x, h => by simp [freeTo] at h
  | k + 1, x, h => by
    unfold freeTo at h
    split at h
    · rcases List.mem_append.1 h with h | h
      · have := freeTo_mem a b k x h; omega
      · simp only [List.mem_singleton] at h; omega
    · have := freeTo_mem a b k x h; omega
theorem freeTo_sorted (a b : List Int) : ∀ k, (freeTo a b k).Pairwise (· < ·)
  | 0 => by simp [freeTo]
  | k + 1 => by
    unfold freeTo
    split
    · refine List.pairwise_append.2 ⟨freeTo_sorted a b k, by simp, fun x hx y hy => ?_⟩
      simp only [List.mem_singleton] at hy
      have := freeTo_mem a b k x hx; omega
    · exact freeTo_sorted a b k
theorem freeTo_ok (a b : List Int) : listOk (freeTo a b 24) := listOk_of (freeTo_sorted a b 24) (freeTo_mem a b 24)
theorem freeTo_len (a b : List Int) : ∀ k, (freeTo a b k).length ≤ k
  | 0 => by simp [freeTo]
  | k + 1 => by
    have := freeTo_len a b k
    unfold freeTo
    split <;> simp <;> omega
theorem ints_len (l : List Int) : (ints l).length = l.length := by simp
/-- spec.l05Free -/
def b_spec_l05Free : C := (.seq (.ops [q 4 (.mv (.c nils))])
 (.seq (.ops [⟨(some 7), none, .bsl 0 [] []⟩, q 5 (.mv (.t 7))])
 (.seq (.seq (.ops [q 6 (.mv (.c (i64 0)))])
 (.block 0 (.loop (.seq (.seq (.ops [q 8 (.mv (.t 6)), q 9 (.bin .lss (.t 8) (.c (i64 24)))])
 (.cond (.t 9) .skip (.exit 0)))
 (.seq (.block 1 (.seq (.ops [q 12 (.mv (.t 0)), q 13 (.mv (.t 6)), ⟨(some 14), none, .call (.c (.func (.func 33) #[] #[])) [(.t 12), (.t 13)]⟩, q 15 (.un .not (.t 14)), q 16 (.mv (.t 15)), qg 17 16 true (.mv (.t 1)), qg 18 16 true (.mv (.t 6)), ⟨(some 19), (some (16, true)), .call (.c (.func (.func 33) #[] #[])) [(.t 17), (.t 18)]⟩, qg 20 16 true (.un .not (.t 19)), q 21 (.pick (.t 16) (.t 20) (.c (.bool false)))])
 (.cond (.t 21) (.ops [q 22 (.mv (.t 5)), q 23 (.mv (.t 6)), ⟨(some 24), none, .bsl 1 [(i64 0)] [(0, 1, (.t 23))]⟩, ⟨(some 25), none, .app 1 8 (.t 22) (.t 24)⟩, q 5 (.mv (.t 25))]) .skip)))
 (.ops [q 10 (.mv (.t 6)), q 11 (.bin .add (.t 10) (.c (i64 1))), q 6 (.mv (.t 11))]))))))
 (.seq (.ops [q 26 (.mv (.t 5)), q 4 (.mv (.t 26))])
 .ret))))
theorem w_spec_l05Free {args : List Value} {h : H} {Q : Value → H → Prop} (hl : args.length ≤ 27) (hk : wpc Try.prog b_spec_l05Free (retw [.tmp 4] Q) (argsFr args) h) : AC Try.prog 61 args h Q :=
  AC.of_wpc mixedOrders Try.func61 (by kernel_rfl) (by kernel_rfl : prepF Try.prog Try.f61 = some ⟨27, [.tmp 4], b_spec_l05Free⟩) hl hk

theorem l05Free_ac {h : H} {va vb : Value} {a b : List Int} (ha : Sl h va 1 (ints a)) (hb : Sl h vb 1 (ints b)) (la : a.length ≤ 1048576) (lb : b.length ≤ 1048576) : AC Try.prog 61 [va, vb] h fun r h' => Own h h' r 1 (ints (freeTo a b 24)) ∧ Ext h h' := by
  refine w_spec_l05Free (by simp) ?_
  unfold b_spec_l05Free
  simp -implicitDefEqProofs only [go_sem]
  intro b0 hb0 n0
  simp -implicitDefEqProofs only [go_sem]
  have o0 : Own h (h.set b0 ⟨[], 0⟩) (sl b0 0 0 0) 1 (ints (freeTo a b 0)) := .inr ⟨b0, 0, 0, rfl, Nat.le_refl _, hb0, n0, H.set_get_same _ _ _, by simp, Wid.nil 1⟩
  refine loopW_of (fun m f h' => ∃ (k : Nat) (u : Value), m + k = 24 ∧ f 0 = va ∧ f 1 = vb ∧ f 5 = u ∧ f 6 = i64 k ∧ Ext h h' ∧ Own h h' u 1 (ints (freeTo a b k))) 24
    ⟨0, _, by simp, by simp -implicitDefEqProofs only [go_sem], by simp -implicitDefEqProofs only [go_sem], by simp -implicitDefEqProofs only [go_sem], by simp -implicitDefEqProofs only [go_sem]; rfl, (Ext.refl _).set n0 _, o0⟩ ?_
  rintro m f h' ⟨k, u, hm, f0, f1, rfl, f6, e, o⟩
  obtain ⟨au, cu, f5⟩ := o.shape
  rw [ints_len] at f5
  rw [f5] at o
  have hl := freeTo_len a b k
  by_cases hk : k < 24
  · simp -implicitDefEqProofs only [go_sem, f0, f1, f5, f6, show (k : Int) < 24 by omega]
    refine (l05Has_pc (n := (k : Int)) (ha.ext e) la).use ?_
    by_cases h1 : (k : Int) ∈ a
    · have hs : freeTo a b (k + 1) = freeTo a b k := by rw [freeTo, if_neg (fun h => h.1 h1)]
      simp -implicitDefEqProofs only [go_sem, f0, f1, f5, f6, h1, wrap_i64 (show -(9223372036854775808 : Int) ≤ ((k : Int) + 1) by omega) (show ((k : Int) + 1) < 9223372036854775808 by omega)]
      exact ⟨m - 1, by omega, _, Ext.refl _, k + 1, _, by omega, rfl, rfl, e, by rw [hs]; exact o⟩
    simp -implicitDefEqProofs only [go_sem, f0, f1, f5, f6, h1]
    refine (l05Has_pc (n := (k : Int)) (hb.ext e) lb).use ?_
    by_cases h2 : (k : Int) ∈ b
    · have hs : freeTo a b (k + 1) = freeTo a b k := by rw [freeTo, if_neg (fun h => h.2 h2)]
      simp -implicitDefEqProofs only [go_sem, f0, f1, f5, f6, h1, h2, wrap_i64 (show -(9223372036854775808 : Int) ≤ ((k : Int) + 1) by omega) (show ((k : Int) + 1) < 9223372036854775808 by omega)]
      exact ⟨m - 1, by omega, _, Ext.refl _, k + 1, _, by omega, rfl, rfl, e, by rw [hs]; exact o⟩
    have hs : freeTo a b (k + 1) = freeTo a b k ++ [(k : Int)] := by rw [freeTo, if_pos ⟨h1, h2⟩]
    simp -implicitDefEqProofs only [go_sem, f0, f1, f5, f6, h1, h2]
    intro bx hbx nx
    simp -implicitDefEqProofs only [go_sem, f5]
    refine appW_own (rows := ints (freeTo a b k)) (new := ints [(k : Int)]) (e.set nx _) (o.ext ((Ext.refl _).set nx _)) rfl (by intro r hr; simp at hr; subst hr; rfl) rfl (by rw [ints_len]; simp; omega) ?_
    intro v' h2 e2 o2 _
    simp -implicitDefEqProofs only [go_sem, f0, f1, f6, wrap_i64 (show -(9223372036854775808 : Int) ≤ ((k : Int) + 1) by omega) (show ((k : Int) + 1) < 9223372036854775808 by omega)]
    exact ⟨m - 1, by omega, _, Ext.refl _, k + 1, v', by omega, rfl, rfl, e2, by rw [hs]; simpa using o2⟩
  · obtain rfl : k = 24 := by omega
    simp -implicitDefEqProofs only [go_sem, f0, f1, f5, f6, show ¬ (((24 : Nat) : Int) < 24) by omega]
    exact ⟨o, e⟩
abbrev exts (E : List (Int × Int)) : List (List Value) := E.map fun e => [i64 e.1, i64 e.2]
def runOk (e : Int × Int) : Prop := 0 ≤ e.1 ∧ 1 ≤ e.2 ∧ e.1 + e.2 ≤ 24
theorem exts_wid (E : List (Int × Int)) : Wid 2 (exts E) := Wid.map fun _ => rfl
/-- spec.l05Runs -/
def b_spec_l05Runs : C := (.seq (.ops [q 2 (.mv (.c nils))])
 (.seq (.ops [⟨(some 5), none, .bsl 0 [] []⟩, q 3 (.mv (.t 5))])
 (.seq (.seq (.ops [q 4 (.mv (.c (i64 0)))])
 (.block 0 (.loop (.seq (.seq (.ops [q 6 (.mv (.t 4)), q 7 (.mv (.t 0)), q 8 (.len (.t 7)), q 9 (.bin .lss (.t 6) (.t 8))])
 (.cond (.t 9) .skip (.exit 0)))
 (.seq (.block 1 (.seq (.dops true (.tk (q 12 (.mv (.t 4))) (.tk (q 13 (.bin .gtr (.t 12) (.c (i64 0)))) (.tk (q 14 (.mv (.t 13))) (.tk (qg 15 14 true (.mv (.t 0))) (.tk (qg 16 14 true (.mv (.t 4))) (.tk (qg 17 14 true (.bin .sub (.t 16) (.c (i64 1)))) (.tk (qg 18 14 true (.idx 1 (.t 15) (.t 17))) (.tk (qg 19 14 true (.ld false 1 (.t 18))) (.tk (qg 20 14 true (.bin .add (.t 19) (.c (i64 1)))) (.tk (qg 21 14 true (.mv (.t 0))) (.tk (qg 22 14 true (.mv (.t 4))) (.tk (qg 23 14 true (.idx 1 (.t 21) (.t 22))) (.tk (qg 24 14 true (.ld false 1 (.t 23))) (.tk (qg 25 14 true (.bin .eql (.t 20) (.t 24))) (.tk (q 26 (.pick (.t 14) (.t 25) (.c (.bool false)))) .nil))))))))))))))))
 (.cond (.t 26) (.ops [q 27 (.mv (.t 3)), q 28 (.mv (.t 3)), q 29 (.len (.t 28)), q 30 (.bin .sub (.t 29) (.c (i64 1))), q 31 (.mv (.t 3)), q 32 (.mv (.t 3)), q 33 (.len (.t 32)), q 34 (.bin .sub (.t 33) (.c (i64 1))), q 35 (.idx 2 (.t 31) (.t 34)), q 36 (.fld 1 (.t 35)), q 37 (.ld false 1 (.t 36)), q 38 (.bin .add (.t 37) (.c (i64 1))), q 39 (.idx 2 (.t 27) (.t 30)), q 40 (.fld 1 (.t 39)), ⟨none, none, .st 1 (.t 40) (.t 38)⟩]) (.ops [q 41 (.mv (.t 3)), q 42 (.mv (.t 0)), q 43 (.mv (.t 4)), q 44 (.idx 1 (.t 42) (.t 43)), q 45 (.ld false 1 (.t 44)), q 46 (.build [(i64 0), (i64 0)] [(0, 1, (.t 45)), (1, 1, (.c (i64 1)))]), ⟨(some 47), none, .bsl 1 [(i64 0), (i64 0)] [(0, 2, (.t 46))]⟩, ⟨(some 48), none, .app 2 16 (.t 41) (.t 47)⟩, q 3 (.mv (.t 48))]))))
 (.ops [q 10 (.mv (.t 4)), q 11 (.bin .add (.t 10) (.c (i64 1))), q 4 (.mv (.t 11))]))))))
 (.seq (.ops [q 49 (.mv (.t 3)), q 2 (.mv (.t 49))])
 .ret))))
theorem w_spec_l05Runs {args : List Value} {h : H} {Q : Value → H → Prop} (hl : args.length ≤ 50) (hk : wpc Try.prog b_spec_l05Runs (retw [.tmp 2] Q) (argsFr args) h) : AC Try.prog 62 args h Q :=
  AC.of_wpc mixedOrders Try.func62 (by kernel_rfl) (by kernel_rfl : prepF Try.prog Try.f62 = some ⟨50, [.tmp 2], b_spec_l05Runs⟩) hl hk

theorem l05Runs_ac {h : H} {v : Value} {l : List Int} (hv : Sl h v 1 (ints l)) (ok : listOk l) : AC Try.prog 62 [v] h fun r h' => (∃ E, (∀ e ∈ E, runOk e) ∧ E.length ≤ 24 ∧ Own h h' r 2 (exts E)) ∧ Ext h h' := by
  have h24 := listOk_le ok
  obtain ⟨a, c, rfl⟩ := hv.shape
  rw [ints_len] at hv
  refine w_spec_l05Runs (by simp) ?_
  unfold b_spec_l05Runs
  simp -implicitDefEqProofs only [go_sem, ints_len]
  intro b0 hb0 n0
  simp -implicitDefEqProofs only [go_sem]
  refine loopW_of (fun m f h' => ∃ (k : Nat) (E : List (Int × Int)) (u : Value), m + k = l.length ∧ f 0 = .slice a l.length c ∧ f 3 = u ∧ f 4 = i64 k ∧ Ext h h' ∧ Own h h' u 2 (exts E) ∧ (∀ e ∈ E, runOk e) ∧ E.length ≤ k ∧ (0 < k → ∃ E' e, E = E' ++ [e] ∧ ∀ (hk : k - 1 < l.length), e.1 + e.2 = l[k - 1] + 1)) l.length
    ⟨0, [], sl b0 0 0 0, by simp, by simp -implicitDefEqProofs only [go_sem, ints_len], by simp -implicitDefEqProofs only [go_sem], by simp -implicitDefEqProofs only [go_sem]; rfl, (Ext.refl _).set n0 _, .inr ⟨b0, 0, 0, rfl, Nat.le_refl _, hb0, n0, H.set_get_same _ _ _, by simp, Wid.nil 2⟩, by simp, by simp, by omega⟩ ?_
  rintro m f h' ⟨k, E, u, hm, f0, rfl, f4, e, o, hE, hl, hlast⟩
  obtain ⟨au, cu, f3⟩ := o.shape
  have hel : (exts E).length = E.length := by simp
  rw [hel] at f3
  rw [f3] at o
  obtain ⟨a', c', b', o', e', hc', r2, r3⟩ := hv.ext e
  simp only [Value.slice.injEq, ints_len, true_and] at e'
  obtain ⟨rfl, rfl⟩ := e'
  rw [ints_len] at r2
  by_cases hk : k < l.length
  rotate_left
  · simp -implicitDefEqProofs only [go_sem, f0, f3, f4, show ¬ ((k : Int) < (l.length : Int)) by omega]
    exact ⟨⟨E, hE, by omega, o⟩, e⟩
  have dk := r3 k [i64 l[k]] (by simp [hk])
  rw [Nat.mul_one] at dk
  have lk := (ok k hk).1
  have app : ∀ {f : Fr}, f 0 = .slice a l.length c → f 3 = .slice au E.length cu → f 4 = i64 k → (∀ (hk : k - 1 < l.length), k = 0 ∨ l[k - 1] + 1 ≠ l[k]) → True := fun _ _ _ _ => trivial
  by_cases h0 : k = 0 ∨ ∃ (hk' : k - 1 < l.length), l[k - 1] + 1 ≠ l[k]
  · have goal : ∀ {v' : Value} {h2 : H}, Ext h h2 → Own h h2 v' 2 (exts (E ++ [(l[k], 1)])) → ∃ (k' : Nat) (E' : List (Int × Int)) (u : Value), m - 1 + k' = l.length ∧ i64 ((k : Int) + 1) = i64 (k' : Int) ∧ v' = u ∧ Ext h h2 ∧ Own h h2 u 2 (exts E') ∧ (∀ e ∈ E', runOk e) ∧ E'.length ≤ k' ∧ (0 < k' → ∃ E'' e, E' = E'' ++ [e] ∧ ∀ (hk : k' - 1 < l.length), e.1 + e.2 = l[k' - 1] + 1) := fun {v' h2} e2 o2 =>
      ⟨k + 1, E ++ [(l[k], 1)], v', by omega, rfl, rfl, e2, o2, fun x hx => by
        rcases List.mem_append.1 hx with hx | hx
        · exact hE x hx
        · simp only [List.mem_singleton] at hx; subst hx; exact ⟨lk.1, Int.le_refl _, by simp only; omega⟩, by simp; omega, fun _ => ⟨E, _, rfl, fun _ => rfl⟩⟩
    by_cases hz : k = 0
    · subst hz
      rw [Nat.add_zero] at dk
      simp -implicitDefEqProofs only [go_sem, f0, f3, f4, show ((0 : Nat) : Int) < (l.length : Int) by omega, Int.natCast_nonneg, Int.lt_irrefl, show ¬ (0 : Int) < ((0 : Nat) : Int) by omega, r2, dk, Nat.mul_one, Nat.zero_mul, Nat.add_zero]
      intro bx hbx nx
      simp -implicitDefEqProofs only [go_sem, f3]
      refine appW_own (new := exts [(l[0], 1)]) (e.set nx _) (o.ext ((Ext.refl _).set nx _)) rfl (exts_wid _) rfl (by rw [hel]; simp; omega) ?_
      intro v' h2 e2 o2 _
      have o2' : Own h h2 v' 2 (exts (E ++ [(l[0], 1)])) := by simpa using o2
      obtain ⟨k', E', u, q1, q2, q3, q4, q5, q6, q7, q8⟩ := goal e2 o2'
      simp -implicitDefEqProofs only [go_sem, f0, f4, wrap_i64 (show -(9223372036854775808 : Int) ≤ (((0 : Nat) : Int) + 1) by omega) (show (((0 : Nat) : Int) + 1) < 9223372036854775808 by omega)]
      exact ⟨m - 1, by omega, _, Ext.refl _, k', E', u, q1, q3, q2, q4, q5, q6, q7, q8⟩
    · obtain ⟨hk', hne⟩ := h0.resolve_left hz
      have dp := r3 (k - 1) [i64 l[k - 1]] (by simp [hk'])
      rw [Nat.mul_one] at dp
      have lp := (ok (k - 1) hk').1
      have km : ((k : Int) - 1).toNat = k - 1 := by omega
      simp -implicitDefEqProofs only [go_sem, f0, f3, f4, show (k : Int) < (l.length : Int) by omega, show (0 : Int) < (k : Int) by omega, wrap_i64 (show -(9223372036854775808 : Int) ≤ ((k : Int) - 1) by omega) (show ((k : Int) - 1) < 9223372036854775808 by omega), show (0 : Int) ≤ (k : Int) - 1 by omega, show (k : Int) - 1 < (l.length : Int) by omega, km, Int.natCast_nonneg, r2, dk, dp, Nat.mul_one, wrap_i64 (show -(9223372036854775808 : Int) ≤ (l[k - 1] + 1) by omega) (show (l[k - 1] + 1) < 9223372036854775808 by omega), eq_false hne]
      intro bx hbx nx
      simp -implicitDefEqProofs only [go_sem, f3]
      refine appW_own (new := exts [(l[k], 1)]) (e.set nx _) (o.ext ((Ext.refl _).set nx _)) rfl (exts_wid _) rfl (by rw [hel]; simp; omega) ?_
      intro v' h2 e2 o2 _
      have o2' : Own h h2 v' 2 (exts (E ++ [(l[k], 1)])) := by simpa using o2
      obtain ⟨k', E', u, q1, q2, q3, q4, q5, q6, q7, q8⟩ := goal e2 o2'
      simp -implicitDefEqProofs only [go_sem, f0, f4, wrap_i64 (show -(9223372036854775808 : Int) ≤ ((k : Int) + 1) by omega) (show ((k : Int) + 1) < 9223372036854775808 by omega)]
      exact ⟨m - 1, by omega, _, Ext.refl _, k', E', u, q1, q3, q2, q4, q5, q6, q7, q8⟩
  · have hz : 0 < k := by omega
    have hk' : k - 1 < l.length := by omega
    have heq : l[k - 1] + 1 = l[k] := by
      by_cases hq : l[k - 1] + 1 = l[k]
      · exact hq
      · exact absurd (.inr ⟨hk', hq⟩) h0
    obtain ⟨E', x, rfl, hx⟩ := hlast hz
    have hx := hx hk'
    have hxo := hE x (by simp)
    have dp := r3 (k - 1) [i64 l[k - 1]] (by simp [hk'])
    rw [Nat.mul_one] at dp
    have lp := (ok (k - 1) hk').1
    have km : ((k : Int) - 1).toNat = k - 1 := by omega
    have hE1 : (E' ++ [x]).length = E'.length + 1 := by simp
    rcases o with ⟨hv0, _⟩ | ⟨b, cc, z, hvv, hlc, hbb, h0b, hg, hcz, hww⟩
    · simp only [nils, Value.slice.injEq] at hv0
      rw [hE1] at hv0; omega
    simp only [sl, Value.slice.injEq] at hvv
    obtain ⟨rfl, _, rfl⟩ := hvv
    have hfl : (exts (E' ++ [x])).flatten = (exts E').flatten ++ [i64 x.1, i64 x.2] := by simp
    have hAl : (exts E').flatten.length = E'.length * 2 := by rw [flat_length (exts_wid _)]; simp
    rw [hfl] at hg
    have em : ((E'.length + 1 : Nat) : Int) - 1 = (E'.length : Int) := by omega
    have dl : ldc h' b (E'.length * 2 + 1) 1 = some [i64 x.2] := by
      rw [ldc_get hg, if_pos (by simp [hAl])]
      have : ((exts E').flatten ++ [i64 x.1, i64 x.2]).drop (E'.length * 2 + 1) = [i64 x.2] := by
        rw [← hAl, List.drop_append]; simp
      simp only
      rw [this]; rfl
    have hst : stc h' b (E'.length * 2 + 1) [i64 (x.2 + 1)] 1 = some (h'.set b ⟨(exts (E' ++ [(x.1, x.2 + 1)])).flatten, z⟩) := by
      rw [stc_get hg, if_pos ⟨rfl, by simp [hAl], rfl⟩]
      have := splice_app (exts E').flatten [i64 x.1, i64 x.2] [i64 (x.2 + 1)] 1 (m := E'.length * 2 + 1) (by rw [hAl])
      simp only [this]
      have : splice [i64 x.1, i64 x.2] 1 [i64 (x.2 + 1)] = [i64 x.1, i64 (x.2 + 1)] := rfl
      rw [this]
      simp
    have h22 : x.2 + 1 ≤ 24 := by obtain ⟨q1, q2, q3⟩ := hxo; omega
    have h21 : 1 ≤ x.2 := hxo.2.1
    rw [hE1] at f3
    simp -implicitDefEqProofs only [go_sem, f0, f3, f4, show (k : Int) < (l.length : Int) by omega, show (0 : Int) < (k : Int) by omega, wrap_i64 (show -(9223372036854775808 : Int) ≤ ((k : Int) - 1) by omega) (show ((k : Int) - 1) < 9223372036854775808 by omega), show (0 : Int) ≤ (k : Int) - 1 by omega, show (k : Int) - 1 < (l.length : Int) by omega, km, Int.natCast_nonneg, r2, dk, dp, Nat.mul_one, wrap_i64 (show -(9223372036854775808 : Int) ≤ (l[k - 1] + 1) by omega) (show (l[k - 1] + 1) < 9223372036854775808 by omega), eq_true heq, em, wrap_i64 (show -(9223372036854775808 : Int) ≤ (E'.length : Int) by omega) (show (E'.length : Int) < 9223372036854775808 by omega), show (E'.length : Int) < ((E'.length + 1 : Nat) : Int) by omega, Int.toNat_natCast, dl, hbb, hst, wrap_i64 (show -(9223372036854775808 : Int) ≤ (x.2 + 1) by omega) (show (x.2 + 1) < 9223372036854775808 by omega), wrap_i64 (show -(9223372036854775808 : Int) ≤ ((k : Int) + 1) by omega) (show ((k : Int) + 1) < 9223372036854775808 by omega)]
    refine ⟨m - 1, by omega, _, Ext.refl _, k + 1, E' ++ [(x.1, x.2 + 1)], sl b 0 (E'.length + 1) cu, by omega, rfl, rfl, e.set' h0b _, .inr ⟨b, cu, z, by simp, by simpa using hlc, hbb, h0b, H.set_get_same _ _ _, hcz, exts_wid _⟩, fun y hy => ?_, by simp at hl ⊢; omega, fun _ => ⟨E', _, rfl, fun _ => ?_⟩⟩
    · rcases List.mem_append.1 hy with hy | hy
      · exact hE y (List.mem_append_left _ hy)
      · simp only [List.mem_singleton] at hy; subst hy
        exact ⟨hxo.1, by simp only; omega, by simp only; omega⟩
    · simp only [Nat.add_sub_cancel]; omega
end Go.Proofs.Ytdofcojbjcpikaa
