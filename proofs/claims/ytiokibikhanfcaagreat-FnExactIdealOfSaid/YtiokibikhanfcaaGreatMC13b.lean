/- A helper of this seat's claims (contracts of the functions): what it shows is shown for every input that its statements name, on no other condition. -/
import Derived.Test.YtiokibikhanfcaaGreatC06r
import Derived.Test.YtiokibikhanfcaaGreatC0
import Derived.Test.YtiokibikhanfcaaGreatKD
set_option linter.unusedVariables false
set_option linter.unusedSimpArgs false
set_option maxRecDepth 100000
namespace Go.Proofs.YtiokibikhanfcaaGreat
open Go.KH

/-! ## Seals opened, notes read -/
def unsealB (t : List UInt8) : List UInt8 × Nat := if t.length < 4 then ([], 4) else if sealB (t.take (t.length - 4)) = t then (t.take (t.length - 4), 0) else ([], 5)
theorem four_len (x : BitVec 32) : (four x).length = 4 := rfl
theorem sealB_len (t : List UInt8) : (sealB t).length = t.length + 4 := by unfold sealB; rw [List.length_append, four_len]
theorem sealB_inj {a b : List UInt8} (h : sealB a = sealB b) : a = b := by
  have hl := congrArg List.length h
  rw [sealB_len, sealB_len] at hl
  unfold sealB at h
  exact (List.append_inj h (by omega)).1
theorem unsealB_ok {t i : List UInt8} (h : unsealB t = (i, 0)) : sealB i = t ∧ i.length + 4 = t.length := by
  unfold unsealB at h
  split at h
  · simp at h
  · split at h
    · rename_i h4 hs; simp only [Prod.mk.injEq, and_true] at h; rw [← h]; exact ⟨hs, by rw [List.length_take]; omega⟩
    · simp at h
theorem unsealB_len (t : List UInt8) : (unsealB t).1.length ≤ t.length := by
  unfold unsealB
  split
  · simp
  · split
    · simp only [List.length_take]; omega
    · simp
theorem four_iff (t : List UInt8) (h : ¬ t.length < 4) : four (crc (t.take (t.length - 4))) = t.drop (t.length - 4) ↔ sealB (t.take (t.length - 4)) = t := by
  unfold sealB
  constructor
  · intro h1; rw [h1, List.take_append_drop]
  · intro h1
    have h2 : t.take (t.length - 4) ++ four (crc (t.take (t.length - 4))) = t.take (t.length - 4) ++ t.drop (t.length - 4) := by rw [h1, List.take_append_drop]
    exact List.append_cancel_left h2
theorem subn (h h' : H) : KH.Sub h.none h' = True := propext ⟨fun _ => trivial, fun _ => ⟨fun b ob hb => (by cases hb), fun b l hb => (by cases hb)⟩⟩
/-- impl.unseal -/
def b_impl_unseal : C := (.seq (.ops [q 2 (.mv (.c (str []))), q 3 (.mv (.c (i64 0)))])
 (.seq (.seq (.ops [q 5 (.mv (.t 0)), q 6 (.slen (.t 5)), q 7 (.bin .lss (.t 6) (.c (i64 4)))])
 (.cond (.t 7) (.seq (.ops [q 2 (.mv (.c (str []))), q 3 (.mv (.c (i64 4)))])
 .ret) .skip))
 (.seq (.ops [q 8 (.mv (.t 0)), q 9 (.mv (.t 0)), q 10 (.slen (.t 9)), q 11 (.bin .sub (.t 10) (.c (i64 4))), q 12 (.ssl (.t 8) none (some (.t 11))), q 4 (.mv (.t 12))])
 (.seq (.seq (.ops [q 13 (.mv (.t 4)), ⟨(some 14), none, .call (.c (.func (.func 224) #[] #[])) [(.t 13)]⟩, q 15 (.mv (.t 0)), q 16 (.bin .neq (.t 14) (.t 15))])
 (.cond (.t 16) (.seq (.ops [q 2 (.mv (.c (str []))), q 3 (.mv (.c (i64 5)))])
 .ret) .skip))
 (.seq (.ops [q 17 (.mv (.t 4)), q 2 (.mv (.t 17)), q 3 (.mv (.c (i64 0)))])
 .ret)))))
theorem w_impl_unseal {args : List Value} {h : H} {Q : Value → H → Prop} (hl : args.length ≤ 18) (hk : wpc Tryz.prog b_impl_unseal (retw [.tmp 2, .tmp 3] Q) (argsFr args) h) : AC Tryz.prog 183 args h Q :=
  AC.of_wpc mixedOrders Tryz.func183 (by kernel_rfl) (by kernel_rfl : prepF Tryz.prog Tryz.f183 = some ⟨18, [.tmp 2, .tmp 3], b_impl_unseal⟩) hl hk

theorem unseal_pc (h : H) (t : List UInt8) (ht : t.length ≤ 1099511627776) : PC Tryz.prog 183 [str t] h (.tuple #[str (unsealB t).1, i64 (unsealB t).2]) := by
  unfold unsealB
  refine w_impl_unseal (by simp) ?_
  unfold b_impl_unseal
  simp -implicitDefEqProofs only [go_sem]
  by_cases h4 : t.length < 4
  · simp -implicitDefEqProofs only [go_sem, show (t.length : Int) < 4 by omega, h4]
    rfl
  · have e : ((t.length : Int) - 4).toNat = t.length - 4 := by omega
    simp -implicitDefEqProofs only [go_sem, show ¬ ((t.length : Int) < 4) by omega, wrap_i64 (show -(9223372036854775808 : Int) ≤ ((t.length : Int) - 4) by omega) (show ((t.length : Int) - 4) < 9223372036854775808 by omega), show (0 : Int) ≤ (t.length : Int) - 4 by omega, show (t.length : Int) - 4 ≤ (t.length : Int) by omega, e]
    refine (seal_pc _ _ (by rw [List.length_take]; omega)).use ?_
    by_cases hs : sealB (t.take (t.length - 4)) = t
    · simp -implicitDefEqProofs only [go_sem, hs, h4]
      rfl
    · simp -implicitDefEqProofs only [go_sem, hs, h4]
      rfl
/-- spec.Unseal -/
def b_spec_Unseal : C := (.seq (.ops [⟨(some 2), none, .alloc [(str []), (i64 0), (i64 0)]⟩])
 (.seq (.seq (.ops [q 4 (.mv (.t 0)), q 5 (.slen (.t 4)), q 6 (.bin .gtr (.t 5) (.c (i64 8000)))])
 (.cond (.t 6) (.seq (.ops [q 7 (.build [(str []), (i64 0), (i64 0)] [(2, 1, (.c (i64 2)))]), ⟨none, none, .st 3 (.t 2) (.t 7)⟩])
 .ret) .skip))
 (.seq (.seq (.ops [q 8 (.mv (.t 0)), q 9 (.slen (.t 8)), q 10 (.bin .lss (.t 9) (.c (i64 4)))])
 (.cond (.t 10) (.seq (.ops [q 11 (.build [(str []), (i64 0), (i64 0)] [(2, 1, (.c (i64 4)))]), ⟨none, none, .st 3 (.t 2) (.t 11)⟩])
 .ret) .skip))
 (.seq (.ops [q 12 (.mv (.t 0)), q 13 (.mv (.t 0)), q 14 (.slen (.t 13)), q 15 (.bin .sub (.t 14) (.c (i64 4))), q 16 (.ssl (.t 12) none (some (.t 15))), q 3 (.mv (.t 16))])
 (.seq (.seq (.dops false (.tk (q 17 (.mv (.t 3))) (.tk (q 20 (.mv (.t 0))) (.tk (q 21 (.mv (.t 0))) (.tk (q 22 (.slen (.t 21))) (.tk (q 23 (.bin .sub (.t 22) (.c (i64 4)))) (.tk (q 24 (.ssl (.t 20) (some (.t 23)) none)) (.sq (⟨(some 18), none, .call (.c (.func (.func 219) #[] #[])) [(.c (i64 0)), (.t 17)]⟩) (.sq (⟨(some 19), none, .call (.c (.func (.func 218) #[] #[])) [(.t 18)]⟩) (.tk (q 25 (.bin .neq (.t 19) (.t 24))) .nil))))))))))
 (.cond (.t 25) (.seq (.ops [q 26 (.build [(str []), (i64 0), (i64 0)] [(2, 1, (.c (i64 5)))]), ⟨none, none, .st 3 (.t 2) (.t 26)⟩])
 .ret) .skip))
 (.seq (.ops [q 27 (.mv (.t 3)), q 28 (.build [(str []), (i64 0), (i64 0)] [(0, 1, (.t 27))]), ⟨none, none, .st 3 (.t 2) (.t 28)⟩])
 .ret))))))
theorem w_spec_Unseal {args : List Value} {h : H} {Q : Value → H → Prop} (hl : args.length ≤ 29) (hk : wpc Tryz.prog b_spec_Unseal (retw [.cell 2 true 3] Q) (argsFr args) h) : AC Tryz.prog 176 args h Q :=
  AC.of_wpc mixedOrders Tryz.func176 (by kernel_rfl) (by kernel_rfl : prepF Tryz.prog Tryz.f176 = some ⟨29, [.cell 2 true 3], b_spec_Unseal⟩) hl hk

theorem specUnseal_pc (h : H) (t : List UInt8) (ht : t.length ≤ 1099511627776) : PC Tryz.prog 176 [str t] h (.agg (if 8000 < t.length then #[str [], i64 0, i64 2] else #[str (unsealB t).1, i64 0, i64 (unsealB t).2])) := by
  refine PC_of ?_
  unfold unsealB
  refine w_spec_Unseal (by simp) ?_
  unfold b_spec_Unseal
  simp -implicitDefEqProofs only [go_sem]
  intro b2 hb_b2 n_b2
  by_cases h8 : 8000 < t.length
  · simp -implicitDefEqProofs only [go_sem, show (8000 : Int) < (t.length : Int) by omega, h8, hb_b2]
    exact ((Ext.refl _).set' n_b2 _)
  by_cases h4 : t.length < 4
  · simp -implicitDefEqProofs only [go_sem, show ¬ ((8000 : Int) < (t.length : Int)) by omega, show (t.length : Int) < 4 by omega, h4, h8, hb_b2]
    exact ⟨((Ext.refl _).set' n_b2 _), rfl⟩
  · have e : ((t.length : Int) - 4).toNat = t.length - 4 := by omega
    have hc := l01Crc_pc (h.set b2 ⟨[str [], i64 0, i64 0], 3⟩) 0#32 (t.take (t.length - 4)) (by rw [List.length_take]; omega)
    have hf := four_iff t h4
    simp -implicitDefEqProofs only [go_sem, show ¬ ((8000 : Int) < (t.length : Int)) by omega, show ¬ ((t.length : Int) < 4) by omega, wrap_i64 (show -(9223372036854775808 : Int) ≤ ((t.length : Int) - 4) by omega) (show ((t.length : Int) - 4) < 9223372036854775808 by omega), show (0 : Int) ≤ (t.length : Int) - 4 by omega, show (t.length : Int) - 4 ≤ (t.length : Int) by omega, e, Int.le_refl, Int.natCast_nonneg, List.take_length, hb_b2]
    refine hc.use ?_
    simp -implicitDefEqProofs only [go_sem, subn, hb_b2]
    refine (l01Four_pc _ _).use ?_
    by_cases hs : sealB (t.take (t.length - 4)) = t
    · have h1 : four (~~~ crcL (~~~ 0#32) (t.take (t.length - 4))) = t.drop (t.length - 4) := hf.2 hs
      simp -implicitDefEqProofs only [go_sem, hs, h4, h8, h1, subn, hb_b2]
      exact ⟨((Ext.refl _).set' n_b2 _), rfl⟩
    · have h1 : ¬ four (~~~ crcL (~~~ 0#32) (t.take (t.length - 4))) = t.drop (t.length - 4) := fun h => hs (hf.1 h)
      simp -implicitDefEqProofs only [go_sem, hs, h4, h8, h1, subn, hb_b2]
      exact ⟨((Ext.refl _).set' n_b2 _), rfl⟩
/-- Two numbers and a text that read well. -/
def ReadsN (t : List UInt8) (k m : Int) (x : List UInt8) (e : Nat) : Prop := ∃ a1 a2, getN t 0 = (k, a1, 0) ∧ getN t a1 = (m, a2, 0) ∧ getT t a2 = (x, e, 0)
theorem ReadsN.eq {t x : List UInt8} {k m : Int} {e : Nat} (r : ReadsN t k m x e) : t = putNum k ++ putNum m ++ putText x ++ t.drop e ∧ 0 < e ∧ e ≤ t.length ∧ in64 k ∧ in64 m ∧ x.length ≤ 8000 := by
  obtain ⟨a1, a2, g1, g2, g3⟩ := r
  obtain ⟨k1, k2, k3, k4⟩ := getN_ok g1
  obtain ⟨d1, d2, d3, d4⟩ := getN_ok g2
  obtain ⟨x1, x2, x3, x4⟩ := getT_ok g3
  refine ⟨?_, by omega, x3, k4, d4, x4⟩
  rw [List.drop_zero] at k1
  rw [d1, x1] at k1
  simpa only [List.append_assoc] using k1
end Go.Proofs.YtiokibikhanfcaaGreat

set_option linter.unusedVariables false
set_option linter.unusedSimpArgs false
set_option maxRecDepth 100000
namespace Go.Proofs.YtiokibikhanfcaaGreat
open Go.KH

/-! ## The laws' helpers for lists of texts -/
abbrev strs (l : List (List UInt8)) : List (List Value) := l.map fun s => [str s]
theorem strs_wid (l : List (List UInt8)) : Wid 1 (strs l) := Wid.map fun _ => rfl
theorem strs_one (l : List (List UInt8)) : (strs l).flatten.all Value.oneCell' = true := by simp [strs, oneCell_str]
theorem strs_map (l : List (List UInt8)) : strs l = (l.map str).map fun x => [x] := by simp [strs]
theorem neq_strv (a b : List UInt8) : obin .neq (str a) (str b) = some (.bool (decide (¬ a = b))) := by rw [bs_neq]
theorem strs_of (rows : List (List Value)) (h : ∀ r ∈ rows, fitsF [.str] r) : ∃ l : List (List UInt8), rows = strs l ∧ ∀ s ∈ l, s.length ≤ maxLen :=
  rows_of (fun s => [str s]) (fun s => s.length ≤ maxLen) rows fun r hr => by
    obtain ⟨_, _, rfl, h1, h⟩ := fitsF_cons (h r hr)
    obtain rfl := fitsF_nil h
    obtain ⟨a, rfl, k1⟩ := h1
    exact ⟨a, rfl, k1⟩
/-- laws.szStringS -/
def b_laws_szStringS : C := (.seq (.ops [q 4 (.mv (.c (i64 0)))])
 (.seq (.ops [q 6 (.mv (.t 1)), q 7 (.mv (.t 0)), q 8 (.len (.t 7)), q 9 (.bin .sub (.t 6) (.t 8)), q 1 (.mv (.t 9))])
 (.seq (.seq (.ops [q 10 (.mv (.t 1)), q 11 (.bin .lss (.t 10) (.c (i64 0)))])
 (.cond (.t 11) (.seq (.ops [q 4 (.mv (.c (i64 (-1))))])
 .ret) .skip))
 (.seq (.seq (.ops [q 5 (.mv (.c (i64 0)))])
 (.block 0 (.loop (.seq (.seq (.ops [q 12 (.mv (.t 5)), q 13 (.mv (.t 0)), q 14 (.len (.t 13)), q 15 (.bin .lss (.t 12) (.t 14))])
 (.cond (.t 15) .skip (.exit 0)))
 (.seq (.block 1 (.seq (.ops [q 18 (.mv (.t 1)), q 19 (.mv (.t 0)), q 20 (.mv (.t 5)), q 21 (.idx 1 (.t 19) (.t 20)), q 22 (.ld false 1 (.t 21)), q 23 (.slen (.t 22)), q 24 (.bin .sub (.t 18) (.t 23)), q 1 (.mv (.t 24))])
 (.seq (.ops [q 25 (.mv (.t 1)), q 26 (.bin .lss (.t 25) (.c (i64 0)))])
 (.cond (.t 26) (.seq (.ops [q 4 (.mv (.c (i64 (-1))))])
 .ret) .skip))))
 (.ops [q 16 (.mv (.t 5)), q 17 (.bin .add (.t 16) (.c (i64 1))), q 5 (.mv (.t 17))]))))))
 (.seq (.ops [q 27 (.mv (.t 1)), q 4 (.mv (.t 27))])
 .ret)))))
theorem w_laws_szStringS {args : List Value} {h : H} {Q : Value → H → Prop} (hl : args.length ≤ 28) (hk : wpc Tryz.prog b_laws_szStringS (retw [.tmp 4] Q) (argsFr args) h) : AC Tryz.prog 74 args h Q :=
  AC.of_wpc mixedOrders Tryz.func74 (by kernel_rfl) (by kernel_rfl : prepF Tryz.prog Tryz.f74 = some ⟨28, [.tmp 4], b_laws_szStringS⟩) hl hk

theorem szStringS_pc {h : H} {v : Value} {l : List (List UInt8)} {left : Int} (hv : Sl h v 1 (strs l)) (hn : l.length ≤ maxLen) (hn2 : ∀ s ∈ l, s.length ≤ maxLen) (hl : 0 ≤ left ∧ left ≤ 1048576) :
    PC Tryz.prog 74 [v, i64 left] h (i64 (lessn left (l.length + sumn List.length l : Nat))) :=
  w_laws_szStringS (by simp) (szs_wpc hv hn hn2 hl ⟨rfl, rfl⟩)
/-- laws.toStringS -/
def b_laws_toStringS : C := (.seq (.ops [q 2 (.mv (.c nils))])
 (.seq (.ops [q 5 (.mv (.t 0)), q 6 (.len (.t 5)), ⟨(some 7), none, .mks 1 16 [(str [])] (.t 6) (.t 6)⟩, q 3 (.mv (.t 7))])
 (.seq (.seq (.ops [q 4 (.mv (.c (i64 0)))])
 (.block 0 (.loop (.seq (.seq (.ops [q 8 (.mv (.t 4)), q 9 (.mv (.t 0)), q 10 (.len (.t 9)), q 11 (.bin .lss (.t 8) (.t 10))])
 (.cond (.t 11) .skip (.exit 0)))
 (.seq (.block 1 (.ops [q 14 (.mv (.t 3)), q 15 (.mv (.t 4)), q 16 (.mv (.t 0)), q 17 (.mv (.t 4)), q 18 (.idx 1 (.t 16) (.t 17)), q 19 (.ld false 1 (.t 18)), q 20 (.idx 1 (.t 14) (.t 15)), ⟨none, none, .st 1 (.t 20) (.t 19)⟩]))
 (.ops [q 12 (.mv (.t 4)), q 13 (.bin .add (.t 12) (.c (i64 1))), q 4 (.mv (.t 13))]))))))
 (.seq (.ops [q 21 (.mv (.t 3)), q 2 (.mv (.t 21))])
 .ret))))
theorem w_laws_toStringS {args : List Value} {h : H} {Q : Value → H → Prop} (hl : args.length ≤ 22) (hk : wpc Tryz.prog b_laws_toStringS (retw [.tmp 2] Q) (argsFr args) h) : AC Tryz.prog 81 args h Q :=
  AC.of_wpc mixedOrders Tryz.func81 (by kernel_rfl) (by kernel_rfl : prepF Tryz.prog Tryz.f81 = some ⟨22, [.tmp 2], b_laws_toStringS⟩) hl hk

theorem toStringS_ac {h : H} {v : Value} {l : List (List UInt8)} (hv : Sl h v 1 (strs l)) (hn : l.length ≤ 1048576) : AC Tryz.prog 81 [v] h fun v' h' => Ext h h' ∧ Fre h h' v' 1 (strs l) := by
  rw [strs_map] at hv ⊢
  exact w_laws_toStringS (by simp) (to1_wpc hv (by omega) (by simpa using hn) (fun x hx => by obtain ⟨n, _, rfl⟩ := List.mem_map.1 hx; exact ⟨rfl, rfl⟩) fun _ _ e o => ⟨e, o⟩)
/-- laws.eqStringS -/
def b_laws_eqStringS : C := (.seq (.ops [q 4 (.mv (.c (.bool false)))])
 (.seq (.seq (.ops [q 6 (.mv (.t 0)), q 7 (.len (.t 6)), q 8 (.mv (.t 1)), q 9 (.len (.t 8)), q 10 (.bin .neq (.t 7) (.t 9))])
 (.cond (.t 10) (.seq (.ops [q 4 (.mv (.c (.bool false)))])
 .ret) .skip))
 (.seq (.seq (.ops [q 5 (.mv (.c (i64 0)))])
 (.block 0 (.loop (.seq (.seq (.ops [q 11 (.mv (.t 5)), q 12 (.mv (.t 0)), q 13 (.len (.t 12)), q 14 (.bin .lss (.t 11) (.t 13))])
 (.cond (.t 14) .skip (.exit 0)))
 (.seq (.block 1 (.seq (.dops true (.tk (q 17 (.mv (.t 0))) (.tk (q 18 (.mv (.t 5))) (.tk (q 19 (.idx 1 (.t 17) (.t 18))) (.tk (q 20 (.ld false 1 (.t 19))) (.tk (q 21 (.mv (.t 1))) (.tk (q 22 (.mv (.t 5))) (.tk (q 23 (.idx 1 (.t 21) (.t 22))) (.tk (q 24 (.ld false 1 (.t 23))) (.tk (q 25 (.bin .neq (.t 20) (.t 24))) .nil))))))))))
 (.cond (.t 25) (.seq (.ops [q 4 (.mv (.c (.bool false)))])
 .ret) .skip)))
 (.ops [q 15 (.mv (.t 5)), q 16 (.bin .add (.t 15) (.c (i64 1))), q 5 (.mv (.t 16))]))))))
 (.seq (.ops [q 4 (.mv (.c (.bool true)))])
 .ret))))
theorem w_laws_eqStringS {args : List Value} {h : H} {Q : Value → H → Prop} (hl : args.length ≤ 26) (hk : wpc Tryz.prog b_laws_eqStringS (retw [.tmp 4] Q) (argsFr args) h) : AC Tryz.prog 54 args h Q :=
  AC.of_wpc mixedOrders Tryz.func54 (by kernel_rfl) (by kernel_rfl : prepF Tryz.prog Tryz.f54 = some ⟨26, [.tmp 4], b_laws_eqStringS⟩) hl hk

theorem eqStringS_pc {h : H} {v1 v2 : Value} {l1 l2 : List (List UInt8)} (hv : Sl h v1 1 (strs l1)) (hu : Sl h v2 1 (strs l2)) (hn : l1.length ≤ maxLen) : PC Tryz.prog 54 [v1, v2] h (.bool (decide (l1 = l2))) :=
  w_laws_eqStringS (by simp) (eq1_wpc hv hu hn neq_strv ⟨rfl, rfl⟩)
end Go.Proofs.YtiokibikhanfcaaGreat
