/- A helper of this seat's claims (contracts of the functions): what it shows is shown for every input that its statements name, on no other condition. -/
import Derived.Test.YthjbhdmjfakfaaaGreatDoorC08p
import Derived.Test.YthjbhdmjfakfaaaGreatDoorMC11q
set_option linter.unusedVariables false
set_option linter.unusedSimpArgs false
set_option maxRecDepth 100000
namespace Go.Proofs.YthjbhdmjfakfaaaGreatDoor
open Go.KH

/-! ## Packages read -/
def manyI (t : List UInt8) (a : Nat) (bad : Bool) : Int × Nat × Bool := if (numI t a bad).2.2 = false ∧ 0 ≤ (numI t a bad).1 ∧ (numI t a bad).1 ≤ 20 then ((numI t a bad).1, (numI t a bad).2.1, false) else (0, (numI t a bad).2.1, true)
theorem manyI_in {t : List UInt8} {a e : Nat} {bad bd : Bool} {n : Int} (h : manyI t a bad = (n, e, bd)) : 0 ≤ n ∧ n ≤ 20 := by
  unfold manyI at h
  split at h
  · rename_i q; simp only [Prod.mk.injEq] at h; rw [← h.1]; exact q.2
  · simp only [Prod.mk.injEq] at h; omega
theorem manyI_inv {t : List UInt8} {a e : Nat} {b : Bool} {n : Int} (h : manyI t a b = (n, e, false)) : b = false ∧ getN t a = (n, e, 0) := by
  unfold manyI at h
  split at h
  · rename_i q
    simp only [Prod.mk.injEq, and_true] at h
    exact numI_inv (by rw [← h.1, ← h.2, ← q.1])
  · simp at h
theorem pk_some {i d : List UInt8} {k m : Int} {a1 a2 a3 e : Nat} {c1 c2 bad : Bool} {l : List UStep} (e1 : numI i 0 false = (k, a1, c1)) (e2 : textI i a1 c1 = (d, a2, c2)) (e3 : manyI i a2 c2 = (m, a3, false)) (h4 : rdS i m.toNat a3 = (l, e, bad)) :
    pkgIn i = if (e = i.length ∧ bad = false) ∧ pkgOk ⟨k, d, l⟩ then some ⟨k, d, l⟩ else none := by
  have hm := manyI_in e3
  obtain ⟨rfl, q3⟩ := manyI_inv e3
  obtain ⟨rfl, q2⟩ := textI_inv e2
  obtain ⟨_, q1⟩ := numI_inv e1
  rw [pkgIn_of q1 q2 q3 h4]
  simp only [hm, true_and, and_self]
theorem pk_bad {i d : List UInt8} {k m : Int} {a1 a2 a3 : Nat} {c1 c2 : Bool} (e1 : numI i 0 false = (k, a1, c1)) (e2 : textI i a1 c1 = (d, a2, c2)) (e3 : manyI i a2 c2 = (m, a3, true)) : pkgIn i = none := by
  by_cases h : (getN i 0).2.2 = 0 ∧ (getT i (getN i 0).2.1).2.2 = 0 ∧ (getN i (getT i (getN i 0).2.1).2.1).2.2 = 0
  · obtain ⟨h1, h2, h3⟩ := h
    have q1 : getN i 0 = ((getN i 0).1, (getN i 0).2.1, 0) := Prod.ext rfl (Prod.ext rfl h1)
    have q2 : getT i (getN i 0).2.1 = ((getT i (getN i 0).2.1).1, (getT i (getN i 0).2.1).2.1, 0) := Prod.ext rfl (Prod.ext rfl h2)
    have q3 : getN i (getT i (getN i 0).2.1).2.1 = ((getN i (getT i (getN i 0).2.1).2.1).1, (getN i (getT i (getN i 0).2.1).2.1).2.1, 0) := Prod.ext rfl (Prod.ext rfl h3)
    rw [numI_ok _ q1] at e1
    simp only [Prod.mk.injEq] at e1
    obtain ⟨rfl, rfl, rfl⟩ := e1
    rw [textI_ok _ q2] at e2
    simp only [Prod.mk.injEq] at e2
    obtain ⟨rfl, rfl, rfl⟩ := e2
    generalize h4 : rdS i (getN i (getT i (getN i 0).2.1).2.1).1.toNat (getN i (getT i (getN i 0).2.1).2.1).2.1 = q4
    obtain ⟨l, e, b⟩ := q4
    rw [pkgIn_of q1 q2 q3 h4]
    rw [if_neg]
    rintro ⟨hm, _⟩
    unfold manyI at e3
    rw [numI_ok _ q3, if_pos ⟨rfl, hm⟩] at e3
    simp at e3
  · exact pkgIn_no h
/-- (*impl.reader).many -/
def b_impl_reader_many : C := (.seq (.ops [q 4 (.mv (.c (i64 0)))])
 (.seq (.ops [q 6 (.mv (.t 0)), ⟨(some 7), none, .call (.c (.func (.func 107) #[] #[])) [(.t 6)]⟩, q 5 (.mv (.t 7))])
 (.seq (.seq (.ops [q 8 (.mv (.t 5)), q 9 (.mv (.t 1)), ⟨(some 10), none, .call (.c (.func (.func 140) #[] #[])) [(.t 8), (.c (i64 0)), (.t 9)]⟩, q 11 (.un .not (.t 10))])
 (.cond (.t 11) (.ops [q 12 (.mv (.t 0)), q 13 (.nck (.t 12)), q 14 (.fld 2 (.t 13)), ⟨none, none, .st 1 (.t 14) (.c (.bool true))⟩]) .skip))
 (.seq (.seq (.ops [q 15 (.mv (.t 0)), q 16 (.nck (.t 15)), q 17 (.fld 2 (.t 16)), q 18 (.ld false 1 (.t 17))])
 (.cond (.t 18) (.seq (.ops [q 4 (.mv (.c (i64 0)))])
 .ret) .skip))
 (.seq (.ops [q 19 (.mv (.t 5)), q 4 (.mv (.t 19))])
 .ret)))))
theorem w_impl_reader_many {args : List Value} {h : H} {Q : Value → H → Prop} (hl : args.length ≤ 20) (hk : wpc Tryz.prog b_impl_reader_many (retw [.tmp 4] Q) (argsFr args) h) : AC Tryz.prog 109 args h Q :=
  AC.of_wpc mixedOrders Tryz.func109 (by kernel_rfl) (by kernel_rfl : prepF Tryz.prog Tryz.f109 = some ⟨20, [.tmp 4], b_impl_reader_many⟩) hl hk

theorem rmany_ac {h : H} {b z a : Nat} {t : List UInt8} {bad : Bool} (hb : h.base ≤ b) (hg : h.get b = some ⟨rdc t a bad, z⟩) (ht : t.length ≤ 1048576) (ha : a ≤ 1048576) : AC Tryz.prog 109 [ptr b 0, i64 20] h fun r h' =>
    r = i64 (manyI t a bad).1 ∧ h' = h.set b ⟨rdc t (manyI t a bad).2.1 (manyI t a bad).2.2, z⟩ := by
  unfold manyI
  refine w_impl_reader_many (by simp) ?_
  unfold b_impl_reader_many
  simp -implicitDefEqProofs only [go_sem]
  refine AC_of (rnum_ac hb hg ht ha) ?_
  rintro _ _ - ⟨rfl, rfl⟩
  generalize numI t a bad = n
  obtain ⟨n, e, bd⟩ := n
  simp -implicitDefEqProofs only [go_sem]
  refine (within_pc _ _ _ _).use ?_
  by_cases hw : 0 ≤ n ∧ n ≤ 20
  · simp -implicitDefEqProofs only [go_sem, hw, hb]
    cases bd
    · simp -implicitDefEqProofs only [go_sem, hb]
      simp [hw]
    · simp -implicitDefEqProofs only [go_sem, hb]
  · simp -implicitDefEqProofs only [go_sem, hw, hb]
theorem rmany {h : H} {b z a e : Nat} {t : List UInt8} {bad bd : Bool} {n : Int} (hn : manyI t a bad = (n, e, bd)) (hb : h.base ≤ b) (hg : h.get b = some ⟨rdc t a bad, z⟩) (ht : t.length ≤ 1048576) (ha : a ≤ 1048576) : AC Tryz.prog 109 [ptr b 0, i64 20] h fun r h' =>
    r = i64 n ∧ h' = h.set b ⟨rdc t e bd, z⟩ := by have := rmany_ac hb hg ht ha; rw [hn] at this; exact this
/-- impl.packageRead -/
def b_impl_packageRead : C := (.seq (.ops [⟨(some 2), none, .alloc [(i64 0), (str []), nils]⟩, q 3 (.mv (.c (i64 0)))])
 (.seq (.ops [q 12 (.mv (.t 0)), ⟨(some 13), none, .call (.c (.func (.func 106) #[] #[])) [(.t 12)]⟩, q 11 (.mv (.t 13)), q 14 (.ext 0 (.t 11)), q 15 (.ext 1 (.t 11)), q 4 (.mv (.t 14)), q 5 (.mv (.t 15))])
 (.seq (.seq (.ops [q 16 (.mv (.t 5)), q 17 (.bin .neq (.t 16) (.c (i64 0)))])
 (.cond (.t 17) (.seq (.ops [q 18 (.build [(i64 0), (str []), nils] []), q 19 (.mv (.t 5)), ⟨none, none, .st 3 (.t 2) (.t 18)⟩, q 3 (.mv (.t 19))])
 .ret) .skip))
 (.seq (.ops [q 20 (.mv (.t 4)), q 21 (.build [(str []), (i64 0), (.bool false)] [(0, 1, (.t 20))]), ⟨(some 22), none, .box (.t 21)⟩, q 6 (.mv (.t 22))])
 (.seq (.ops [q 23 (.mv (.t 6)), ⟨(some 24), none, .call (.c (.func (.func 107) #[] #[])) [(.t 23)]⟩, q 25 (.mv (.t 6)), ⟨(some 26), none, .call (.c (.func (.func 108) #[] #[])) [(.t 25)]⟩, q 27 (.build [(i64 0), (str []), nils] [(0, 1, (.t 24)), (1, 1, (.t 26))]), ⟨(some 7), none, .alloc [(i64 0), (str []), nils]⟩, ⟨none, none, .st 3 (.t 7) (.t 27)⟩])
 (.seq (.seq (.ops [q 28 (.mv (.t 6)), ⟨(some 29), none, .call (.c (.func (.func 109) #[] #[])) [(.t 28), (.c (i64 20))]⟩, q 8 (.mv (.t 29))])
 (.block 0 (.loop (.seq (.seq (.ops [q 30 (.mv (.t 8)), q 31 (.bin .gtr (.t 30) (.c (i64 0))), q 32 (.mv (.t 31)), qg 33 32 true (.mv (.t 6)), qg 34 32 true (.nck (.t 33)), qg 35 32 true (.fld 2 (.t 34)), qg 36 32 true (.ld false 1 (.t 35)), qg 37 32 true (.un .not (.t 36)), q 38 (.pick (.t 32) (.t 37) (.c (.bool false)))])
 (.cond (.t 38) .skip (.exit 0)))
 (.seq (.block 1 (.seq (.ops [q 42 (.mv (.t 6)), ⟨(some 43), none, .call (.c (.func (.func 108) #[] #[])) [(.t 42)]⟩, ⟨(some 44), none, .call (.c (.func (.func 110) #[] #[])) [(.t 43)]⟩, q 41 (.mv (.t 44)), q 45 (.ext 0 (.t 41)), q 46 (.ext 1 (.t 41)), ⟨(some 9), none, .alloc [(i64 0), (i64 0), (i64 0), (str [])]⟩, ⟨none, none, .st 4 (.t 9) (.t 45)⟩, q 10 (.mv (.t 46))])
 (.seq (.seq (.ops [q 47 (.mv (.t 10)), q 48 (.un .not (.t 47))])
 (.cond (.t 48) (.ops [q 49 (.mv (.t 6)), q 50 (.nck (.t 49)), q 51 (.fld 2 (.t 50)), ⟨none, none, .st 1 (.t 51) (.c (.bool true))⟩]) .skip))
 (.ops [q 52 (.fld 2 (.t 7)), q 53 (.ld false 1 (.t 52)), q 54 (.ld true 4 (.t 9)), ⟨(some 55), none, .bsl 1 [(i64 0), (i64 0), (i64 0), (str [])] [(0, 4, (.t 54))]⟩, ⟨(some 56), none, .app 4 40 (.t 53) (.t 55)⟩, q 57 (.fld 2 (.t 7)), ⟨none, none, .st 1 (.t 57) (.t 56)⟩]))))
 (.ops [q 39 (.mv (.t 8)), q 40 (.bin .sub (.t 39) (.c (i64 1))), q 8 (.mv (.t 40))]))))))
 (.seq (.seq (.ops [q 58 (.mv (.t 6)), q 59 (.nck (.t 58)), q 60 (.fld 2 (.t 59)), q 61 (.ld false 1 (.t 60)), q 62 (.mv (.t 61)), qg 63 62 false (.mv (.t 6)), qg 64 62 false (.nck (.t 63)), qg 65 62 false (.fld 1 (.t 64)), qg 66 62 false (.ld false 1 (.t 65)), qg 67 62 false (.mv (.t 4)), qg 68 62 false (.slen (.t 67)), qg 69 62 false (.bin .neq (.t 66) (.t 68)), q 70 (.pick (.t 62) (.c (.bool true)) (.t 69)), q 71 (.mv (.t 70)), qg 72 71 false (.ld true 3 (.t 7)), ⟨(some 73), (some (71, false)), .call (.c (.func (.func 39) #[] #[])) [(.t 72)]⟩, qg 74 71 false (.un .not (.t 73)), q 75 (.pick (.t 71) (.c (.bool true)) (.t 74))])
 (.cond (.t 75) (.seq (.ops [q 76 (.build [(i64 0), (str []), nils] []), ⟨none, none, .st 3 (.t 2) (.t 76)⟩, q 3 (.mv (.c (i64 3)))])
 .ret) .skip))
 (.seq (.ops [q 77 (.ld true 3 (.t 7)), ⟨none, none, .st 3 (.t 2) (.t 77)⟩, q 3 (.mv (.c (i64 0)))])
 .ret))))))))
theorem w_impl_packageRead {args : List Value} {h : H} {Q : Value → H → Prop} (hl : args.length ≤ 78) (hk : wpc Tryz.prog b_impl_packageRead (retw [.cell 2 true 3, .tmp 3] Q) (argsFr args) h) : AC Tryz.prog 47 args h Q :=
  AC.of_wpc mixedOrders Tryz.func47 (by kernel_rfl) (by kernel_rfl : prepF Tryz.prog Tryz.f47 = some ⟨78, [.cell 2 true 3, .tmp 3], b_impl_packageRead⟩) hl hk

set_option maxHeartbeats 800000 in
theorem packageRead_ac {h : H} {t : List UInt8} (ht : t.length ≤ 8000) : AC Tryz.prog 47 [str t] h fun r h' => Ext h h' ∧ ∃ v, r = .tuple #[.agg #[i64 (pkgR t).1.blocks, str (pkgR t).1.digest, v], i64 (pkgR t).2] ∧ Fre h h' v 4 ((pkgR t).1.steps.map UStep.cells) := by
  have hul := unsealB_len t
  obtain ⟨i, c, hu⟩ : ∃ i c, unsealB t = (i, c) := ⟨_, _, rfl⟩
  unfold pkgR
  rw [hu] at hul ⊢
  rw [if_neg (by omega)]
  simp only at hul ⊢
  refine w_impl_packageRead (by simp) ?_
  unfold b_impl_packageRead
  simp -implicitDefEqProofs only [go_sem]
  intro b2 hb_b2 n_b2
  simp -implicitDefEqProofs only [go_sem, hb_b2]
  refine (unseal_pc _ t (by omega)).use ?_
  rw [hu]
  simp only
  by_cases hc : c = 0
  rotate_left
  · rw [if_neg hc]
    simp -implicitDefEqProofs only [go_sem, hc, show ¬ ((c : Int) = 0) by omega, hb_b2]
    exact ⟨((Ext.refl _).set' n_b2 _), nils, rfl, .inl ⟨none, 0, rfl, rfl⟩⟩
  subst hc
  rw [if_pos rfl]
  have hi : i.length ≤ 8000 := by omega
  simp -implicitDefEqProofs only [go_sem, show ((0 : Nat) : Int) = 0 from rfl, hb_b2]
  intro b6 hb_b6 m0_b6
  obtain ⟨z_b6_b2, y_b6_b2, n_b6⟩ := fne m0_b6
  simp only [H.set_base] at hb_b6
  simp -implicitDefEqProofs only [go_sem, hb_b2, hb_b6, z_b6_b2, y_b6_b2]
  obtain ⟨k, a1, c1, e1⟩ : ∃ k a1 c1, numI i 0 false = (k, a1, c1) := ⟨_, _, _, rfl⟩
  obtain ⟨d, a2, c2, e2⟩ : ∃ k a2 c2, textI i a1 c1 = (k, a2, c2) := ⟨_, _, _, rfl⟩
  obtain ⟨m, a3, c3, e3⟩ : ∃ k a3 c3, manyI i a2 c2 = (k, a3, c3) := ⟨_, _, _, rfl⟩
  have l1 := numI_eq (B := 8000) e1 (by omega) hi
  have l2 := textI_eq e2 l1 hi
  have l3 : a3 ≤ 8000 := by
    have := numI_le (bad := c2) l2 hi
    unfold manyI at e3
    split at e3 <;> (simp only [Prod.mk.injEq] at e3; omega)
  refine AC_of (rnum e1 (by simp only [H.set_base]; assumption) (H.set_get_same _ _ _) (by omega) (by omega)) ?_
  rintro _ _ - ⟨rfl, rfl⟩
  rw [H.set_set]
  simp -implicitDefEqProofs only [go_sem, hb_b2, hb_b6, z_b6_b2, y_b6_b2]
  refine AC_of (rword e2 (by simp only [H.set_base]; assumption) (H.set_get_same _ _ _) (by omega) (by omega)) ?_
  rintro _ _ - ⟨rfl, rfl⟩
  rw [H.set_set]
  simp -implicitDefEqProofs only [go_sem, hb_b2, hb_b6, z_b6_b2, y_b6_b2]
  intro b7 hb_b7 m0_b7
  obtain ⟨z_b7_b6, y_b7_b6, m1_b7⟩ := fne m0_b7
  obtain ⟨z_b7_b2, y_b7_b2, n_b7⟩ := fne m1_b7
  simp only [H.set_base] at hb_b7
  have y76 := of_eq_false y_b7_b6
  have z76 := of_eq_false z_b7_b6
  simp -implicitDefEqProofs only [go_sem, hb_b2, hb_b6, z_b6_b2, y_b6_b2, hb_b7, z_b7_b6, y_b7_b6, z_b7_b2, y_b7_b2]
  refine AC_of (rmany e3 (by simp only [H.set_base]; assumption) (by rw [H.set_get_ne _ _ _ _ y76]; exact H.set_get_same _ _ _) (by omega) (by omega)) ?_
  rintro _ _ - ⟨rfl, rfl⟩
  rw [set_over z76]
  simp -implicitDefEqProofs only [go_sem, hb_b2, hb_b6, z_b6_b2, y_b6_b2, hb_b7, z_b7_b6, y_b7_b6, z_b7_b2, y_b7_b2]
  have hm0 := manyI_in e3
  obtain ⟨M, rfl⟩ : ∃ M : Nat, m = M := ⟨m.toNat, by omega⟩
  have z1 := of_eq_false z_b6_b2
  have z2 := of_eq_false z_b7_b2
  generalize hhB : ((h.set b2 ⟨_, _⟩).set b6 ⟨_, _⟩).set b7 ⟨_, _⟩ = hB
  have B2 : hB.get b2 = some ⟨[i64 0, str [], nils], 3⟩ := by rw [← hhB]; simp -implicitDefEqProofs only [go_sem, hb_b2, hb_b6, z_b6_b2, y_b6_b2, hb_b7, z_b7_b6, y_b7_b6, z_b7_b2, y_b7_b2]
  have B6 : hB.get b6 = some ⟨rdc i a3 c3, 3⟩ := by rw [← hhB]; simp -implicitDefEqProofs only [go_sem, hb_b2, hb_b6, z_b6_b2, y_b6_b2, hb_b7, z_b7_b6, y_b7_b6, z_b7_b2, y_b7_b2]
  have B7 : hB.get b7 = some ⟨[i64 k, str d, nils], 3⟩ := by rw [← hhB]; simp -implicitDefEqProofs only [go_sem, hb_b2, hb_b6, z_b6_b2, y_b6_b2, hb_b7, z_b7_b6, y_b7_b6, z_b7_b2, y_b7_b2]
  have eB : Ext h hB := by rw [← hhB]; exact ((((Ext.refl _).set' n_b2 _).set' n_b6 _).set' n_b7 _)
  refine loopW_of (fun mm f h' => ∃ (acc : List UStep) (a' : Nat) (bad' : Bool) (u : Value), f 2 = ptr b2 0 ∧ f 4 = str i ∧ f 6 = ptr b6 0 ∧ f 7 = ptr b7 0 ∧ f 8 = i64 mm ∧ Ext h h' ∧ h'.get b2 = some ⟨[i64 0, str [], nils], 3⟩ ∧ h'.get b6 = some ⟨rdc i a' bad', 3⟩ ∧ h'.get b7 = some ⟨[i64 k, str d, u], 3⟩ ∧
      (∀ b, h'.get b = none → hB.get b = none) ∧ Own hB h' u 4 (acc.map UStep.cells) ∧ a' ≤ 8000 ∧ acc.length + mm ≤ 20 ∧ (bad' = false → c3 = false ∧ rdS i M a3 = (acc ++ (rdS i mm a').1, (rdS i mm a').2)) ∧ (bad' = true → c3 = true ∨ (rdS i M a3).2.2 = true)) M
    ⟨[], a3, c3, nils, by simp -implicitDefEqProofs only [go_sem, hb_b2, hb_b6, z_b6_b2, y_b6_b2, hb_b7, z_b7_b6, y_b7_b6, z_b7_b2, y_b7_b2], by simp -implicitDefEqProofs only [go_sem, hb_b2, hb_b6, z_b6_b2, y_b6_b2, hb_b7, z_b7_b6, y_b7_b6, z_b7_b2, y_b7_b2], by simp -implicitDefEqProofs only [go_sem, hb_b2, hb_b6, z_b6_b2, y_b6_b2, hb_b7, z_b7_b6, y_b7_b6, z_b7_b2, y_b7_b2], by simp -implicitDefEqProofs only [go_sem, hb_b2, hb_b6, z_b6_b2, y_b6_b2, hb_b7, z_b7_b6, y_b7_b6, z_b7_b2, y_b7_b2], by simp -implicitDefEqProofs only [go_sem, hb_b2, hb_b6, z_b6_b2, y_b6_b2, hb_b7, z_b7_b6, y_b7_b6, z_b7_b2, y_b7_b2], eB, B2, B6, B7, fun _ e => e, Own.nil _ _ _, l3, by simp; omega, fun h => ⟨h, by simp⟩, fun h => .inl h⟩ ?_
  clear hhB
  skip
  rintro mm f h' ⟨acc, a', bad', u, f2, f4, f6, f7, f8, he, g2, g6, g7, hno, ho, la, lc, hF, hT⟩
  obtain ⟨au, cu, rfl⟩ := ho.shape
  rw [List.length_map] at ho g7
  have hb2' : h'.base ≤ b2 := by rw [he.1]; exact hb_b2
  have hb6' : h'.base ≤ b6 := by rw [he.1]; exact hb_b6
  have hb7' : h'.base ≤ b7 := by rw [he.1]; exact hb_b7
  skip
  have bad : (c3 = true ∨ (rdS i M a3).2.2 = true) → pkgIn i = none := by
    rintro (rfl | hr)
    · exact pk_bad e1 e2 e3
    · cases c3 with
      | true => exact pk_bad e1 e2 e3
      | false =>
        generalize hq : rdS i M a3 = q4 at hr
        obtain ⟨l, e, b⟩ := q4
        simp only at hr
        subst hr
        rw [pk_some e1 e2 e3 (by simpa using hq)]
        rw [if_neg (by simp)]
  have fbad : pkgIn i = none → Ext h (h'.set b2 ⟨[i64 0, str [], nils], 3⟩) ∧ ∃ v, (Value.tuple #[.agg #[i64 0, str [], nils], i64 3]) = .tuple #[.agg #[i64 (match pkgIn i with | some p => (p, (0 : Int)) | none => (pkg0, 3)).1.blocks, str (match pkgIn i with | some p => (p, (0 : Int)) | none => (pkg0, 3)).1.digest, v], i64 (match pkgIn i with | some p => (p, (0 : Int)) | none => (pkg0, 3)).2] ∧ Fre h (h'.set b2 ⟨[i64 0, str [], nils], 3⟩) v 4 ((match pkgIn i with | some p => (p, (0 : Int)) | none => (pkg0, 3)).1.steps.map UStep.cells) := fun hp => by
    rw [hp]
    exact ⟨he.set' n_b2 _, nils, rfl, .inl ⟨none, 0, rfl, rfl⟩⟩
  by_cases hgo : 0 < mm ∧ bad' = false
  rotate_left
  · cases bad' with
    | true =>
      by_cases hmm : 0 < mm
      · simp -implicitDefEqProofs only [go_sem, show (0 : Int) < (mm : Int) by omega, ldc_get g6, ldc_get g2, stc_get g2, hb2', f2, f4, f6, f7, f8]
        exact fbad (bad (hT rfl))
      · simp -implicitDefEqProofs only [go_sem, show ¬ (0 : Int) < (mm : Int) by omega, ldc_get g6, ldc_get g2, stc_get g2, hb2', f2, f4, f6, f7, f8]
        exact fbad (bad (hT rfl))
    | false =>
      have hm : mm = 0 := by simpa using hgo
      subst hm
      obtain ⟨rfl, hr⟩ := hF rfl
      rw [rdS_0] at hr
      simp only [List.append_nil] at hr
      have hpk := pk_some e1 e2 e3 (l := acc) (e := a') (bad := false) (by simpa using hr)
      have st3 : Sl h' (.slice au acc.length cu) 4 (acc.map UStep.cells) := ho.sl
      by_cases he1 : a' = i.length
      rotate_left
      · simp -implicitDefEqProofs only [go_sem, show ¬ (0 : Int) < ((0 : Nat) : Int) by decide, ldc_get g6, ldc_get g2, stc_get g2, hb2', show ¬ ((a' : Int) = (i.length : Int)) by omega, f2, f4, f6, f7, f8]
        exact fbad (by rw [hpk, if_neg (fun q => he1 q.1.1)])
      have he2 : ((a' : Int) ≠ (i.length : Int)) = False := eq_false fun h => h (by omega)
      have he3 : decide ((a' : Int) = (i.length : Int)) = true := decide_eq_true (by omega)
      simp -implicitDefEqProofs only [go_sem, show ¬ (0 : Int) < ((0 : Nat) : Int) by decide, ldc_get g6, he2, he3, ldc_get g7, f2, f4, f6, f7, f8]
      refine PC.use (isPackage_pc (p := ⟨k, d, acc⟩) (pkg_r.2 ⟨_, rfl, st3⟩) (by simp only; omega)) ?_
      by_cases hok : pkgOk ⟨k, d, acc⟩
      rotate_left
      · simp -implicitDefEqProofs only [go_sem, hok, ldc_get g2, stc_get g2, hb2', f2, f4, f6, f7, f8]
        exact fbad (by rw [hpk, if_neg (fun q => hok q.2)])
      rw [if_pos ⟨⟨he1, rfl⟩, hok⟩] at hpk
      simp -implicitDefEqProofs only [go_sem, hok, ldc_get g2, stc_get g2, hb2', ldc_get g7, f2, f4, f6, f7, f8]
      rw [hpk]
      exact ⟨he.set' n_b2 _, _, rfl, ((Own.set0 ho (b := b2) (by rw [B2]; simp) _).fre).back eB⟩
  obtain ⟨hmm, rfl⟩ := hgo
  obtain ⟨mm, rfl⟩ : ∃ n, mm = n + 1 := ⟨mm - 1, by omega⟩
  obtain ⟨hc3, hr⟩ := hF rfl
  obtain ⟨w, e, bd, hw⟩ : ∃ w e bd, textI i a' false = (w, e, bd) := ⟨_, _, _, rfl⟩
  have le := textI_eq (B := 8000) hw la hi
  have lw : w.length ≤ 8000 := by
    unfold textI at hw
    split at hw
    · rename_i q
      simp only [Prod.mk.injEq] at hw
      have := (getT_ok (x := (getT i a').1) (e := (getT i a').2.1) (t := i) (a := a') (Prod.ext rfl (Prod.ext rfl q))).2.2.2
      rw [hw.1] at this; exact this
    · simp only [Prod.mk.injEq] at hw; rw [← hw.1]; simp
  simp -implicitDefEqProofs only [go_sem, show (0 : Int) < ((mm + 1 : Nat) : Int) by omega, ldc_get g6, f2, f4, f6, f7, f8]
  refine AC_of (rword hw hb6' g6 (by omega) (by omega)) ?_
  rintro _ _ - ⟨rfl, rfl⟩
  simp -implicitDefEqProofs only [go_sem, f2, f4, f6, f7, f8]
  refine (implStepR_pc _ w lw).use ?_
  simp -implicitDefEqProofs only [go_sem, f2, f4, f6, f7, f8]
  have w76 : b7 ≠ b6 := fun q => y76 q.symm
  have w62 : b6 ≠ b2 := z1
  have w72 : b7 ≠ b2 := z2
  have z76' : (b7 = b6) = False := eq_false w76
  have z67' : (b6 = b7) = False := eq_false y76
  have n2 : hB.get b2 ≠ none := by rw [B2]; simp
  have n6 : hB.get b6 ≠ none := by rw [B6]; simp
  have n7 : hB.get b7 ≠ none := by rw [B7]; simp
  cases hs : stepR w with
  | some s =>
    have hbd := textI_nobad hw hs
    subst hbd
    have hgo := rdS_go (n := mm) hw hs
    rw [hgo] at hr
    simp -implicitDefEqProofs only [go_sem, Option.getD_some, Option.isSome_some, f2, f4, f6, f7, f8]
    intro b9 hb9 n9
    obtain ⟨z9, y9, n9'⟩ := fne n9
    have v79 : (b7 = b9) = False := eq_false fun q => by rw [q, n9'] at g7; cases g7
    have u29 : b2 ≠ b9 := fun q => by rw [q, n9'] at g2; cases g2
    have u69 : b6 ≠ b9 := fun q => by rw [q, n9'] at g6; cases g6
    have u79 : b7 ≠ b9 := of_eq_false v79
    have n9B := hno _ n9'
    simp only [H.set_base] at hb9
    simp -implicitDefEqProofs only [go_sem, Option.getD_some, Option.isSome_some, z76', z67', z9, y9, v79, ldc_get g7, hb9, f2, f4, f6, f7, f8]
    intro bx hbx nx
    obtain ⟨_, _, nx1⟩ := fne nx
    obtain ⟨_, _, nx'⟩ := fne nx1
    simp -implicitDefEqProofs only [go_sem, hbx, f2, f4, f6, f7, f8]
    have ee : Ext h ((h'.set b6 ⟨rdc i e false, 3⟩).set b9 ⟨UStep.cells s, 4⟩) := (he.set' n_b6 _).set' (he.none n9') _
    refine appW_keep (h0 := hB) (rows := acc.map UStep.cells) (new := [UStep.cells s]) (none_set (none_set (none_set hno _ _) _ _) _ _) (((Own.set0 ho n6 _).ext ((Ext.refl _).set (by rw [H.set_get_ne _ _ _ _ u69.symm]; exact n9') _)).ext ((Ext.refl _).set nx _)) (by simp -implicitDefEqProofs only [go_sem, f2, f4, f6, f7, f8]; rfl) (by intro r hr; simp at hr; subst hr; rfl) rfl (by simp; omega) ?_
    intro v' h2 k2 o2
    obtain ⟨av, cv, rfl⟩ := o2.shape
    have x1 : b2 ≠ bx := fun q => by rw [q, nx'] at g2; cases g2
    have x2 : b6 ≠ bx := fun q => by rw [q, nx'] at g6; cases g6
    have x3 : b7 ≠ bx := fun q => by rw [q, nx'] at g7; cases g7
    have p2 := k2.2.1 b2 _ n2 (by rw [H.set_get_ne _ _ _ _ x1, H.set_get_ne _ _ _ _ u29, H.set_get_ne _ _ _ _ (Ne.symm w62)]; exact g2)
    have p6 := k2.2.1 b6 _ n6 (by rw [H.set_get_ne _ _ _ _ x2, H.set_get_ne _ _ _ _ u69]; exact H.set_get_same _ _ _)
    have p7 := k2.2.1 b7 _ n7 (by rw [H.set_get_ne _ _ _ _ x3, H.set_get_ne _ _ _ _ u79, H.set_get_ne _ _ _ _ w76]; exact g7)
    have e2 := k2.ext (ee.set nx _) (fun b hb => eB.none hb) (fun _ h => h.elim)
    have hb2 : h2.base = h'.base := by rw [k2.1]; simp only [H.set_base]
    simp -implicitDefEqProofs only [go_sem, stc_get p7, hb2, hb7', wrap_i64 (show -(9223372036854775808 : Int) ≤ ((mm : Nat) : Int) by omega) (show ((mm : Nat) : Int) < 9223372036854775808 by omega), show ((mm + 1 : Nat) : Int) - 1 = (mm : Int) by omega, f2, f4, f6, f7, f8]
    exact ⟨mm, by omega, _, Ext.refl _, acc ++ [s], e, false, _, rfl, e2.set' n_b7 _, by rw [H.set_get_ne _ _ _ _ (Ne.symm w72)]; exact p2, by rw [H.set_get_ne _ _ _ _ (Ne.symm w76)]; exact p6, H.set_get_same _ _ _,
      none_set (fun b hb => none_set (none_set (none_set hno _ _) _ _) _ _ b (k2.none hb)) _ _, by simpa using Own.set0 o2 n7 _, le, by simp; omega, fun _ => ⟨hc3, by rw [hr]; simp⟩, fun h => by cases h⟩
  | none =>
    have hgo := rdS_bad (n := mm) hw hs
    rw [hgo] at hr
    simp -implicitDefEqProofs only [go_sem, Option.getD_none, Option.isSome_none, f2, f4, f6, f7, f8]
    intro b9 hb9 n9
    obtain ⟨z9, y9, n9'⟩ := fne n9
    have v79 : (b7 = b9) = False := eq_false fun q => by rw [q, n9'] at g7; cases g7
    have u29 : b2 ≠ b9 := fun q => by rw [q, n9'] at g2; cases g2
    have u69 : b6 ≠ b9 := fun q => by rw [q, n9'] at g6; cases g6
    have u79 : b7 ≠ b9 := of_eq_false v79
    have n9B := hno _ n9'
    simp only [H.set_base] at hb9
    simp -implicitDefEqProofs only [go_sem, Option.getD_none, Option.isSome_none, z76', z67', z9, y9, v79, ldc_get g7, hb9, hb6', f2, f4, f6, f7, f8]
    intro bx hbx nx
    obtain ⟨_, _, nx1⟩ := fne nx
    obtain ⟨_, _, nx'⟩ := fne nx1
    simp -implicitDefEqProofs only [go_sem, hbx, f2, f4, f6, f7, f8]
    have ee : Ext h ((h'.set b6 ⟨rdc i e true, 3⟩).set b9 ⟨UStep.cells step0, 4⟩) := (he.set' n_b6 _).set' (he.none n9') _
    refine appW_keep (h0 := hB) (rows := acc.map UStep.cells) (new := [UStep.cells step0]) (none_set (none_set (none_set hno _ _) _ _) _ _) (((Own.set0 ho n6 _).ext ((Ext.refl _).set (by rw [H.set_get_ne _ _ _ _ u69.symm]; exact n9') _)).ext ((Ext.refl _).set nx _)) (by simp -implicitDefEqProofs only [go_sem, f2, f4, f6, f7, f8]; rfl) (by intro r hr; simp at hr; subst hr; rfl) rfl (by simp; omega) ?_
    intro v' h2 k2 o2
    obtain ⟨av, cv, rfl⟩ := o2.shape
    have x1 : b2 ≠ bx := fun q => by rw [q, nx'] at g2; cases g2
    have x2 : b6 ≠ bx := fun q => by rw [q, nx'] at g6; cases g6
    have x3 : b7 ≠ bx := fun q => by rw [q, nx'] at g7; cases g7
    have p2 := k2.2.1 b2 _ n2 (by rw [H.set_get_ne _ _ _ _ x1, H.set_get_ne _ _ _ _ u29, H.set_get_ne _ _ _ _ (Ne.symm w62)]; exact g2)
    have p6 := k2.2.1 b6 _ n6 (by rw [H.set_get_ne _ _ _ _ x2, H.set_get_ne _ _ _ _ u69]; exact H.set_get_same _ _ _)
    have p7 := k2.2.1 b7 _ n7 (by rw [H.set_get_ne _ _ _ _ x3, H.set_get_ne _ _ _ _ u79, H.set_get_ne _ _ _ _ w76]; exact g7)
    have e2 := k2.ext (ee.set nx _) (fun b hb => eB.none hb) (fun _ h => h.elim)
    have hb2 : h2.base = h'.base := by rw [k2.1]; simp only [H.set_base]
    simp -implicitDefEqProofs only [go_sem, stc_get p7, hb2, hb7', wrap_i64 (show -(9223372036854775808 : Int) ≤ ((mm : Nat) : Int) by omega) (show ((mm : Nat) : Int) < 9223372036854775808 by omega), show ((mm + 1 : Nat) : Int) - 1 = (mm : Int) by omega, f2, f4, f6, f7, f8]
    exact ⟨mm, by omega, _, Ext.refl _, acc ++ [step0], e, true, _, rfl, e2.set' n_b7 _, by rw [H.set_get_ne _ _ _ _ (Ne.symm w72)]; exact p2, by rw [H.set_get_ne _ _ _ _ (Ne.symm w76)]; exact p6, H.set_get_same _ _ _,
      none_set (fun b hb => none_set (none_set (none_set hno _ _) _ _) _ _ b (k2.none hb)) _ _, by simpa using Own.set0 o2 n7 _, le, by simp; omega, fun h => (by cases h), fun _ => .inr (by rw [hr])⟩
end Go.Proofs.YthjbhdmjfakfaaaGreatDoor
