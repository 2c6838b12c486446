/- A helper of this seat's claims (contracts of the functions): what it shows is shown for every input that its statements name, on no other condition. -/
import Derived.Test.YthjbhdmjfakfaaaGreatDoorMC0
import Derived.Test.YthjbhdmjfakfaaaGreatDoorCDt
import Derived.Test.YthjbhdmjfakfaaaGreatDoorC10s
set_option linter.unusedVariables false
set_option linter.unusedSimpArgs false
set_option maxRecDepth 100000
namespace Go.Proofs.YthjbhdmjfakfaaaGreatDoor
open Go.KH

/-! ## slices.Equal -/
end Go.Proofs.YthjbhdmjfakfaaaGreatDoor

set_option linter.unusedVariables false
set_option linter.unusedSimpArgs false
set_option maxRecDepth 100000
namespace Go.Proofs.YthjbhdmjfakfaaaGreatDoor
open Go.KH

/-! ## Images drawn -/
theorem strsW (l : List (List UInt8)) : Wid 1 (strs l) := strs_wid l
/-- (*spec.l01Src).l07Image -/
def b_spec_l01Src_l07Image : C := (.seq (.ops [q 4 (.mv (.c nils))])
 (.seq (.ops [⟨(some 6), none, .bsl 0 [] []⟩, q 5 (.mv (.t 6))])
 (.seq (.block 0 (.loop (.seq (.seq (.ops [q 7 (.mv (.t 1)), q 8 (.bin .gtr (.t 7) (.c (i64 0)))])
 (.cond (.t 8) .skip (.exit 0)))
 (.seq (.block 1 (.ops [q 11 (.mv (.t 5)), q 12 (.mv (.t 0)), ⟨(some 13), none, .call (.c (.func (.func 83) #[] #[])) [(.t 12)]⟩, ⟨(some 14), none, .bsl 1 [(str [])] [(0, 1, (.t 13))]⟩, ⟨(some 15), none, .app 1 16 (.t 11) (.t 14)⟩, q 5 (.mv (.t 15))]))
 (.ops [q 9 (.mv (.t 1)), q 10 (.bin .sub (.t 9) (.c (i64 1))), q 1 (.mv (.t 10))])))))
 (.seq (.ops [q 16 (.mv (.t 5)), q 4 (.mv (.t 16))])
 .ret))))
theorem w_spec_l01Src_l07Image {args : List Value} {h : H} {Q : Value → H → Prop} (hl : args.length ≤ 17) (hk : wpc Tryz.prog b_spec_l01Src_l07Image (retw [.tmp 4] Q) (argsFr args) h) : AC Tryz.prog 99 args h Q :=
  AC.of_wpc mixedOrders Tryz.func99 (by kernel_rfl) (by kernel_rfl : prepF Tryz.prog Tryz.f99 = some ⟨17, [.tmp 4], b_spec_l01Src_l07Image⟩) hl hk

theorem src_image {h : H} {b : Nat} {v : Value} {l : List UInt8} {n : Nat} (hs : Src v l h b) (hn : n ≤ 100) : AC Tryz.prog 99 [ptr b 0, i64 n] h fun r h' => (∃ T : List (List UInt8), T.length = n ∧ (∀ t ∈ T, t.length = 8) ∧ Own h h' r 1 (strs T)) ∧ Drew v l b h h' := by
  have hS : ∀ x, x = b → h.get x ≠ none := fun x e => by subst e; exact hs.known
  have hkn := hs.sl.known
  refine w_spec_l01Src_l07Image (by simp) ?_
  unfold b_spec_l01Src_l07Image
  simp -implicitDefEqProofs only [go_sem]
  intro b0 hb0 n0
  simp -implicitDefEqProofs only [go_sem]
  have e0 := (Ext.refl h).set n0 ⟨[], 0⟩
  refine loopW_of (fun m f h' => ∃ (acc : List (List UInt8)) (u : Value), m + acc.length = n ∧ f 0 = ptr b 0 ∧ f 1 = i64 m ∧ f 5 = u ∧ (∀ t ∈ acc, t.length = 8) ∧ Own h h' u 1 (strs acc) ∧ Drew v l b h h') n
    ⟨[], sl b0 0 0 0, by simp, by simp -implicitDefEqProofs only [go_sem], by simp -implicitDefEqProofs only [go_sem], by simp -implicitDefEqProofs only [go_sem], by simp, .inr ⟨b0, 0, 0, rfl, Nat.le_refl _, by simp only [H.set_base]; exact hb0, n0, H.set_get_same _ _ _, by simp, Wid.nil 1⟩, Drew.of_ext hs e0⟩ ?_
  rintro m f h' ⟨acc, u, hm, f0, f1, f5, hok, ho, D⟩
  obtain ⟨au, cu, rfl⟩ := ho.shape
  rw [show (strs acc).length = acc.length by simp] at ho f5
  by_cases hp : 0 < m
  rotate_left
  · have : m = 0 := by omega
    subst this
    simp -implicitDefEqProofs only [go_sem, f0, f1, f5, show ¬ (0 : Int) < ((0 : Nat) : Int) by decide]
    exact ⟨⟨acc, by omega, hok, ho⟩, D⟩
  simp -implicitDefEqProofs only [go_sem, f0, f1, f5, show (0 : Int) < (m : Int) by omega]
  refine AC_of (src_data D.2) ?_
  rintro _ h2 - ⟨⟨s, hsl, rfl⟩, d2⟩
  have D2 := D.trans d2
  have o2 := ho.keepS d2.1 hS
  simp -implicitDefEqProofs only [go_sem, f0, f1, f5]
  intro bx hbx nx
  have D4 := D2.ext ((Ext.refl h2).set nx ⟨[str s], 1⟩)
  simp -implicitDefEqProofs only [go_sem, f0, f1, f5]
  refine appW_keep (h0 := h) (rows := strs acc) (new := [[str s]]) (fun c hc => D4.1.nones c hc) (o2.ext ((Ext.refl _).set nx _)) (by simp -implicitDefEqProofs only [go_sem]; rfl) (by intro r hr; simp at hr; subst hr; rfl) rfl (by simp; omega) ?_
  intro v' h6 k6 o6
  have hm1 : IntKind.i64.wrap ((m : Int) - 1) = ((m - 1 : Nat) : Int) := by rw [wrap_i64 (by omega) (by omega)]; omega
  simp -implicitDefEqProofs only [go_sem, f0, f1, f5, hm1]
  exact ⟨m - 1, by omega, _, Ext.refl _, acc ++ [s], v', by simp; omega, rfl, rfl, fun t ht => by
    rcases List.mem_append.1 ht with h | h
    · exact hok t h
    · simp only [List.mem_singleton] at h; subst h; exact hsl, by simpa using o6, ⟨Keep.own D4.1 k6, Src.keepM D4.2 k6 hs.known hkn⟩⟩
/-- A drawn image in a register. -/
def ImgAt (v : Value) (l : List UInt8) (b : Nat) (h : H) (f : Fr) (h' : H) : Prop := ∃ (T : List (List UInt8)) (u : Value), f 3 = u ∧ (∀ t ∈ T, t.length ≤ 9) ∧ T.length ≤ 10 ∧ Fre h h' u 1 (strs T) ∧ Drew v l b h h'
def ImgAt1 (v : Value) (l : List UInt8) (b : Nat) (h : H) (f : Fr) (h' : H) : Prop := ∃ (T : List (List UInt8)) (u : Value), f 0 = ptr b 0 ∧ f 3 = u ∧ (∀ t ∈ T, t.length ≤ 9) ∧ (1 ≤ T.length ∧ T.length ≤ 10) ∧ Fre h h' u 1 (strs T) ∧ Drew v l b h h'
/-- (*spec.l01Src).l07Odd -/
def b_spec_l01Src_l07Odd : C := (.seq (.ops [q 2 (.mv (.c nils))])
 (.seq (.ops [q 4 (.mv (.t 0)), q 5 (.mv (.t 0)), ⟨(some 6), none, .call (.c (.func (.func 43) #[] #[])) [(.t 5), (.c (i64 5))]⟩, q 7 (.bin .add (.c (i64 1)) (.t 6)), ⟨(some 8), none, .call (.c (.func (.func 99) #[] #[])) [(.t 4), (.t 7)]⟩, q 3 (.mv (.t 8))])
 (.seq (.seq (.ops [q 9 (.mv (.t 0)), ⟨(some 10), none, .call (.c (.func (.func 48) #[] #[])) [(.t 9), (.c (i64 12))]⟩])
 (.cond (.t 10) (.seq (.ops [q 11 (.mv (.t 0)), ⟨(some 12), none, .call (.c (.func (.func 43) #[] #[])) [(.t 11), (.c (i64 3))]⟩])
 (.block 0 (.seq (.ops [q 19 (.bin .eql (.t 12) (.c (i64 0))), q 18 (.mv (.t 19))])
 (.cond (.t 18) (.ops [q 20 (.mv (.t 3)), q 21 (.mv (.t 0)), q 22 (.mv (.t 0)), ⟨(some 23), none, .call (.c (.func (.func 43) #[] #[])) [(.t 22), (.c (i64 2))]⟩, q 24 (.bin .mul (.c (i64 2)) (.t 23)), q 25 (.bin .add (.c (i64 7)) (.t 24)), ⟨(some 26), none, .call (.c (.func (.func 102) #[] #[])) [(.t 21), (.t 25)]⟩, q 27 (.idx 1 (.t 20) (.c (i64 0))), ⟨none, none, .st 1 (.t 27) (.t 26)⟩]) (.seq (.ops [q 29 (.bin .eql (.t 12) (.c (i64 1))), q 28 (.mv (.t 29))])
 (.cond (.t 28) (.ops [q 3 (.mv (.c nils))]) (.ops [q 13 (.mv (.t 0)), q 14 (.mv (.t 0)), ⟨(some 15), none, .call (.c (.func (.func 43) #[] #[])) [(.t 14), (.c (i64 2))]⟩, q 16 (.bin .add (.c (i64 8)) (.t 15)), ⟨(some 17), none, .call (.c (.func (.func 99) #[] #[])) [(.t 13), (.t 16)]⟩, q 3 (.mv (.t 17))]))))))) .skip))
 (.seq (.ops [q 30 (.mv (.t 3)), q 2 (.mv (.t 30))])
 .ret))))
theorem w_spec_l01Src_l07Odd {args : List Value} {h : H} {Q : Value → H → Prop} (hl : args.length ≤ 31) (hk : wpc Tryz.prog b_spec_l01Src_l07Odd (retw [.tmp 2] Q) (argsFr args) h) : AC Tryz.prog 49 args h Q :=
  AC.of_wpc mixedOrders Tryz.func49 (by kernel_rfl) (by kernel_rfl : prepF Tryz.prog Tryz.f49 = some ⟨31, [.tmp 2], b_spec_l01Src_l07Odd⟩) hl hk

set_option maxHeartbeats 1600000 in
theorem src_oddImage {h : H} {b : Nat} {v : Value} {l : List UInt8} (hs : Src v l h b) : AC Tryz.prog 49 [ptr b 0] h fun r h' => (∃ T : List (List UInt8), (∀ t ∈ T, t.length ≤ 9) ∧ T.length ≤ 10 ∧ Fre h h' r 1 (strs T)) ∧ Drew v l b h h' := by
  have hS : ∀ x, x = b → h.get x ≠ none := fun x e => by subst e; exact hs.known
  have hkn := hs.sl.known
  refine w_spec_l01Src_l07Odd (by simp) ?_
  unfold b_spec_l01Src_l07Odd
  refine wpc_cut2 (ImgAt1 v l b h) ?_ ?_
  · simp -implicitDefEqProofs only [go_sem]
    refine AC_of (src_n hs (by omega)) ?_
    rintro _ h1 - ⟨⟨k, rfl, k0, k1, -⟩, d⟩
    have hk := k1 (by omega)
    obtain ⟨k, rfl⟩ : ∃ n : Nat, k = n := ⟨k.toNat, by omega⟩
    simp -implicitDefEqProofs only [go_sem, wrap_i64 (show -(9223372036854775808 : Int) ≤ ((1 + k : Nat) : Int) by omega) (show ((1 + k : Nat) : Int) < 9223372036854775808 by omega), show (1 : Int) + (k : Int) = ((1 + k : Nat) : Int) by omega]
    refine AC_of (src_image d.2 (by omega)) ?_
    rintro r h2 - ⟨⟨T, hT, h8, o⟩, d2⟩
    have F := o.fre
    simp -implicitDefEqProofs only [go_sem]
    refine ⟨T, r, by simp -implicitDefEqProofs only [go_sem], by simp -implicitDefEqProofs only [go_sem], fun t ht => by have := h8 t ht; omega, by omega, ?_, d.trans d2⟩
    rcases F with F | ⟨b', c, ob, e1, e2, e3, e4, e5, e6, e7⟩
    · exact .inl F
    · exact .inr ⟨b', c, ob, e1, e2, e3, d.1.nones _ e4, e5, e6, e7⟩
  rintro f h1 ⟨T, u, f0, f3, h9, ⟨ha, hb⟩, F, D⟩
  obtain ⟨au, cu, rfl⟩ := F.shape
  have hl : (strs T).length = T.length := by simp
  rw [hl] at F f3
  have hub : ∀ c, blk (.slice au T.length cu) = some c → ¬ c = b := fun c hc e => by subst e; exact hs.known (F.new c hc)
  refine wpc_cut (ImgAt v l b h) ?_ ?_
  · simp -implicitDefEqProofs only [go_sem, f0]
    refine AC_of (src_one D.2 (by omega)) ?_
    rintro _ h2 - ⟨⟨t, rfl⟩, d2⟩
    have D2 := D.trans d2
    have F2 := F.keep d2.1 hub
    cases t
    · simp -implicitDefEqProofs only [go_sem]
      exact ⟨T, _, by simp -implicitDefEqProofs only [go_sem, f3], h9, hb, F2, D2⟩
    simp -implicitDefEqProofs only [go_sem, f0]
    refine AC_of (src_n D2.2 (by omega)) ?_
    rintro _ h3 - ⟨⟨k, rfl, k0, k1, -⟩, d3⟩
    have hk := k1 (by omega)
    have D3 := D2.trans d3
    have F3 := F2.keep d3.1 hub
    obtain rfl | rfl | rfl : k = 0 ∨ k = 1 ∨ k = 2 := by omega
    · simp -implicitDefEqProofs only [go_sem, f0, f3]
      refine AC_of (src_n D3.2 (by omega)) ?_
      rintro _ h4 - ⟨⟨q, rfl, q0, q1, -⟩, d4⟩
      have hq := q1 (by omega)
      obtain ⟨q, rfl⟩ : ∃ n : Nat, q = n := ⟨q.toNat, by omega⟩
      have D4 := D3.trans d4
      simp -implicitDefEqProofs only [go_sem, f0, f3, wrap_i64 (show -(9223372036854775808 : Int) ≤ (2 * (q : Int)) by omega) (show (2 * (q : Int)) < 9223372036854775808 by omega), wrap_i64 (show -(9223372036854775808 : Int) ≤ ((7 + 2 * q : Nat) : Int) by omega) (show ((7 + 2 * q : Nat) : Int) < 9223372036854775808 by omega), show (7 : Int) + 2 * (q : Int) = ((7 + 2 * q : Nat) : Int) by omega]
      refine AC_of (src_bytes D4.2 (by omega)) ?_
      rintro _ h5 - ⟨⟨s, hsl, rfl⟩, d5⟩
      have D5 := D4.trans d5
      have F5 := (F3.keep d4.1 hub).keep d5.1 hub
      obtain ⟨bo, co, ob, e1, e2, e3, e4, e5, e6⟩ := Fre.put (k := 0) F5 (by rw [hl]; omega) (r := [str s]) rfl rfl
      simp only [hl, sl, Value.slice.injEq, true_and] at e1
      obtain ⟨rfl, rfl⟩ := e1
      rw [Nat.zero_mul] at e5
      simp -implicitDefEqProofs only [go_sem, f0, f3, show (0 : Int) < (T.length : Int) by omega, e2, show Int.toNat 0 * 1 = 0 from rfl, e5]
      refine ⟨T.set 0 s, _, by simp -implicitDefEqProofs only [go_sem, f3]; rfl, fun t ht => ?_, by simp; omega, ?_, Drew.set D5 e3 hs _⟩
      · rcases List.mem_or_eq_of_mem_set ht with h | h
        · exact h9 t h
        · subst h; omega
      · have : (strs T).set 0 [str s] = strs (T.set 0 s) := by simp [strs, List.map_set]
        rw [this, Nat.zero_mul] at e6
        exact e6
    · simp -implicitDefEqProofs only [go_sem, f0, f3]
      exact ⟨[], nils, by simp -implicitDefEqProofs only [go_sem], by simp, by simp, .inl ⟨none, 0, rfl, rfl⟩, D3⟩
    · simp -implicitDefEqProofs only [go_sem, f0, f3]
      refine AC_of (src_n D3.2 (by omega)) ?_
      rintro _ h4 - ⟨⟨q, rfl, q0, q1, -⟩, d4⟩
      have hq := q1 (by omega)
      obtain ⟨q, rfl⟩ : ∃ n : Nat, q = n := ⟨q.toNat, by omega⟩
      have D4 := D3.trans d4
      simp -implicitDefEqProofs only [go_sem, f0, f3, wrap_i64 (show -(9223372036854775808 : Int) ≤ ((8 + q : Nat) : Int) by omega) (show ((8 + q : Nat) : Int) < 9223372036854775808 by omega), show (8 : Int) + (q : Int) = ((8 + q : Nat) : Int) by omega]
      refine AC_of (src_image D4.2 (by omega)) ?_
      rintro r h5 - ⟨⟨T', hT, h8, o⟩, d5⟩
      have F5 := o.fre
      simp -implicitDefEqProofs only [go_sem]
      refine ⟨T', r, by simp -implicitDefEqProofs only [go_sem], fun t ht => by have := h8 t ht; omega, by omega, ?_, D4.trans d5⟩
      rcases F5 with F | ⟨b', c, ob, e1, e2, e3, e4, e5, e6, e7⟩
      · exact .inl F
      · exact .inr ⟨b', c, ob, e1, e2, e3, D4.1.nones _ e4, e5, e6, e7⟩
  clear f0 f3 h9 ha hb F D hub hl
  rintro f h1 ⟨T, u, f3, h9, hl, F, D⟩
  simp -implicitDefEqProofs only [go_sem, f3]
  exact ⟨⟨T, h9, hl, F⟩, D⟩
end Go.Proofs.YthjbhdmjfakfaaaGreatDoor
