/- A helper of this seat's claims (contracts of the functions): what it shows is shown for every input that its statements name, on no other condition. -/
import Derived.Test.YtdofcojbjcpikaaC12b
import Derived.Test.YtdofcojbjcpikaaC06r
import Derived.Test.YtdofcojbjcpikaaKD
set_option linter.unusedVariables false
set_option linter.unusedSimpArgs false
set_option maxRecDepth 100000
namespace Go.Proofs.Ytdofcojbjcpikaa
open Go.KH

/-! ## Lists out of bits, states read -/
/-- impl.fromBits -/
def b_impl_fromBits : C := (.seq (.ops [q 2 (.mv (.c nils))])
 (.seq (.ops [q 3 (.mv (.c nils))])
 (.seq (.seq (.ops [q 5 (.mv (.c (i64 0)))])
 (.block 0 (.loop (.seq (.ops [q 6 (.bin .lss (.t 5) (.c (i64 24)))])
 (.seq (.cond (.t 6) .skip (.exit 0))
 (.seq (.block 1 (.seq (.ops [q 7 (.mv (.t 5)), q 4 (.mv (.t 7))])
 (.seq (.ops [q 8 (.mv (.t 0)), q 9 (.mv (.t 4)), q 10 (.bin .shr (.t 8) (.t 9)), q 11 (.bin .and (.t 10) (.c (i64 1))), q 12 (.bin .eql (.t 11) (.c (i64 1)))])
 (.cond (.t 12) (.ops [q 13 (.mv (.t 3)), q 14 (.mv (.t 4)), ⟨(some 15), none, .bsl 1 [(i64 0)] [(0, 1, (.t 14))]⟩, ⟨(some 16), none, .app 1 8 (.t 13) (.t 15)⟩, q 3 (.mv (.t 16))]) .skip))))
 (.ops [q 17 (.bin .add (.t 5) (.c (i64 1))), q 5 (.mv (.t 17))])))))))
 (.seq (.ops [q 18 (.mv (.t 3)), q 2 (.mv (.t 18))])
 .ret))))
theorem w_impl_fromBits {args : List Value} {h : H} {Q : Value → H → Prop} (hl : args.length ≤ 19) (hk : wpc Try.prog b_impl_fromBits (retw [.tmp 2] Q) (argsFr args) h) : AC Try.prog 48 args h Q :=
  AC.of_wpc mixedOrders Try.func48 (by kernel_rfl) (by kernel_rfl : prepF Try.prog Try.f48 = some ⟨19, [.tmp 2], b_impl_fromBits⟩) hl hk

theorem fromBits_ac {h : H} {x : Nat} (hx : x < 16777216) : AC Try.prog 48 [i64 x] h fun r h' => Ext h h' ∧ Own h h' r 1 (ints (fromBits x)) := by
  refine w_impl_fromBits (by simp) ?_
  unfold b_impl_fromBits
  simp -implicitDefEqProofs only [go_sem]
  refine loopW_of (fun m f h' => ∃ (k : Nat) (w : Value), m + k = 24 ∧ f 0 = i64 (x : Int) ∧ f 5 = i64 k ∧ f 3 = w ∧ Ext h h' ∧ Own h h' w 1 (ints (bitsTo x k))) 24
    ⟨0, nils, by simp, by simp -implicitDefEqProofs only [go_sem], by simp -implicitDefEqProofs only [go_sem]; rfl, by simp -implicitDefEqProofs only [go_sem], Ext.refl _, Own.nil _ _ _⟩ ?_
  rintro m f h' ⟨k, w, hm, f0, f5, f3, he, ho⟩
  obtain ⟨aw, cw, rfl⟩ := ho.shape
  rw [List.length_map] at ho f3
  skip
  by_cases hk : k < 24
  · have e1 : ((k : Int) < 24) := by omega
    have hd : x / 2 ^ k < 9223372036854775808 := by have := Nat.div_le_self x (2 ^ k); omega
    have hl := bitsTo_len x k
    have hsh := shr_i64 (x := x) (j := k) (by omega)
    have han := and1_i64 hd
    have hstep := bitsTo_succ x k
    rw [testBit_div] at hstep
    by_cases hb : x / 2 ^ k % 2 = 1
    · have hb1 : ((x / 2 ^ k % 2 : Nat) : Int) = 1 := by omega
      rw [if_pos (by simpa using hb)] at hstep
      simp -implicitDefEqProofs only [go_sem, e1, hsh, han, hb1, f0, f5, f3, Int.ofNat_lt, Int.natCast_nonneg]
      intro b7 hb7 n7
      simp -implicitDefEqProofs only [go_sem, f0, f5, f3, Int.ofNat_lt, Int.natCast_nonneg]
      refine appW_own (new := [[i64 (k : Int)]]) (he.set n7 _) (ho.ext ((Ext.refl _).set n7 _)) (by simp -implicitDefEqProofs only [go_sem, f0, f5, f3, Int.ofNat_lt, Int.natCast_nonneg]; rfl) (by intro r hr; simp at hr; subst hr; rfl) rfl (by simp; omega) ?_
      intro v' h'' he2 ho2 _
      simp -implicitDefEqProofs only [go_sem, wrap_i64 (show -(9223372036854775808 : Int) ≤ ((k : Int) + 1) by omega) (show ((k : Int) + 1) < 9223372036854775808 by omega), f0, f5, f3, Int.ofNat_lt, Int.natCast_nonneg]
      exact ⟨m - 1, by omega, h'', Ext.refl _, k + 1, v', by omega, rfl, rfl, he2, by rw [hstep]; simpa using ho2⟩
    · have hb1 : ¬ ((x / 2 ^ k % 2 : Nat) : Int) = 1 := by omega
      rw [if_neg (by simpa using hb)] at hstep
      simp -implicitDefEqProofs only [go_sem, e1, hsh, han, hb1, wrap_i64 (show -(9223372036854775808 : Int) ≤ ((k : Int) + 1) by omega) (show ((k : Int) + 1) < 9223372036854775808 by omega), f0, f5, f3, Int.ofNat_lt, Int.natCast_nonneg]
      exact ⟨m - 1, by omega, h', Ext.refl _, k + 1, _, by omega, rfl, rfl, he, by rw [hstep]; exact ho⟩
  · have e : k = 24 := by omega
    subst e
    have e1 : ¬ (((24 : Nat) : Int) < 24) := by omega
    simp -implicitDefEqProofs only [go_sem, e1, f0, f5, f3, Int.ofNat_lt, Int.natCast_nonneg]
    exact ⟨he, ho⟩
/-- spec.FromBits -/
def b_spec_FromBits : C := (.seq (.ops [q 2 (.mv (.c nils))])
 (.seq (.ops [⟨(some 5), none, .bsl 0 [] []⟩, q 3 (.mv (.t 5))])
 (.seq (.seq (.ops [q 6 (.mv (.t 0)), q 7 (.bin .lss (.t 6) (.c (i64 0))), q 8 (.mv (.t 7)), qg 9 8 false (.mv (.t 0)), qg 10 8 false (.bin .geq (.t 9) (.c (i64 16777216))), q 11 (.pick (.t 8) (.c (.bool true)) (.t 10))])
 (.cond (.t 11) (.seq (.ops [q 12 (.mv (.t 3)), q 2 (.mv (.t 12))])
 .ret) .skip))
 (.seq (.seq (.ops [q 4 (.mv (.c (i64 0)))])
 (.block 0 (.loop (.seq (.seq (.ops [q 13 (.mv (.t 4)), q 14 (.bin .lss (.t 13) (.c (i64 24)))])
 (.cond (.t 14) .skip (.exit 0)))
 (.seq (.block 1 (.seq (.ops [q 17 (.mv (.t 0)), q 18 (.mv (.t 4)), q 19 (.bin .shr (.t 17) (.t 18)), q 20 (.bin .and (.t 19) (.c (i64 1))), q 21 (.bin .eql (.t 20) (.c (i64 1)))])
 (.cond (.t 21) (.ops [q 22 (.mv (.t 3)), q 23 (.mv (.t 4)), ⟨(some 24), none, .bsl 1 [(i64 0)] [(0, 1, (.t 23))]⟩, ⟨(some 25), none, .app 1 8 (.t 22) (.t 24)⟩, q 3 (.mv (.t 25))]) .skip)))
 (.ops [q 15 (.mv (.t 4)), q 16 (.bin .add (.t 15) (.c (i64 1))), q 4 (.mv (.t 16))]))))))
 (.seq (.ops [q 26 (.mv (.t 3)), q 2 (.mv (.t 26))])
 .ret)))))
theorem w_spec_FromBits {args : List Value} {h : H} {Q : Value → H → Prop} (hl : args.length ≤ 27) (hk : wpc Try.prog b_spec_FromBits (retw [.tmp 2] Q) (argsFr args) h) : AC Try.prog 27 args h Q :=
  AC.of_wpc mixedOrders Try.func27 (by kernel_rfl) (by kernel_rfl : prepF Try.prog Try.f27 = some ⟨27, [.tmp 2], b_spec_FromBits⟩) hl hk

def fromI (x : Int) : List Int := if 0 ≤ x ∧ x ≤ 16777215 then fromBits x.toNat else []
theorem specFromBits_ac {h : H} {x : Int} : AC Try.prog 27 [i64 x] h fun r h' => Ext h h' ∧ Own h h' r 1 (ints (fromI x)) := by
  refine w_spec_FromBits (by simp) ?_
  unfold b_spec_FromBits
  simp -implicitDefEqProofs only [go_sem]
  intro b0 hb0 n0
  simp -implicitDefEqProofs only [go_sem]
  have o0 : Own h (h.set b0 ⟨[], 0⟩) (sl b0 0 0 0) 1 [] := .inr ⟨b0, 0, 0, rfl, Nat.le_refl _, hb0, n0, H.set_get_same _ _ _, by simp, Wid.nil 1⟩
  by_cases h1 : x < 0
  · simp -implicitDefEqProofs only [go_sem, h1]
    have : fromI x = [] := by unfold fromI; rw [if_neg (by omega)]
    rw [this]
    exact ⟨(Ext.refl _).set n0 _, o0⟩
  by_cases h2 : 16777216 ≤ x
  · simp -implicitDefEqProofs only [go_sem, h1, h2]
    have : fromI x = [] := by unfold fromI; rw [if_neg (by omega)]
    rw [this]
    exact ⟨(Ext.refl _).set n0 _, o0⟩
  simp -implicitDefEqProofs only [go_sem, h1, h2]
  obtain ⟨y, rfl⟩ := Int.eq_ofNat_of_zero_le (show 0 ≤ x by omega)
  have hx : y < 16777216 := by omega
  have hf : fromI (y : Int) = fromBits y := by unfold fromI; rw [if_pos (by omega)]; rfl
  rw [hf]
  refine loopW_of (fun m f h' => ∃ (k : Nat) (w : Value), m + k = 24 ∧ f 0 = i64 (y : Int) ∧ f 4 = i64 k ∧ f 3 = w ∧ Ext h h' ∧ Own h h' w 1 (ints (bitsTo y k))) 24
    ⟨0, sl b0 0 0 0, by simp, by simp -implicitDefEqProofs only [go_sem], by simp -implicitDefEqProofs only [go_sem]; rfl, by simp -implicitDefEqProofs only [go_sem], (Ext.refl _).set n0 _, o0⟩ ?_
  rintro m f h' ⟨k, w, hm, f0, f4, f3, he, ho⟩
  obtain ⟨aw, cw, rfl⟩ := ho.shape
  rw [List.length_map] at ho f3
  skip
  by_cases hk : k < 24
  · have e1 : ((k : Int) < 24) := by omega
    have hd : y / 2 ^ k < 9223372036854775808 := by have := Nat.div_le_self y (2 ^ k); omega
    have hl := bitsTo_len y k
    have hsh := shr_i64 (x := y) (j := k) (by omega)
    have han := and1_i64 hd
    have hstep := bitsTo_succ y k
    rw [testBit_div] at hstep
    by_cases hb : y / 2 ^ k % 2 = 1
    · have hb1 : ((y / 2 ^ k % 2 : Nat) : Int) = 1 := by omega
      rw [if_pos (by simpa using hb)] at hstep
      simp -implicitDefEqProofs only [go_sem, e1, hsh, han, hb1, f0, f4, f3, Int.ofNat_lt, Int.natCast_nonneg]
      intro b7 hb7 n7
      simp -implicitDefEqProofs only [go_sem, f0, f4, f3, Int.ofNat_lt, Int.natCast_nonneg]
      refine appW_own (new := [[i64 (k : Int)]]) (he.set n7 _) (ho.ext ((Ext.refl _).set n7 _)) (by simp -implicitDefEqProofs only [go_sem, f0, f4, f3, Int.ofNat_lt, Int.natCast_nonneg]; rfl) (by intro r hr; simp at hr; subst hr; rfl) rfl (by simp; omega) ?_
      intro v' h'' he2 ho2 _
      simp -implicitDefEqProofs only [go_sem, wrap_i64 (show -(9223372036854775808 : Int) ≤ ((k : Int) + 1) by omega) (show ((k : Int) + 1) < 9223372036854775808 by omega), f0, f4, f3, Int.ofNat_lt, Int.natCast_nonneg]
      exact ⟨m - 1, by omega, h'', Ext.refl _, k + 1, v', by omega, rfl, rfl, he2, by rw [hstep]; simpa using ho2⟩
    · have hb1 : ¬ ((y / 2 ^ k % 2 : Nat) : Int) = 1 := by omega
      rw [if_neg (by simpa using hb)] at hstep
      simp -implicitDefEqProofs only [go_sem, e1, hsh, han, hb1, wrap_i64 (show -(9223372036854775808 : Int) ≤ ((k : Int) + 1) by omega) (show ((k : Int) + 1) < 9223372036854775808 by omega), f0, f4, f3, Int.ofNat_lt, Int.natCast_nonneg]
      exact ⟨m - 1, by omega, h', Ext.refl _, k + 1, _, by omega, rfl, rfl, he, by rw [hstep]; exact ho⟩
  · have e : k = 24 := by omega
    subst e
    have e1 : ¬ (((24 : Nat) : Int) < 24) := by omega
    simp -implicitDefEqProofs only [go_sem, e1, f0, f4, f3, Int.ofNat_lt, Int.natCast_nonneg]
    exact ⟨he, ho⟩
def zeroS : UState := ⟨0, 0, 0, 0, 0, [], [], []⟩
def stI (t : List UInt8) : Option UState :=
  let p1 := numI t 0 false; let p2 := numI t p1.2.1 p1.2.2; let p3 := numI t p2.2.1 p2.2.2; let p4 := numI t p3.2.1 p3.2.2; let p5 := numI t p4.2.1 p4.2.2
  let p6 := numI t p5.2.1 p5.2.2; let p7 := numI t p6.2.1 p6.2.2; let p8 := textI t p7.2.1 p7.2.2
  let s : UState := ⟨p1.1, p2.1, p3.1, p4.1, p5.1, p8.1, fromI p6.1, fromI p7.1⟩
  if p8.2.2 = false ∧ p8.2.1 = t.length ∧ (0 ≤ p6.1 ∧ p6.1 ≤ 16777215) ∧ (0 ≤ p7.1 ∧ p7.1 ≤ 16777215) ∧ stateOk s then some s else none
theorem fromI_len (x : Int) : (fromI x).length ≤ 24 := by
  unfold fromI; split
  · exact bitsTo_len _ _
  · simp
theorem fromI_bits {x : Int} (h : 0 ≤ x ∧ x ≤ 16777215) : (bitsN (fromI x) : Int) = x := by
  unfold fromI
  rw [if_pos h, bitsN_from (by omega)]; omega
/-- impl.stateRead -/
def b_impl_stateRead : C := (.seq (.ops [⟨(some 2), none, .alloc [(i64 0), (i64 0), (i64 0), (i64 0), (i64 0), (str []), nils, nils]⟩, q 3 (.mv (.c (.bool false)))])
 (.seq (.ops [q 8 (.mv (.t 0)), q 9 (.build [(str []), (i64 0), (.bool false)] [(0, 1, (.t 8))]), ⟨(some 10), none, .box (.t 9)⟩, q 4 (.mv (.t 10))])
 (.seq (.ops [q 11 (.mv (.t 4)), ⟨(some 12), none, .call (.c (.func (.func 46) #[] #[])) [(.t 11)]⟩, q 13 (.mv (.t 4)), ⟨(some 14), none, .call (.c (.func (.func 46) #[] #[])) [(.t 13)]⟩, q 15 (.mv (.t 4)), ⟨(some 16), none, .call (.c (.func (.func 46) #[] #[])) [(.t 15)]⟩, q 17 (.mv (.t 4)), ⟨(some 18), none, .call (.c (.func (.func 46) #[] #[])) [(.t 17)]⟩, q 19 (.mv (.t 4)), ⟨(some 20), none, .call (.c (.func (.func 46) #[] #[])) [(.t 19)]⟩, q 21 (.build [(i64 0), (i64 0), (i64 0), (i64 0), (i64 0), (str []), nils, nils] [(0, 1, (.t 12)), (1, 1, (.t 14)), (2, 1, (.t 16)), (3, 1, (.t 18)), (4, 1, (.t 20))]), ⟨(some 5), none, .alloc [(i64 0), (i64 0), (i64 0), (i64 0), (i64 0), (str []), nils, nils]⟩, ⟨none, none, .st 8 (.t 5) (.t 21)⟩])
 (.seq (.ops [q 22 (.mv (.t 4)), ⟨(some 23), none, .call (.c (.func (.func 46) #[] #[])) [(.t 22)]⟩, q 24 (.mv (.t 4)), ⟨(some 25), none, .call (.c (.func (.func 46) #[] #[])) [(.t 24)]⟩, q 6 (.mv (.t 23)), q 7 (.mv (.t 25))])
 (.seq (.ops [q 26 (.mv (.t 4)), ⟨(some 27), none, .call (.c (.func (.func 47) #[] #[])) [(.t 26)]⟩, q 28 (.fld 5 (.t 5)), ⟨none, none, .st 1 (.t 28) (.t 27)⟩])
 (.seq (.seq (.ops [q 29 (.mv (.t 4)), q 30 (.nck (.t 29)), q 31 (.fld 2 (.t 30)), q 32 (.ld false 1 (.t 31)), q 33 (.mv (.t 32)), qg 34 33 false (.mv (.t 4)), qg 35 33 false (.nck (.t 34)), qg 36 33 false (.fld 1 (.t 35)), qg 37 33 false (.ld false 1 (.t 36)), qg 38 33 false (.mv (.t 0)), qg 39 33 false (.slen (.t 38)), qg 40 33 false (.bin .neq (.t 37) (.t 39)), q 41 (.pick (.t 33) (.c (.bool true)) (.t 40)), q 42 (.mv (.t 41)), qg 43 42 false (.mv (.t 6)), ⟨(some 44), (some (42, false)), .call (.c (.func (.func 40) #[] #[])) [(.t 43), (.c (i64 0)), (.c (i64 16777215))]⟩, qg 45 42 false (.un .not (.t 44)), q 46 (.pick (.t 42) (.c (.bool true)) (.t 45)), q 47 (.mv (.t 46)), qg 48 47 false (.mv (.t 7)), ⟨(some 49), (some (47, false)), .call (.c (.func (.func 40) #[] #[])) [(.t 48), (.c (i64 0)), (.c (i64 16777215))]⟩, qg 50 47 false (.un .not (.t 49)), q 51 (.pick (.t 47) (.c (.bool true)) (.t 50))])
 (.cond (.t 51) (.seq (.ops [q 52 (.build [(i64 0), (i64 0), (i64 0), (i64 0), (i64 0), (str []), nils, nils] []), ⟨none, none, .st 8 (.t 2) (.t 52)⟩, q 3 (.mv (.c (.bool false)))])
 .ret) .skip))
 (.seq (.ops [q 53 (.mv (.t 6)), ⟨(some 54), none, .call (.c (.func (.func 48) #[] #[])) [(.t 53)]⟩, q 55 (.mv (.t 7)), ⟨(some 56), none, .call (.c (.func (.func 48) #[] #[])) [(.t 55)]⟩, q 57 (.fld 6 (.t 5)), ⟨none, none, .st 1 (.t 57) (.t 54)⟩, q 58 (.fld 7 (.t 5)), ⟨none, none, .st 1 (.t 58) (.t 56)⟩])
 (.seq (.seq (.ops [q 59 (.ld true 8 (.t 5)), ⟨(some 60), none, .call (.c (.func (.func 18) #[] #[])) [(.t 59)]⟩, q 61 (.un .not (.t 60))])
 (.cond (.t 61) (.seq (.ops [q 62 (.build [(i64 0), (i64 0), (i64 0), (i64 0), (i64 0), (str []), nils, nils] []), ⟨none, none, .st 8 (.t 2) (.t 62)⟩, q 3 (.mv (.c (.bool false)))])
 .ret) .skip))
 (.seq (.ops [q 63 (.ld true 8 (.t 5)), ⟨none, none, .st 8 (.t 2) (.t 63)⟩, q 3 (.mv (.c (.bool true)))])
 .ret)))))))))
theorem w_impl_stateRead {args : List Value} {h : H} {Q : Value → H → Prop} (hl : args.length ≤ 64) (hk : wpc Try.prog b_impl_stateRead (retw [.cell 2 true 8, .tmp 3] Q) (argsFr args) h) : AC Try.prog 22 args h Q :=
  AC.of_wpc mixedOrders Try.func22 (by kernel_rfl) (by kernel_rfl : prepF Try.prog Try.f22 = some ⟨64, [.cell 2 true 8, .tmp 3], b_impl_stateRead⟩) hl hk

theorem stateRead_ac {h : H} {t : List UInt8} (ht : t.length ≤ 8000) : AC Try.prog 22 [str t] h fun r h' => Ext h h' ∧ ∃ cs, r = .tuple #[.agg cs.toArray, .bool (stI t).isSome] ∧ StF h h' cs ((stI t).getD zeroS) := by
  obtain ⟨v1, a1, c1, e1⟩ : ∃ k a c, numI t 0 false = (k, a, c) := ⟨_, _, _, rfl⟩
  obtain ⟨v2, a2, c2, e2⟩ : ∃ k a c, numI t a1 c1 = (k, a, c) := ⟨_, _, _, rfl⟩
  obtain ⟨v3, a3, c3, e3⟩ : ∃ k a c, numI t a2 c2 = (k, a, c) := ⟨_, _, _, rfl⟩
  obtain ⟨v4, a4, c4, e4⟩ : ∃ k a c, numI t a3 c3 = (k, a, c) := ⟨_, _, _, rfl⟩
  obtain ⟨v5, a5, c5, e5⟩ : ∃ k a c, numI t a4 c4 = (k, a, c) := ⟨_, _, _, rfl⟩
  obtain ⟨v6, a6, c6, e6⟩ : ∃ k a c, numI t a5 c5 = (k, a, c) := ⟨_, _, _, rfl⟩
  obtain ⟨v7, a7, c7, e7⟩ : ∃ k a c, numI t a6 c6 = (k, a, c) := ⟨_, _, _, rfl⟩
  obtain ⟨v8, a8, c8, e8⟩ : ∃ k a c, textI t a7 c7 = (k, a, c) := ⟨_, _, _, rfl⟩
  have l1 := numI_eq e1 (by omega) ht
  have l2 := numI_eq e2 l1 ht
  have l3 := numI_eq e3 l2 ht
  have l4 := numI_eq e4 l3 ht
  have l5 := numI_eq e5 l4 ht
  have l6 := numI_eq e6 l5 ht
  have l7 := numI_eq e7 l6 ht
  have hst : stI t = if c8 = false ∧ a8 = t.length ∧ (0 ≤ v6 ∧ v6 ≤ 16777215) ∧ (0 ≤ v7 ∧ v7 ≤ 16777215) ∧ stateOk ⟨v1, v2, v3, v4, v5, v8, fromI v6, fromI v7⟩ then some ⟨v1, v2, v3, v4, v5, v8, fromI v6, fromI v7⟩ else none := by
    unfold stI
    simp only [e1, e2, e3, e4, e5, e6, e7, e8]
  refine w_impl_stateRead (by simp) ?_
  unfold b_impl_stateRead
  simp -implicitDefEqProofs only [go_sem]
  intro b2 hb_b2 n_b2
  simp -implicitDefEqProofs only [go_sem, hb_b2]
  intro b10 hb_b10 m0_b10
  obtain ⟨z_b10_b2, y_b10_b2, n_b10⟩ := fne m0_b10
  simp only [H.set_base] at hb_b10
  simp -implicitDefEqProofs only [go_sem, hb_b2, hb_b10, z_b10_b2, y_b10_b2]
  refine AC_of (rnum e1 (by simp only [H.set_base]; assumption) (H.set_get_same _ _ _) (by omega) (by omega)) ?_
  rintro _ _ - ⟨rfl, rfl⟩
  rw [H.set_set]
  simp -implicitDefEqProofs only [go_sem, hb_b2, hb_b10, z_b10_b2, y_b10_b2]
  refine AC_of (rnum e2 (by simp only [H.set_base]; assumption) (H.set_get_same _ _ _) (by omega) (by omega)) ?_
  rintro _ _ - ⟨rfl, rfl⟩
  rw [H.set_set]
  simp -implicitDefEqProofs only [go_sem, hb_b2, hb_b10, z_b10_b2, y_b10_b2]
  refine AC_of (rnum e3 (by simp only [H.set_base]; assumption) (H.set_get_same _ _ _) (by omega) (by omega)) ?_
  rintro _ _ - ⟨rfl, rfl⟩
  rw [H.set_set]
  simp -implicitDefEqProofs only [go_sem, hb_b2, hb_b10, z_b10_b2, y_b10_b2]
  refine AC_of (rnum e4 (by simp only [H.set_base]; assumption) (H.set_get_same _ _ _) (by omega) (by omega)) ?_
  rintro _ _ - ⟨rfl, rfl⟩
  rw [H.set_set]
  simp -implicitDefEqProofs only [go_sem, hb_b2, hb_b10, z_b10_b2, y_b10_b2]
  refine AC_of (rnum e5 (by simp only [H.set_base]; assumption) (H.set_get_same _ _ _) (by omega) (by omega)) ?_
  rintro _ _ - ⟨rfl, rfl⟩
  rw [H.set_set]
  simp -implicitDefEqProofs only [go_sem, hb_b2, hb_b10, z_b10_b2, y_b10_b2]
  intro b5 hb_b5 m0_b5
  obtain ⟨z_b5_b10, y_b5_b10, m1_b5⟩ := fne m0_b5
  obtain ⟨z_b5_b2, y_b5_b2, n_b5⟩ := fne m1_b5
  simp only [H.set_base] at hb_b5
  have y := of_eq_false y_b5_b10
  have z := of_eq_false z_b5_b10
  simp -implicitDefEqProofs only [go_sem, hb_b2, hb_b10, z_b10_b2, y_b10_b2, hb_b5, z_b5_b10, y_b5_b10, z_b5_b2, y_b5_b2]
  refine AC_of (rnum e6 (by simp only [H.set_base]; assumption) (by rw [H.set_get_ne _ _ _ _ y]; exact H.set_get_same _ _ _) (by omega) (by omega)) ?_
  rintro _ _ - ⟨rfl, rfl⟩
  rw [set_over z]
  simp -implicitDefEqProofs only [go_sem, hb_b2, hb_b10, z_b10_b2, y_b10_b2, hb_b5, z_b5_b10, y_b5_b10, z_b5_b2, y_b5_b2]
  refine AC_of (rnum e7 (by simp only [H.set_base]; assumption) (by rw [H.set_get_ne _ _ _ _ y]; exact H.set_get_same _ _ _) (by omega) (by omega)) ?_
  rintro _ _ - ⟨rfl, rfl⟩
  rw [set_over z]
  simp -implicitDefEqProofs only [go_sem, hb_b2, hb_b10, z_b10_b2, y_b10_b2, hb_b5, z_b5_b10, y_b5_b10, z_b5_b2, y_b5_b2]
  refine AC_of (rword e8 (by simp only [H.set_base]; assumption) (by rw [H.set_get_ne _ _ _ _ y]; exact H.set_get_same _ _ _) (by omega) (by omega)) ?_
  rintro _ _ - ⟨rfl, rfl⟩
  rw [set_over z]
  have bad : stI t = none → ∀ h' : H, Ext h h' → Ext h h' ∧ ∃ cs, Value.tuple #[.agg #[i64 0, i64 0, i64 0, i64 0, i64 0, str [], nils, nils], .bool false] = .tuple #[.agg cs.toArray, .bool (stI t).isSome] ∧ StF h h' cs ((stI t).getD zeroS) := by
    intro hn h' hx
    rw [hn]
    exact ⟨hx, _, rfl, nils, nils, rfl, (Own.nil _ _ _).fre, (Own.nil _ _ _).fre, fun b hb => by cases hb⟩
  cases c8 with
  | true =>
    rw [if_neg (by simp)] at hst
    simp -implicitDefEqProofs only [go_sem, hb_b2, hb_b10, z_b10_b2, y_b10_b2, hb_b5, z_b5_b10, y_b5_b10, z_b5_b2, y_b5_b2]
    exact bad hst _ ((((Ext.refl _).set' n_b2 _).set' n_b10 _).set' n_b5 _)
  | false =>
    by_cases h3 : a8 = t.length
    rotate_left
    · rw [if_neg (by simp [h3])] at hst
      simp -implicitDefEqProofs only [go_sem, show ¬ ((a8 : Int) = (t.length : Int)) by omega, hb_b2, hb_b10, z_b10_b2, y_b10_b2, hb_b5, z_b5_b10, y_b5_b10, z_b5_b2, y_b5_b2]
      exact bad hst _ ((((Ext.refl _).set' n_b2 _).set' n_b10 _).set' n_b5 _)
    subst h3
    simp -implicitDefEqProofs only [go_sem, hb_b2, hb_b10, z_b10_b2, y_b10_b2, hb_b5, z_b5_b10, y_b5_b10, z_b5_b2, y_b5_b2]
    refine (within_pc _ _ _ _).use ?_
    simp -implicitDefEqProofs only [go_sem, hb_b2, hb_b10, z_b10_b2, y_b10_b2, hb_b5, z_b5_b10, y_b5_b10, z_b5_b2, y_b5_b2]
    refine Br.of (fun h6 => ?_) (fun h6 => ?_)
    rotate_left
    · rw [if_neg (by simp [h6])] at hst
      simp -implicitDefEqProofs only [go_sem, h6, hb_b2, hb_b10, z_b10_b2, y_b10_b2, hb_b5, z_b5_b10, y_b5_b10, z_b5_b2, y_b5_b2]
      exact bad hst _ ((((Ext.refl _).set' n_b2 _).set' n_b10 _).set' n_b5 _)
    simp -implicitDefEqProofs only [go_sem, h6, hb_b2, hb_b10, z_b10_b2, y_b10_b2, hb_b5, z_b5_b10, y_b5_b10, z_b5_b2, y_b5_b2]
    refine (within_pc _ _ _ _).use ?_
    simp -implicitDefEqProofs only [go_sem, h6, hb_b2, hb_b10, z_b10_b2, y_b10_b2, hb_b5, z_b5_b10, y_b5_b10, z_b5_b2, y_b5_b2]
    refine Br.of (fun h7 => ?_) (fun h7 => ?_)
    rotate_left
    · rw [if_neg (by simp [h7])] at hst
      simp -implicitDefEqProofs only [go_sem, h7, hb_b2, hb_b10, z_b10_b2, y_b10_b2, hb_b5, z_b5_b10, y_b5_b10, z_b5_b2, y_b5_b2]
      exact bad hst _ ((((Ext.refl _).set' n_b2 _).set' n_b10 _).set' n_b5 _)
    obtain ⟨n6, rfl⟩ := Int.eq_ofNat_of_zero_le h6.1
    obtain ⟨n7, rfl⟩ := Int.eq_ofNat_of_zero_le h7.1
    simp -implicitDefEqProofs only [go_sem, h7, hb_b2, hb_b10, z_b10_b2, y_b10_b2, hb_b5, z_b5_b10, y_b5_b10, z_b5_b2, y_b5_b2]
    refine AC_of (fromBits_ac (by omega)) ?_
    rintro w1 h1 - ⟨x1, o1⟩
    have g2 := x1.2.g b2 _ (by simp -implicitDefEqProofs only [go_sem, hb_b2, hb_b10, z_b10_b2, y_b10_b2, hb_b5, z_b5_b10, y_b5_b10, z_b5_b2, y_b5_b2]; rfl)
    have g5 := x1.2.g b5 _ (by simp -implicitDefEqProofs only [go_sem, hb_b2, hb_b10, z_b10_b2, y_b10_b2, hb_b5, z_b5_b10, y_b5_b10, z_b5_b2, y_b5_b2]; rfl)
    have hb1 := x1.1
    simp only [H.set_base] at hb1
    simp -implicitDefEqProofs only [go_sem, hb_b2, hb_b10, z_b10_b2, y_b10_b2, hb_b5, z_b5_b10, y_b5_b10, z_b5_b2, y_b5_b2]
    refine AC_of (fromBits_ac (by omega)) ?_
    rintro w2 h2 - ⟨x2, o2⟩
    have k2 := x2.2.g b2 _ g2
    have k5 := x2.2.g b5 _ g5
    have hb2 := x2.1
    rw [hb1] at hb2
    obtain ⟨p1, q1, rfl⟩ := o1.shape
    obtain ⟨p2, q2, rfl⟩ := o2.shape
    have E0 := Ext.trans ((((Ext.refl _).set' n_b2 _).set' n_b10 _).set' n_b5 _) x1
    have E1 := E0.trans x2
    have q6 : fromI (n6 : Int) = fromBits n6 := by unfold fromI; rw [if_pos h6]; rfl
    have q7 : fromI (n7 : Int) = fromBits n7 := by unfold fromI; rw [if_pos h7]; rfl
    rw [q6, q7] at hst
    have f1 := (o1.fre.ext x2).set (b := b5) (by simp -implicitDefEqProofs only [go_sem, hb_b2, hb_b10, z_b10_b2, y_b10_b2, hb_b5, z_b5_b10, y_b5_b10, z_b5_b2, y_b5_b2]; rfl) ⟨[i64 v1, i64 v2, i64 v3, i64 v4, i64 v5, str v8, .slice p1 (ints (fromBits n6)).length q1, .slice p2 (ints (fromBits n7)).length q2], 8⟩
    have f2 := o2.fre.set g5 ⟨[i64 v1, i64 v2, i64 v3, i64 v4, i64 v5, str v8, .slice p1 (ints (fromBits n6)).length q1, .slice p2 (ints (fromBits n7)).length q2], 8⟩
    have d := Dj.of o1.fre.known o2.fre.new
    simp -implicitDefEqProofs only [go_sem, ldc_get k5, stc_get k5, hb2, hb_b2, hb_b10, z_b10_b2, y_b10_b2, hb_b5, z_b5_b10, y_b5_b10, z_b5_b2, y_b5_b2]
    refine (isState_pc ⟨v1, v2, v3, v4, v5, v8, fromBits n6, fromBits n7⟩ f1.sl f2.sl ⟨by have := bitsTo_len n6 24; simp only [fromBits]; omega, by have := bitsTo_len n7 24; simp only [fromBits]; omega⟩).use ?_
    simp -implicitDefEqProofs only [go_sem, hb_b2, hb_b10, z_b10_b2, y_b10_b2, hb_b5, z_b5_b10, y_b5_b10, z_b5_b2, y_b5_b2]
    refine Br.of (fun h8 => ?_) (fun h8 => ?_)
    · rw [if_pos ⟨rfl, rfl, h6, h7, h8⟩] at hst
      simp -implicitDefEqProofs only [go_sem, h8, ldc_get k2, stc_get k2, hb2, hb_b2, hb_b10, z_b10_b2, y_b10_b2, hb_b5, z_b5_b10, y_b5_b10, z_b5_b2, y_b5_b2]
      rw [hst, H.set_comm _ _ _ (of_eq_false z_b5_b2)]
      exact ⟨(E1.set' n_b5 _).set' n_b2 _, _, rfl, _, _, rfl, (f1.set (b := b2) (by simp -implicitDefEqProofs only [go_sem, hb_b2, hb_b10, z_b10_b2, y_b10_b2, hb_b5, z_b5_b10, y_b5_b10, z_b5_b2, y_b5_b2]; rfl) _).back ((((Ext.refl _).set' n_b2 _).set' n_b10 _).set' n_b5 _), (f2.set g2 _).back E0, d⟩
    · rw [if_neg (by simp [h8])] at hst
      simp -implicitDefEqProofs only [go_sem, h8, ldc_get k2, stc_get k2, hb2, hb_b2, hb_b10, z_b10_b2, y_b10_b2, hb_b5, z_b5_b10, y_b5_b10, z_b5_b2, y_b5_b2]
      exact bad hst _ ((E1.set' n_b2 _).set' n_b5 _)
/-- What StateRead answers. -/
def stOut (t : List UInt8) : UState × Int := if 8000 < t.length then (zeroS, 2) else match stI t with | none => (zeroS, 3) | some s => (s, 0)
abbrev StoF (h0 h : H) (cs : List Value) (o : UState × Int) : Prop := ∃ c, cs = c ++ [i64 o.2] ∧ StF h0 h c o.1
theorem zero_f (h0 h : H) : StF h0 h (zeroS.cells nils nils) zeroS := ⟨nils, nils, rfl, (Own.nil _ _ _).fre, (Own.nil _ _ _).fre, fun b hb => by cases hb⟩
/-- impl.StateRead -/
def b_impl_StateRead : C := (.seq (.ops [⟨(some 2), none, .alloc [(i64 0), (i64 0), (i64 0), (i64 0), (i64 0), (str []), nils, nils, (i64 0)]⟩])
 (.seq (.seq (.ops [q 5 (.mv (.t 0)), q 6 (.slen (.t 5)), q 7 (.bin .gtr (.t 6) (.c (i64 8000)))])
 (.cond (.t 7) (.seq (.ops [q 8 (.build [(i64 0), (i64 0), (i64 0), (i64 0), (i64 0), (str []), nils, nils, (i64 0)] [(8, 1, (.c (i64 2)))]), ⟨none, none, .st 9 (.t 2) (.t 8)⟩])
 .ret) .skip))
 (.seq (.ops [q 10 (.mv (.t 0)), ⟨(some 11), none, .call (.c (.func (.func 22) #[] #[])) [(.t 10)]⟩, q 9 (.mv (.t 11)), q 12 (.ext 0 (.t 9)), q 13 (.ext 1 (.t 9)), ⟨(some 3), none, .alloc [(i64 0), (i64 0), (i64 0), (i64 0), (i64 0), (str []), nils, nils]⟩, ⟨none, none, .st 8 (.t 3) (.t 12)⟩, q 4 (.mv (.t 13))])
 (.seq (.seq (.ops [q 14 (.mv (.t 4)), q 15 (.un .not (.t 14))])
 (.cond (.t 15) (.seq (.ops [q 16 (.build [(i64 0), (i64 0), (i64 0), (i64 0), (i64 0), (str []), nils, nils, (i64 0)] [(8, 1, (.c (i64 3)))]), ⟨none, none, .st 9 (.t 2) (.t 16)⟩])
 .ret) .skip))
 (.seq (.ops [q 17 (.ld true 8 (.t 3)), q 18 (.build [(i64 0), (i64 0), (i64 0), (i64 0), (i64 0), (str []), nils, nils, (i64 0)] [(0, 8, (.t 17))]), ⟨none, none, .st 9 (.t 2) (.t 18)⟩])
 .ret)))))
theorem w_impl_StateRead {args : List Value} {h : H} {Q : Value → H → Prop} (hl : args.length ≤ 19) (hk : wpc Try.prog b_impl_StateRead (retw [.cell 2 true 9] Q) (argsFr args) h) : AC Try.prog 7 args h Q :=
  AC.of_wpc mixedOrders Try.func7 (by kernel_rfl) (by kernel_rfl : prepF Try.prog Try.f7 = some ⟨19, [.cell 2 true 9], b_impl_StateRead⟩) hl hk

theorem implStateRead_ac {h : H} {t : List UInt8} : AC Try.prog 7 [str t] h fun r h' => Ext h h' ∧ ∃ cs, r = .agg cs.toArray ∧ StoF h h' cs (stOut t) := by
  refine w_impl_StateRead (by simp) ?_
  unfold b_impl_StateRead
  simp -implicitDefEqProofs only [go_sem]
  intro b2 hb_b2 n_b2
  unfold stOut
  by_cases h8 : 8000 < t.length
  · simp -implicitDefEqProofs only [go_sem, show (8000 : Int) < (t.length : Int) by omega, hb_b2]
    rw [if_pos h8]
    exact ⟨((Ext.refl _).set' n_b2 _), _, rfl, _, rfl, zero_f _ _⟩
  rw [if_neg h8]
  simp -implicitDefEqProofs only [go_sem, show ¬ (8000 : Int) < (t.length : Int) by omega, hb_b2]
  refine AC_of (stateRead_ac (by omega)) ?_
  rintro _ h1 - ⟨x1, cs, rfl, f1⟩
  have g2 := x1.2.g b2 _ (H.set_get_same _ _ _)
  have hb1 := x1.1
  simp only [H.set_base] at hb1
  cases hs : stI t with
  | none =>
    rw [hs] at f1
    simp only [Option.getD_none, Option.isSome_none] at f1 ⊢
    obtain ⟨vh, vm, rfl, fh, fm, d⟩ := f1
    obtain ⟨ah, ch, rfl⟩ := fh.shape
    obtain ⟨am, cm, rfl⟩ := fm.shape
    simp -implicitDefEqProofs only [go_sem, hb_b2]
    intro b3 hb3 n3
    rw [hb1] at hb3
    have y2 : (b2 = b3) = False := eq_false fun e => by rw [e, n3] at g2; cases g2
    simp -implicitDefEqProofs only [go_sem, ldc_get g2, stc_get g2, hb1, hb3, y2, hb_b2]
    have E := fun x y => (((Ext.trans ((Ext.refl _).set' n_b2 _) x1).set' n_b2 x).set' (Ext.none (Ext.trans ((Ext.refl _).set' n_b2 _) x1) n3) y)
    exact ⟨E _ _, _, rfl, _, rfl, zero_f _ _⟩
  | some s =>
    rw [hs] at f1
    simp only [Option.getD_some, Option.isSome_some] at f1 ⊢
    obtain ⟨vh, vm, rfl, fh, fm, d⟩ := f1
    obtain ⟨ah, ch, rfl⟩ := fh.shape
    obtain ⟨am, cm, rfl⟩ := fm.shape
    simp -implicitDefEqProofs only [go_sem, hb_b2]
    intro b3 hb3 n3
    rw [hb1] at hb3
    have y2 : (b2 = b3) = False := eq_false fun e => by rw [e, n3] at g2; cases g2
    simp -implicitDefEqProofs only [go_sem, ldc_get g2, stc_get g2, hb1, hb3, y2, hb_b2]
    have E := fun x y => (((Ext.trans ((Ext.refl _).set' n_b2 _) x1).set' n_b2 x).set' (Ext.none (Ext.trans ((Ext.refl _).set' n_b2 _) x1) n3) y)
    refine ⟨E _ _, _, rfl, _, rfl, _, _, rfl, ?_, ?_, d⟩
    · exact ((fh.set (H.set_get_same _ _ _) _).ext ((Ext.refl _).set (by rw [H.set_get_ne _ _ _ _ (fun e => (of_eq_false y2) e.symm)]; exact n3) _)).back ((Ext.refl _).set' n_b2 _)
    · exact ((fm.set (H.set_get_same _ _ _) _).ext ((Ext.refl _).set (by rw [H.set_get_ne _ _ _ _ (fun e => (of_eq_false y2) e.symm)]; exact n3) _)).back ((Ext.refl _).set' n_b2 _)
/-- Seven numbers and a text that read well. -/
def RdS (t : List UInt8) (v1 v2 v3 v4 v5 v6 v7 : Int) (v8 : List UInt8) (e : Nat) : Prop := ∃ a1 a2 a3 a4 a5 a6 a7, getN t 0 = (v1, a1, 0) ∧ getN t a1 = (v2, a2, 0) ∧ getN t a2 = (v3, a3, 0) ∧ getN t a3 = (v4, a4, 0) ∧ getN t a4 = (v5, a5, 0) ∧ getN t a5 = (v6, a6, 0) ∧ getN t a6 = (v7, a7, 0) ∧ getT t a7 = (v8, e, 0)
theorem RdS.eq {t v8 : List UInt8} {v1 v2 v3 v4 v5 v6 v7 : Int} {e : Nat} (r : RdS t v1 v2 v3 v4 v5 v6 v7 v8 e) : t = putNum v1 ++ (putNum v2 ++ (putNum v3 ++ (putNum v4 ++ (putNum v5 ++ (putNum v6 ++ (putNum v7 ++ (putText v8 ++ t.drop e))))))) ∧ 0 < e ∧ e ≤ t.length := by
  obtain ⟨a1, a2, a3, a4, a5, a6, a7, g1, g2, g3, g4, g5, g6, g7, g8⟩ := r
  obtain ⟨k1, _⟩ := getN_ok g1
  obtain ⟨k2, _⟩ := getN_ok g2
  obtain ⟨k3, _⟩ := getN_ok g3
  obtain ⟨k4, _⟩ := getN_ok g4
  obtain ⟨k5, _⟩ := getN_ok g5
  obtain ⟨k6, _⟩ := getN_ok g6
  obtain ⟨k7, _⟩ := getN_ok g7
  obtain ⟨k8, x2, x3, x4⟩ := getT_ok g8
  refine ⟨?_, by omega, x3⟩
  rw [List.drop_zero, k2, k3, k4, k5, k6, k7, k8] at k1
  exact k1
theorem RdS.st {t v8 : List UInt8} {v1 v2 v3 v4 v5 v6 v7 : Int} {e : Nat} (r : RdS t v1 v2 v3 v4 v5 v6 v7 v8 e) : stI t = if e = t.length ∧ (0 ≤ v6 ∧ v6 ≤ 16777215) ∧ (0 ≤ v7 ∧ v7 ≤ 16777215) ∧ stateOk ⟨v1, v2, v3, v4, v5, v8, fromI v6, fromI v7⟩ then some ⟨v1, v2, v3, v4, v5, v8, fromI v6, fromI v7⟩ else none := by
  obtain ⟨a1, a2, a3, a4, a5, a6, a7, g1, g2, g3, g4, g5, g6, g7, g8⟩ := r
  unfold stI
  simp only [numI_ok _ g1, numI_ok _ g2, numI_ok _ g3, numI_ok _ g4, numI_ok _ g5, numI_ok _ g6, numI_ok _ g7, textI_ok _ g8, true_and]
theorem stI_rd {t : List UInt8} (h : ¬ ∃ v1 v2 v3 v4 v5 v6 v7 v8 e, RdS t v1 v2 v3 v4 v5 v6 v7 v8 e) : stI t = none := by
  obtain ⟨v1, a1, c1, e1⟩ : ∃ k a c, numI t 0 false = (k, a, c) := ⟨_, _, _, rfl⟩
  obtain ⟨v2, a2, c2, e2⟩ : ∃ k a c, numI t a1 c1 = (k, a, c) := ⟨_, _, _, rfl⟩
  obtain ⟨v3, a3, c3, e3⟩ : ∃ k a c, numI t a2 c2 = (k, a, c) := ⟨_, _, _, rfl⟩
  obtain ⟨v4, a4, c4, e4⟩ : ∃ k a c, numI t a3 c3 = (k, a, c) := ⟨_, _, _, rfl⟩
  obtain ⟨v5, a5, c5, e5⟩ : ∃ k a c, numI t a4 c4 = (k, a, c) := ⟨_, _, _, rfl⟩
  obtain ⟨v6, a6, c6, e6⟩ : ∃ k a c, numI t a5 c5 = (k, a, c) := ⟨_, _, _, rfl⟩
  obtain ⟨v7, a7, c7, e7⟩ : ∃ k a c, numI t a6 c6 = (k, a, c) := ⟨_, _, _, rfl⟩
  obtain ⟨v8, a8, c8, e8⟩ : ∃ k a c, textI t a7 c7 = (k, a, c) := ⟨_, _, _, rfl⟩
  unfold stI
  simp only [e1, e2, e3, e4, e5, e6, e7, e8]
  cases c8 with
  | true => rw [if_neg (by simp)]
  | false =>
    obtain ⟨rfl, g8⟩ := textI_inv e8
    obtain ⟨rfl, g7⟩ := numI_inv e7
    obtain ⟨rfl, g6⟩ := numI_inv e6
    obtain ⟨rfl, g5⟩ := numI_inv e5
    obtain ⟨rfl, g4⟩ := numI_inv e4
    obtain ⟨rfl, g3⟩ := numI_inv e3
    obtain ⟨rfl, g2⟩ := numI_inv e2
    obtain ⟨_, g1⟩ := numI_inv e1
    exact absurd ⟨_, _, _, _, _, _, _, _, _, _, _, _, _, _, _, _, g1, g2, g3, g4, g5, g6, g7, g8⟩ h
theorem RdS.iff {t v8 : List UInt8} {v1 v2 v3 v4 v5 v6 v7 : Int} {e : Nat} (r : RdS t v1 v2 v3 v4 v5 v6 v7 v8 e) : stateBytes ⟨v1, v2, v3, v4, v5, v8, fromI v6, fromI v7⟩ = t ↔ e = t.length ∧ (0 ≤ v6 ∧ v6 ≤ 16777215) ∧ (0 ≤ v7 ∧ v7 ≤ 16777215) ∧ stateOk ⟨v1, v2, v3, v4, v5, v8, fromI v6, fromI v7⟩ := by
  obtain ⟨h1, h2, h3⟩ := r.eq
  unfold stateBytes
  constructor
  · intro h
    split at h
    · rename_i hok
      have hb := h
      rw [h1] at hb
      unfold stateB at hb
      simp only [List.append_assoc] at hb
      obtain ⟨-, hb⟩ := putNum_inj hb
      obtain ⟨-, hb⟩ := putNum_inj hb
      obtain ⟨-, hb⟩ := putNum_inj hb
      obtain ⟨-, hb⟩ := putNum_inj hb
      obtain ⟨-, hb⟩ := putNum_inj hb
      obtain ⟨p6, hb⟩ := putNum_inj hb
      obtain ⟨p7, hb⟩ := putNum_inj hb
      have l6 := bits24 hok.2.1
      have l7 := bits24 hok.2.2.1
      simp only at l6 l7
      have hl := congrArg List.length hb
      simp only [List.length_append, List.length_drop] at hl
      exact ⟨by omega, by omega, by omega, hok⟩
    · subst h; simp at h3; omega
  · rintro ⟨rfl, h6, h7, hok⟩
    rw [if_pos hok]
    unfold stateB
    simp only [fromI_bits h6, fromI_bits h7]
    rw [List.drop_length, List.append_nil] at h1
    simp only [List.append_assoc]
    exact h1.symm
theorem rdS_of {t v8 : List UInt8} {v1 v2 v3 v4 v5 v6 v7 : Int} {a1 a2 a3 a4 a5 a6 a7 a8 : Nat} {c1 c2 c3 c4 c5 c6 c7 c8 : Bool} (e1 : numS t 0 false = (v1, a1, c1)) (e2 : numS t a1 c1 = (v2, a2, c2)) (e3 : numS t a2 c2 = (v3, a3, c3)) (e4 : numS t a3 c3 = (v4, a4, c4)) (e5 : numS t a4 c4 = (v5, a5, c5)) (e6 : numS t a5 c5 = (v6, a6, c6)) (e7 : numS t a6 c6 = (v7, a7, c7)) (e8 : textS t a7 c7 = (v8, a8, c8)) : (c8 = false → RdS t v1 v2 v3 v4 v5 v6 v7 v8 a8) ∧ (c8 = true → stI t = none) := by
  constructor
  · rintro rfl
    obtain ⟨rfl, g8⟩ := textS_inv e8
    obtain ⟨rfl, g7⟩ := numS_inv e7
    obtain ⟨rfl, g6⟩ := numS_inv e6
    obtain ⟨rfl, g5⟩ := numS_inv e5
    obtain ⟨rfl, g4⟩ := numS_inv e4
    obtain ⟨rfl, g3⟩ := numS_inv e3
    obtain ⟨rfl, g2⟩ := numS_inv e2
    obtain ⟨_, g1⟩ := numS_inv e1
    exact ⟨_, _, _, _, _, _, _, g1, g2, g3, g4, g5, g6, g7, g8⟩
  · rintro rfl
    refine stI_rd ?_
    rintro ⟨u1, u2, u3, u4, u5, u6, u7, u8, e, y1, y2, y3, y4, y5, y6, y7, g1, g2, g3, g4, g5, g6, g7, g8⟩
    rw [numS_ok g1] at e1; simp only [Prod.mk.injEq] at e1; obtain ⟨rfl, rfl, rfl⟩ := e1
    rw [numS_ok g2] at e2; simp only [Prod.mk.injEq] at e2; obtain ⟨rfl, rfl, rfl⟩ := e2
    rw [numS_ok g3] at e3; simp only [Prod.mk.injEq] at e3; obtain ⟨rfl, rfl, rfl⟩ := e3
    rw [numS_ok g4] at e4; simp only [Prod.mk.injEq] at e4; obtain ⟨rfl, rfl, rfl⟩ := e4
    rw [numS_ok g5] at e5; simp only [Prod.mk.injEq] at e5; obtain ⟨rfl, rfl, rfl⟩ := e5
    rw [numS_ok g6] at e6; simp only [Prod.mk.injEq] at e6; obtain ⟨rfl, rfl, rfl⟩ := e6
    rw [numS_ok g7] at e7; simp only [Prod.mk.injEq] at e7; obtain ⟨rfl, rfl, rfl⟩ := e7
    rw [textS_ok g8] at e8; simp at e8
/-- spec.StateRead -/
def b_spec_StateRead : C := (.seq (.ops [⟨(some 2), none, .alloc [(i64 0), (i64 0), (i64 0), (i64 0), (i64 0), (str []), nils, nils, (i64 0)]⟩])
 (.seq (.seq (.ops [q 5 (.mv (.t 0)), q 6 (.slen (.t 5)), q 7 (.bin .gtr (.t 6) (.c (i64 8000)))])
 (.cond (.t 7) (.seq (.ops [q 8 (.build [(i64 0), (i64 0), (i64 0), (i64 0), (i64 0), (str []), nils, nils, (i64 0)] [(8, 1, (.c (i64 2)))]), ⟨none, none, .st 9 (.t 2) (.t 8)⟩])
 .ret) .skip))
 (.seq (.ops [q 9 (.mv (.t 0)), q 10 (.build [(str []), (i64 0), (.bool false)] [(0, 1, (.t 9))]), ⟨(some 11), none, .box (.t 10)⟩, q 3 (.mv (.t 11))])
 (.seq (.ops [q 12 (.mv (.t 3)), ⟨(some 13), none, .call (.c (.func (.func 26) #[] #[])) [(.t 12)]⟩, q 14 (.build [(i64 0), (i64 0), (i64 0), (i64 0), (i64 0), (str []), nils, nils] [(0, 1, (.t 13))]), ⟨(some 4), none, .alloc [(i64 0), (i64 0), (i64 0), (i64 0), (i64 0), (str []), nils, nils]⟩, ⟨none, none, .st 8 (.t 4) (.t 14)⟩])
 (.seq (.ops [q 15 (.mv (.t 3)), ⟨(some 16), none, .call (.c (.func (.func 26) #[] #[])) [(.t 15)]⟩, q 17 (.fld 1 (.t 4)), ⟨none, none, .st 1 (.t 17) (.t 16)⟩])
 (.seq (.ops [q 18 (.mv (.t 3)), ⟨(some 19), none, .call (.c (.func (.func 26) #[] #[])) [(.t 18)]⟩, q 20 (.fld 2 (.t 4)), ⟨none, none, .st 1 (.t 20) (.t 19)⟩])
 (.seq (.ops [q 21 (.mv (.t 3)), ⟨(some 22), none, .call (.c (.func (.func 26) #[] #[])) [(.t 21)]⟩, q 23 (.fld 3 (.t 4)), ⟨none, none, .st 1 (.t 23) (.t 22)⟩])
 (.seq (.ops [q 24 (.mv (.t 3)), ⟨(some 25), none, .call (.c (.func (.func 26) #[] #[])) [(.t 24)]⟩, q 26 (.fld 4 (.t 4)), ⟨none, none, .st 1 (.t 26) (.t 25)⟩])
 (.seq (.ops [q 27 (.mv (.t 3)), ⟨(some 28), none, .call (.c (.func (.func 26) #[] #[])) [(.t 27)]⟩, ⟨(some 29), none, .call (.c (.func (.func 27) #[] #[])) [(.t 28)]⟩, q 30 (.fld 6 (.t 4)), ⟨none, none, .st 1 (.t 30) (.t 29)⟩])
 (.seq (.ops [q 31 (.mv (.t 3)), ⟨(some 32), none, .call (.c (.func (.func 26) #[] #[])) [(.t 31)]⟩, ⟨(some 33), none, .call (.c (.func (.func 27) #[] #[])) [(.t 32)]⟩, q 34 (.fld 7 (.t 4)), ⟨none, none, .st 1 (.t 34) (.t 33)⟩])
 (.seq (.ops [q 35 (.mv (.t 3)), ⟨(some 36), none, .call (.c (.func (.func 28) #[] #[])) [(.t 35)]⟩, q 37 (.fld 5 (.t 4)), ⟨none, none, .st 1 (.t 37) (.t 36)⟩])
 (.seq (.seq (.ops [q 38 (.mv (.t 3)), q 39 (.nck (.t 38)), q 40 (.fld 2 (.t 39)), q 41 (.ld false 1 (.t 40)), q 42 (.mv (.t 41)), qg 43 42 false (.ld true 8 (.t 4)), ⟨(some 44), (some (42, false)), .call (.c (.func (.func 9) #[] #[])) [(.t 43)]⟩, qg 45 42 false (.mv (.t 0)), qg 46 42 false (.bin .neq (.t 44) (.t 45)), q 47 (.pick (.t 42) (.c (.bool true)) (.t 46))])
 (.cond (.t 47) (.seq (.ops [q 48 (.build [(i64 0), (i64 0), (i64 0), (i64 0), (i64 0), (str []), nils, nils, (i64 0)] [(8, 1, (.c (i64 3)))]), ⟨none, none, .st 9 (.t 2) (.t 48)⟩])
 .ret) .skip))
 (.seq (.ops [q 49 (.ld true 8 (.t 4)), q 50 (.build [(i64 0), (i64 0), (i64 0), (i64 0), (i64 0), (str []), nils, nils, (i64 0)] [(0, 8, (.t 49))]), ⟨none, none, .st 9 (.t 2) (.t 50)⟩])
 .ret)))))))))))))
theorem w_spec_StateRead {args : List Value} {h : H} {Q : Value → H → Prop} (hl : args.length ≤ 51) (hk : wpc Try.prog b_spec_StateRead (retw [.cell 2 true 9] Q) (argsFr args) h) : AC Try.prog 11 args h Q :=
  AC.of_wpc mixedOrders Try.func11 (by kernel_rfl) (by kernel_rfl : prepF Try.prog Try.f11 = some ⟨51, [.cell 2 true 9], b_spec_StateRead⟩) hl hk

set_option maxHeartbeats 2000000 in
theorem specStateRead_ac {h : H} {t : List UInt8} : AC Try.prog 11 [str t] h fun r h' => Ext h h' ∧ ∃ cs, r = .agg cs.toArray ∧ StoF h h' cs (stOut t) := by
  refine w_spec_StateRead (by simp) ?_
  unfold b_spec_StateRead
  simp -implicitDefEqProofs only [go_sem]
  intro b2 hb_b2 n_b2
  unfold stOut
  by_cases h8 : 8000 < t.length
  · simp -implicitDefEqProofs only [go_sem, show (8000 : Int) < (t.length : Int) by omega, hb_b2]
    rw [if_pos h8]
    exact ⟨((Ext.refl _).set' n_b2 _), _, rfl, _, rfl, zero_f _ _⟩
  rw [if_neg h8]
  have ht : t.length ≤ 8000 := by omega
  obtain ⟨v1, a1, c1, e1⟩ : ∃ k a c, numS t 0 false = (k, a, c) := ⟨_, _, _, rfl⟩
  obtain ⟨v2, a2, c2, e2⟩ : ∃ k a c, numS t a1 c1 = (k, a, c) := ⟨_, _, _, rfl⟩
  obtain ⟨v3, a3, c3, e3⟩ : ∃ k a c, numS t a2 c2 = (k, a, c) := ⟨_, _, _, rfl⟩
  obtain ⟨v4, a4, c4, e4⟩ : ∃ k a c, numS t a3 c3 = (k, a, c) := ⟨_, _, _, rfl⟩
  obtain ⟨v5, a5, c5, e5⟩ : ∃ k a c, numS t a4 c4 = (k, a, c) := ⟨_, _, _, rfl⟩
  obtain ⟨v6, a6, c6, e6⟩ : ∃ k a c, numS t a5 c5 = (k, a, c) := ⟨_, _, _, rfl⟩
  obtain ⟨v7, a7, c7, e7⟩ : ∃ k a c, numS t a6 c6 = (k, a, c) := ⟨_, _, _, rfl⟩
  obtain ⟨v8, a8, c8, e8⟩ : ∃ k a c, textS t a7 c7 = (k, a, c) := ⟨_, _, _, rfl⟩
  have l1 := numS_eq e1 (by omega) ht
  have l2 := numS_eq e2 l1 ht
  have l3 := numS_eq e3 l2 ht
  have l4 := numS_eq e4 l3 ht
  have l5 := numS_eq e5 l4 ht
  have l6 := numS_eq e6 l5 ht
  have l7 := numS_eq e7 l6 ht
  simp -implicitDefEqProofs only [go_sem, show ¬ (8000 : Int) < (t.length : Int) by omega, hb_b2]
  intro b11 hb_b11 m0_b11
  obtain ⟨z_b11_b2, y_b11_b2, n_b11⟩ := fne m0_b11
  simp only [H.set_base] at hb_b11
  simp -implicitDefEqProofs only [go_sem, hb_b2, hb_b11, z_b11_b2, y_b11_b2]
  have hb0 : h.base = h.base := rfl
  refine AC_of (srnum e1 (by simp only [H.set_base, hb0]; assumption) (H.set_get_same _ _ _) ht (by omega)) ?_
  rintro _ _ - ⟨rfl, rfl⟩
  rw [H.set_set]
  simp -implicitDefEqProofs only [go_sem, hb_b2, hb_b11, z_b11_b2, y_b11_b2]
  intro b4 hb_b4 m0_b4
  obtain ⟨z_b4_b11, y_b4_b11, m1_b4⟩ := fne m0_b4
  obtain ⟨z_b4_b2, y_b4_b2, n_b4⟩ := fne m1_b4
  simp only [H.set_base] at hb_b4
  have z := of_eq_false z_b4_b11
  simp -implicitDefEqProofs only [go_sem, hb_b2, hb_b11, z_b11_b2, y_b11_b2, hb_b4, z_b4_b11, y_b4_b11, z_b4_b2, y_b4_b2]
  refine AC_of (srnum e2 (by simp only [H.set_base, hb0]; assumption) (by simp -implicitDefEqProofs only [go_sem, hb_b2, hb_b11, z_b11_b2, y_b11_b2, hb_b4, z_b4_b11, y_b4_b11, z_b4_b2, y_b4_b2]; rfl) ht (by omega)) ?_
  rintro _ _ - ⟨rfl, rfl⟩
  rw [set_over z]
  simp -implicitDefEqProofs only [go_sem, hb_b2, hb_b11, z_b11_b2, y_b11_b2, hb_b4, z_b4_b11, y_b4_b11, z_b4_b2, y_b4_b2]
  refine AC_of (srnum e3 (by simp only [H.set_base, hb0]; assumption) (by simp -implicitDefEqProofs only [go_sem, hb_b2, hb_b11, z_b11_b2, y_b11_b2, hb_b4, z_b4_b11, y_b4_b11, z_b4_b2, y_b4_b2]; rfl) ht (by omega)) ?_
  rintro _ _ - ⟨rfl, rfl⟩
  rw [set_over z]
  simp -implicitDefEqProofs only [go_sem, hb_b2, hb_b11, z_b11_b2, y_b11_b2, hb_b4, z_b4_b11, y_b4_b11, z_b4_b2, y_b4_b2]
  refine AC_of (srnum e4 (by simp only [H.set_base, hb0]; assumption) (by simp -implicitDefEqProofs only [go_sem, hb_b2, hb_b11, z_b11_b2, y_b11_b2, hb_b4, z_b4_b11, y_b4_b11, z_b4_b2, y_b4_b2]; rfl) ht (by omega)) ?_
  rintro _ _ - ⟨rfl, rfl⟩
  rw [set_over z]
  simp -implicitDefEqProofs only [go_sem, hb_b2, hb_b11, z_b11_b2, y_b11_b2, hb_b4, z_b4_b11, y_b4_b11, z_b4_b2, y_b4_b2]
  refine AC_of (srnum e5 (by simp only [H.set_base, hb0]; assumption) (by simp -implicitDefEqProofs only [go_sem, hb_b2, hb_b11, z_b11_b2, y_b11_b2, hb_b4, z_b4_b11, y_b4_b11, z_b4_b2, y_b4_b2]; rfl) ht (by omega)) ?_
  rintro _ _ - ⟨rfl, rfl⟩
  rw [set_over z]
  simp -implicitDefEqProofs only [go_sem, hb_b2, hb_b11, z_b11_b2, y_b11_b2, hb_b4, z_b4_b11, y_b4_b11, z_b4_b2, y_b4_b2]
  refine AC_of (srnum e6 (by simp only [H.set_base, hb0]; assumption) (by simp -implicitDefEqProofs only [go_sem, hb_b2, hb_b11, z_b11_b2, y_b11_b2, hb_b4, z_b4_b11, y_b4_b11, z_b4_b2, y_b4_b2]; rfl) ht (by omega)) ?_
  rintro _ _ - ⟨rfl, rfl⟩
  rw [set_over z]
  simp -implicitDefEqProofs only [go_sem, hb_b2, hb_b11, z_b11_b2, y_b11_b2, hb_b4, z_b4_b11, y_b4_b11, z_b4_b2, y_b4_b2]
  refine AC_of specFromBits_ac ?_
  rintro w1 h1 - ⟨x1, o1⟩
  have g2 := x1.2.g b2 _ (by simp -implicitDefEqProofs only [go_sem, hb_b2, hb_b11, z_b11_b2, y_b11_b2, hb_b4, z_b4_b11, y_b4_b11, z_b4_b2, y_b4_b2]; rfl)
  have g4 := x1.2.g b4 _ (by simp -implicitDefEqProofs only [go_sem, hb_b2, hb_b11, z_b11_b2, y_b11_b2, hb_b4, z_b4_b11, y_b4_b11, z_b4_b2, y_b4_b2]; rfl)
  have g11 := x1.2.g b11 _ (by simp -implicitDefEqProofs only [go_sem, hb_b2, hb_b11, z_b11_b2, y_b11_b2, hb_b4, z_b4_b11, y_b4_b11, z_b4_b2, y_b4_b2]; rfl)
  have hb1 := x1.1
  simp only [H.set_base] at hb1
  obtain ⟨p1, q1, rfl⟩ := o1.shape
  have f1 := o1.fre
  have E1 := Ext.trans ((((Ext.refl _).set' n_b2 _).set' n_b11 _).set' n_b4 _) x1
  simp -implicitDefEqProofs only [go_sem, ldc_get g4, stc_get g4, hb1, hb_b2, hb_b11, z_b11_b2, y_b11_b2, hb_b4, z_b4_b11, y_b4_b11, z_b4_b2, y_b4_b2]
  refine AC_of (srnum e7 (by simp only [H.set_base, hb1]; assumption) (by rw [H.set_get_ne _ _ _ _ (fun e => z e.symm)]; exact g11) ht (by omega)) ?_
  rintro _ _ - ⟨rfl, rfl⟩
  simp -implicitDefEqProofs only [go_sem, hb1, hb_b2, hb_b11, z_b11_b2, y_b11_b2, hb_b4, z_b4_b11, y_b4_b11, z_b4_b2, y_b4_b2]
  refine AC_of specFromBits_ac ?_
  rintro w2 h2 - ⟨x2, o2⟩
  have k2 := x2.2.g b2 _ (by simp -implicitDefEqProofs only [go_sem, g2, hb_b2, hb_b11, z_b11_b2, y_b11_b2, hb_b4, z_b4_b11, y_b4_b11, z_b4_b2, y_b4_b2]; rfl)
  have k4 := x2.2.g b4 _ (by simp -implicitDefEqProofs only [go_sem, g4, hb_b2, hb_b11, z_b11_b2, y_b11_b2, hb_b4, z_b4_b11, y_b4_b11, z_b4_b2, y_b4_b2]; rfl)
  have k11 := x2.2.g b11 _ (by simp -implicitDefEqProofs only [go_sem, hb_b2, hb_b11, z_b11_b2, y_b11_b2, hb_b4, z_b4_b11, y_b4_b11, z_b4_b2, y_b4_b2]; rfl)
  have hb2 := x2.1
  simp only [H.set_base, hb1] at hb2
  obtain ⟨p2, q2, rfl⟩ := o2.shape
  have f2 := o2.fre
  have E2 : Ext h h2 := Ext.trans ((E1.set' n_b4 _).set' n_b11 _) x2
  have d := Dj.of ((f1.set (b := b4) (by simp -implicitDefEqProofs only [go_sem, hb_b2, hb_b11, z_b11_b2, y_b11_b2, hb_b4, z_b4_b11, y_b4_b11, z_b4_b2, y_b4_b2]; rfl) ⟨[i64 v1, i64 v2, i64 v3, i64 v4, i64 v5, str [], .slice p1 (ints (fromI v6)).length q1, nils], 8⟩).set (b := b11) (by simp -implicitDefEqProofs only [go_sem, hb_b2, hb_b11, z_b11_b2, y_b11_b2, hb_b4, z_b4_b11, y_b4_b11, z_b4_b2, y_b4_b2]; rfl) ⟨rdc t a7 c7, 3⟩).known f2.new
  have f1 := ((f1.set (b := b4) (by simp -implicitDefEqProofs only [go_sem, hb_b2, hb_b11, z_b11_b2, y_b11_b2, hb_b4, z_b4_b11, y_b4_b11, z_b4_b2, y_b4_b2]; rfl) _).set (b := b11) (by simp -implicitDefEqProofs only [go_sem, hb_b2, hb_b11, z_b11_b2, y_b11_b2, hb_b4, z_b4_b11, y_b4_b11, z_b4_b2, y_b4_b2]; rfl) _).ext x2
  simp -implicitDefEqProofs only [go_sem, ldc_get k4, stc_get k4, hb2, hb_b2, hb_b11, z_b11_b2, y_b11_b2, hb_b4, z_b4_b11, y_b4_b11, z_b4_b2, y_b4_b2]
  refine AC_of (srtext e8 (by simp only [H.set_base, hb2]; assumption) (by rw [H.set_get_ne _ _ _ _ (fun e => z e.symm)]; exact k11) ht (by omega)) ?_
  rintro _ _ - ⟨rfl, rfl⟩
  simp -implicitDefEqProofs only [go_sem, hb2, hb_b2, hb_b11, z_b11_b2, y_b11_b2, hb_b4, z_b4_b11, y_b4_b11, z_b4_b2, y_b4_b2]
  have bad : stI t = none → ∀ h' : H, Ext h h' → Ext h h' ∧ ∃ cs, Value.agg #[i64 0, i64 0, i64 0, i64 0, i64 0, str [], nils, nils, i64 3] = .agg cs.toArray ∧ StoF h h' cs (match stI t with | none => (zeroS, 3) | some s => (s, 0)) := by
    intro hn h' hx
    rw [hn]
    exact ⟨hx, _, rfl, _, rfl, zero_f _ _⟩
  have E3 : ∀ x y z, Ext h (((h2.set b2 x).set b4 y).set b11 z) := fun x y z => ((E2.set' n_b2 _).set' n_b4 _).set' n_b11 _
  obtain ⟨hrd, hno⟩ := rdS_of e1 e2 e3 e4 e5 e6 e7 e8
  cases c8 with
  | true =>
    simp -implicitDefEqProofs only [go_sem, ldc_get k4, stc_get k4, ldc_get k2, stc_get k2, hb2, hb_b2, hb_b11, z_b11_b2, y_b11_b2, hb_b4, z_b4_b11, y_b4_b11, z_b4_b2, y_b4_b2]
    exact bad (hno rfl) _ (E3 _ _ _)
  | false =>
    have hr := hrd rfl
    have hst := hr.st
    have hif := hr.iff
    simp -implicitDefEqProofs only [go_sem, ldc_get k4, stc_get k4, hb2, hb_b2, hb_b11, z_b11_b2, y_b11_b2, hb_b4, z_b4_b11, y_b4_b11, z_b4_b2, y_b4_b2]
    refine (specStateBytes_pc ⟨v1, v2, v3, v4, v5, v8, fromI v6, fromI v7⟩ (vh := .slice p1 (ints (fromI v6)).length q1) (vm := .slice p2 (ints (fromI v7)).length q2) ?_ ?_ ⟨by have := fromI_len v6; simp only; omega, by have := fromI_len v7; simp only; omega⟩).use ?_
    · exact ((f1.set (b := b4) (by simp -implicitDefEqProofs only [go_sem, hb_b2, hb_b11, z_b11_b2, y_b11_b2, hb_b4, z_b4_b11, y_b4_b11, z_b4_b2, y_b4_b2]; rfl) _).set (b := b11) (by simp -implicitDefEqProofs only [go_sem, hb_b2, hb_b11, z_b11_b2, y_b11_b2, hb_b4, z_b4_b11, y_b4_b11, z_b4_b2, y_b4_b2]; rfl) _).sl
    · exact ((f2.set (b := b4) (by simp -implicitDefEqProofs only [go_sem, hb_b2, hb_b11, z_b11_b2, y_b11_b2, hb_b4, z_b4_b11, y_b4_b11, z_b4_b2, y_b4_b2]; rfl) _).set (b := b11) (by simp -implicitDefEqProofs only [go_sem, hb_b2, hb_b11, z_b11_b2, y_b11_b2, hb_b4, z_b4_b11, y_b4_b11, z_b4_b2, y_b4_b2]; rfl) _).sl
    by_cases hb : stateBytes ⟨v1, v2, v3, v4, v5, v8, fromI v6, fromI v7⟩ = t
    · rw [if_pos (hif.1 hb)] at hst
      simp -implicitDefEqProofs only [go_sem, ldc_get k4, stc_get k4, ldc_get k2, stc_get k2, hb2, hb, hb_b2, hb_b11, z_b11_b2, y_b11_b2, hb_b4, z_b4_b11, y_b4_b11, z_b4_b2, y_b4_b2]
      rw [hst]
      refine ⟨E3 _ _ _, _, rfl, _, rfl, _, _, rfl, ?_, ?_, d⟩
      · exact (((f1.set (b := b2) (by simp -implicitDefEqProofs only [go_sem, hb_b2, hb_b11, z_b11_b2, y_b11_b2, hb_b4, z_b4_b11, y_b4_b11, z_b4_b2, y_b4_b2]; rfl) _).set (b := b4) (by simp -implicitDefEqProofs only [go_sem, hb_b2, hb_b11, z_b11_b2, y_b11_b2, hb_b4, z_b4_b11, y_b4_b11, z_b4_b2, y_b4_b2]; rfl) _).set (b := b11) (by simp -implicitDefEqProofs only [go_sem, hb_b2, hb_b11, z_b11_b2, y_b11_b2, hb_b4, z_b4_b11, y_b4_b11, z_b4_b2, y_b4_b2]; rfl) _).back ((((Ext.refl _).set' n_b2 _).set' n_b11 _).set' n_b4 _)
      · exact (((f2.set (b := b2) (by simp -implicitDefEqProofs only [go_sem, g2, hb_b2, hb_b11, z_b11_b2, y_b11_b2, hb_b4, z_b4_b11, y_b4_b11, z_b4_b2, y_b4_b2]; rfl) _).set (b := b4) (by simp -implicitDefEqProofs only [go_sem, g4, hb_b2, hb_b11, z_b11_b2, y_b11_b2, hb_b4, z_b4_b11, y_b4_b11, z_b4_b2, y_b4_b2]; rfl) _).set (b := b11) (by simp -implicitDefEqProofs only [go_sem, hb_b2, hb_b11, z_b11_b2, y_b11_b2, hb_b4, z_b4_b11, y_b4_b11, z_b4_b2, y_b4_b2]; rfl) _).back ((E1.set' n_b4 _).set' n_b11 _)
    · rw [if_neg (fun h => hb (hif.2 h))] at hst
      simp -implicitDefEqProofs only [go_sem, ldc_get k4, stc_get k4, ldc_get k2, stc_get k2, hb2, hb, hb_b2, hb_b11, z_b11_b2, y_b11_b2, hb_b4, z_b4_b11, y_b4_b11, z_b4_b2, y_b4_b2]
      exact bad hst _ (E3 _ _ _)
end Go.Proofs.Ytdofcojbjcpikaa
