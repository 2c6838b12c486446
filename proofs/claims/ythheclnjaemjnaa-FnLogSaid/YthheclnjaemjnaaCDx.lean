/- A helper of this seat's claims (contracts of the functions): what it shows is shown for every input that its statements name, on no other condition. -/
import Derived.Test.YthheclnjaemjnaaCDw
set_option linter.unusedVariables false
set_option linter.unusedSimpArgs false
set_option maxRecDepth 100000
namespace Go.Proofs.Ythheclnjaemjnaa
open Go.KH

/-! ## Steps that lean on each other, drawn -/
theorem Own.backN {h0 h1 h : H} {v : Value} {w : Nat} {rows : List (List Value)} (o : Own h1 h v w rows) (e : ∀ b, h1.get b = none → h0.get b = none) : Own h0 h v w rows := by
  rcases o with o | ⟨b, c, z, e1, e2, e3, e4, e5, e6, e7⟩
  · exact .inl o
  · exact .inr ⟨b, c, z, e1, e2, e3, e b e4, e5, e6, e7⟩
/-- A list of one's own, and a step in a block of one's own. -/
def LeanAt (v : Value) (l : List UInt8) (b n j : Nat) (h : H) (f : Fr) (h' : H) : Prop := ∃ (acc : List UStep) (u : Value) (x : UStep) (b7 : Nat), f 0 = ptr b 0 ∧ f 1 = i64 n ∧ f 5 = u ∧ f 6 = i64 j ∧ f 7 = ptr b7 0 ∧ okd x ∧ (∀ s ∈ acc, okd s) ∧ acc.length ≤ j ∧ h'.get b7 = some ⟨x.cells, 4⟩ ∧ Own h h' u 4 (acc.map UStep.cells) ∧ Drew v l b h h'
/-- (*spec.l01Src).edge -/
def b_spec_l01Src_edge : C := (.seq (.ops [q 2 (.mv (.c (i64 0)))])
 (.seq (.ops [⟨(some 3), none, .bsl 14 [(i64 0), (i64 0), (i64 0), (i64 0), (i64 0), (i64 0), (i64 0), (i64 0), (i64 0), (i64 0), (i64 0), (i64 0), (i64 0), (i64 0)] [(0, 1, (.c (i64 0))), (1, 1, (.c (i64 1))), (2, 1, (.c (i64 (-1)))), (3, 1, (.c (i64 2))), (4, 1, (.c (i64 1000))), (5, 1, (.c (i64 1001))), (6, 1, (.c (i64 2147483648))), (7, 1, (.c (i64 2147483647))), (8, 1, (.c (i64 (-2147483648)))), (9, 1, (.c (i64 4611686018427387904))), (10, 1, (.c (i64 9223372036854775807))), (11, 1, (.c (i64 (-9223372036854775808)))), (12, 1, (.c (i64 1000000))), (13, 1, (.c (i64 1000001)))]⟩, q 4 (.mv (.t 0)), ⟨(some 5), none, .call (.c (.func (.func 68) #[] #[])) [(.t 4), (.c (i64 14))]⟩, q 6 (.idx 1 (.t 3) (.t 5)), q 7 (.ld false 1 (.t 6)), q 2 (.mv (.t 7))])
 .ret))
theorem w_spec_l01Src_edge {args : List Value} {h : H} {Q : Value → H → Prop} (hl : args.length ≤ 8) (hk : wpc Try.prog b_spec_l01Src_edge (retw [.tmp 2] Q) (argsFr args) h) : AC Try.prog 67 args h Q :=
  AC.of_wpc mixedOrders Try.func67 (by kernel_rfl) (by kernel_rfl : prepF Try.prog Try.f67 = some ⟨8, [.tmp 2], b_spec_l01Src_edge⟩) hl hk

theorem src_edge {h : H} {b : Nat} {v : Value} {l : List UInt8} (hs : Src v l h b) : AC Try.prog 67 [ptr b 0] h fun r h' => (∃ k : Int, r = i64 k ∧ in64 k) ∧ Drew v l b h h' := by
  refine w_spec_l01Src_edge (by simp) ?_
  unfold b_spec_l01Src_edge
  simp -implicitDefEqProofs only [go_sem]
  intro b4 hb4 n4
  obtain ⟨cs, hcs⟩ : ∃ cs : List Value, cs = [i64 0, i64 1, i64 (-1), i64 2, i64 1000, i64 1001, i64 2147483648, i64 2147483647, i64 (-2147483648), i64 4611686018427387904, i64 9223372036854775807, i64 (-9223372036854775808), i64 1000000, i64 1000001] := ⟨_, rfl⟩
  have lst : ∀ n : Nat, n < 14 → ∃ y : Int, in64 y ∧ cs[n]? = some (i64 y) := by
    subst hcs
    intro n hn
    have : n = 0 ∨ n = 1 ∨ n = 2 ∨ n = 3 ∨ n = 4 ∨ n = 5 ∨ n = 6 ∨ n = 7 ∨ n = 8 ∨ n = 9 ∨ n = 10 ∨ n = 11 ∨ n = 12 ∨ n = 13 := by omega
    rcases this with rfl | rfl | rfl | rfl | rfl | rfl | rfl | rfl | rfl | rfl | rfl | rfl | rfl | rfl
    all_goals exact ⟨_, by unfold in64; omega, rfl⟩
  have hcl : cs.length = 14 := by rw [hcs]; rfl
  rw [← hcs]
  have e4 := (Ext.refl h).set n4 ⟨cs, 14⟩
  simp -implicitDefEqProofs only [go_sem]
  refine AC_of (src_n (hs.ext e4) (by omega)) ?_
  rintro _ h1 - ⟨⟨k, rfl, k0, k1, -⟩, d⟩
  have hk := k1 (by omega)
  have q4 : b4 ≠ b := fun e => by subst e; exact hs.known n4
  have g4 := d.1.2.1 b4 _ q4 (H.set_get_same _ _ _)
  obtain ⟨n, rfl⟩ : ∃ n : Nat, k = n := ⟨k.toNat, by omega⟩
  obtain ⟨y, hy, hl⟩ := lst n (by omega)
  have e1 : ldc h1 b4 n 1 = some [i64 y] := by
    rw [ldc_get g4, if_pos (by simp only [hcl]; omega)]
    rw [List.getElem?_eq_some_iff] at hl
    obtain ⟨hl1, hl2⟩ := hl
    simp only
    rw [List.drop_eq_getElem_cons hl1, hl2]; rfl
  simp -implicitDefEqProofs only [go_sem, show (n : Int) < ((14 : Nat) : Int) by omega, Int.natCast_nonneg, Int.toNat_natCast, Nat.mul_one, e1]
  exact ⟨⟨y, rfl, hy⟩, (Drew.of_ext hs e4).trans d⟩
end Go.Proofs.Ythheclnjaemjnaa
