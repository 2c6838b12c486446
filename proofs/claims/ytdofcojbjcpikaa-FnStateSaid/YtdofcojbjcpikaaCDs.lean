/- A helper of this seat's claims (contracts of the functions): what it shows is shown for every input that its statements name, on no other condition. -/
import Derived.Test.YtdofcojbjcpikaaCD
import Derived.Test.YtdofcojbjcpikaaC06r
import Derived.Test.YtdofcojbjcpikaaKD
set_option linter.unusedVariables false
set_option linter.unusedSimpArgs false
set_option maxRecDepth 100000
namespace Go.Proofs.Ytdofcojbjcpikaa
open Go.KH

/-! ## Steps drawn -/
def okd (x : UStep) : Prop := x.ok ∧ x.data.length ≤ 9
theorem okd_of {k d s : Int} {t : List UInt8} (h1 : in64 k) (h2 : in64 d) (h3 : in64 s) (h4 : t.length ≤ 9) : okd ⟨k, d, s, t⟩ := ⟨⟨h1, h2, h3, by have := show maxLen = 9223372036854775807 from rfl; simp only; omega⟩, h4⟩
/-- spec.l01Source -/
def b_spec_l01Source : C := (.seq (.ops [q 2 (.mv (.c (.pointer none)))])
 (.seq (.ops [q 5 (.mv (.t 0)), q 6 (.build [nils, (i64 0), (.int .u64 0), (i64 0)] [(0, 1, (.t 5)), (2, 1, (.c (.int .u64 88172645463325252)))]), ⟨(some 7), none, .box (.t 6)⟩, q 3 (.mv (.t 7))])
 (.seq (.seq (.ops [q 4 (.mv (.c (i64 0)))])
 (.block 0 (.loop (.seq (.seq (.ops [q 8 (.mv (.t 4)), q 9 (.mv (.t 0)), q 10 (.len (.t 9)), q 11 (.bin .lss (.t 8) (.t 10)), q 12 (.mv (.t 11)), qg 13 12 true (.mv (.t 4)), qg 14 12 true (.bin .lss (.t 13) (.c (i64 64))), q 15 (.pick (.t 12) (.t 14) (.c (.bool false)))])
 (.cond (.t 15) .skip (.exit 0)))
 (.seq (.block 1 (.dops true (.tk (q 18 (.mv (.t 3))) (.tk (q 19 (.mv (.t 3))) (.tk (q 20 (.nck (.t 19))) (.tk (q 21 (.fld 2 (.t 20))) (.tk (q 22 (.ld false 1 (.t 21))) (.tk (q 23 (.mv (.t 0))) (.tk (q 24 (.mv (.t 4))) (.tk (q 25 (.idx 1 (.t 23) (.t 24))) (.tk (q 26 (.ld false 1 (.t 25))) (.tk (q 27 (.cv .u64 (.t 26))) (.tk (q 28 (.bin .xor (.t 22) (.t 27))) (.tk (q 29 (.bin .mul (.t 28) (.c (.int .u64 1099511628211)))) (.tk (q 30 (.nck (.t 18))) (.tk (q 31 (.fld 2 (.t 30))) (.lt (⟨none, none, .st 1 (.t 31) (.t 29)⟩) .nil)))))))))))))))))
 (.ops [q 16 (.mv (.t 4)), q 17 (.bin .add (.t 16) (.c (i64 1))), q 4 (.mv (.t 17))]))))))
 (.seq (.ops [q 32 (.mv (.t 3)), q 33 (.mv (.t 0)), q 34 (.len (.t 33)), q 35 (.bin .quo (.t 34) (.c (i64 20))), q 36 (.nck (.t 32)), q 37 (.fld 3 (.t 36)), ⟨none, none, .st 1 (.t 37) (.t 35)⟩])
 (.seq (.seq (.ops [q 38 (.mv (.t 3)), q 39 (.nck (.t 38)), q 40 (.fld 3 (.t 39)), q 41 (.ld false 1 (.t 40)), q 42 (.bin .gtr (.t 41) (.c (i64 12)))])
 (.cond (.t 42) (.ops [q 43 (.mv (.t 3)), q 44 (.nck (.t 43)), q 45 (.fld 3 (.t 44)), ⟨none, none, .st 1 (.t 45) (.c (i64 12))⟩]) .skip))
 (.seq (.ops [q 46 (.mv (.t 3)), q 2 (.mv (.t 46))])
 .ret))))))
theorem w_spec_l01Source {args : List Value} {h : H} {Q : Value → H → Prop} (hl : args.length ≤ 47) (hk : wpc Try.prog b_spec_l01Source (retw [.tmp 2] Q) (argsFr args) h) : AC Try.prog 16 args h Q :=
  AC.of_wpc mixedOrders Try.func16 (by kernel_rfl) (by kernel_rfl : prepF Try.prog Try.f16 = some ⟨47, [.tmp 2], b_spec_l01Source⟩) hl hk

theorem source_ac {h : H} {v : Value} {l : List UInt8} (hv : Sl h v 1 (bys l)) (hn : l.length ≤ 1048576) : AC Try.prog 16 [v] h fun r h' => ∃ b, r = ptr b 0 ∧ h.get b = none ∧ Ext h h' ∧ Src v l h' b := by
  have hv0 := hv
  obtain ⟨a, c, vb, vo, rfl, hc, r2, r3⟩ := hv
  have hbl : (bys l).length = l.length := by simp [bys]
  rw [hbl] at r2 hv0
  skip
  refine w_spec_l01Source (by simp) ?_
  unfold b_spec_l01Source
  simp -implicitDefEqProofs only [go_sem, hbl]
  intro b hb n
  have hd : ∀ c', blk (.slice a l.length c) = some c' → c' ≠ b := fun c' hc' e => hv0.known c' hc' (by subst e; exact n)
  simp -implicitDefEqProofs only [go_sem, hbl]
  refine loopW_of (fun m f h' => ∃ (k : Nat) (mix : Int), m + k = 64 ∧ f 0 = .slice a l.length c ∧ f 3 = ptr b 0 ∧ f 4 = i64 k ∧ k ≤ l.length ∧ h' = h.set b ⟨[.slice a l.length c, i64 0, .int .u64 mix, i64 0], 4⟩) 64
    ⟨0, _, by simp, by simp -implicitDefEqProofs only [go_sem, hbl], by simp -implicitDefEqProofs only [go_sem, hbl], by simp -implicitDefEqProofs only [go_sem, hbl]; rfl, Nat.zero_le _, rfl⟩ ?_
  rintro m f h' ⟨k, mix, hm, f0, f3, f4, hk, rfl⟩
  skip
  by_cases hgo : k < l.length ∧ k < 64
  · obtain ⟨h1, h2⟩ := hgo
    have e1 := ldc_sub (Sub.set (Sub.refl h) n ⟨[.slice a l.length c, i64 0, .int .u64 mix, i64 0], 4⟩) (r3 k [u8 (l[k]).toNat] (by simp [bys, h1]))
    simp -implicitDefEqProofs only [go_sem, h1, show (k : Int) < 64 by omega, r2, e1, hb, wrap_i64 (show -(9223372036854775808 : Int) ≤ ((k : Int) + 1) by omega) (show ((k : Int) + 1) < 9223372036854775808 by omega), hbl, f0, f3, f4, Int.ofNat_lt, Int.natCast_nonneg]
    exact ⟨m - 1, by omega, _, Ext.refl _, k + 1, _, by omega, rfl, by omega, rfl⟩
  have fin : ∀ X, Ext h (h.set b X) ∧ Sl (h.set b X) (.slice a l.length c) 1 (bys l) := fun X => ⟨(Ext.refl h).set n X, hv0.ext ((Ext.refl h).set n X)⟩
  have hq : IntKind.i64.wrap ((l.length : Int).tdiv 20) = ((l.length / 20 : Nat) : Int) := by rw [Int.tdiv_eq_ediv_of_nonneg (by omega), wrap_i64 (by omega) (by omega)]; norm_cast
  by_cases h1 : k < l.length
  · have h2 : ¬ (k : Int) < 64 := by omega
    by_cases h12 : (12 : Int) < ((l.length / 20 : Nat) : Int)
    · simp -implicitDefEqProofs only [go_sem, h1, h2, hb, hq, h12, show ¬ ((20 : Int) = 0) by decide, hbl, f0, f3, f4, Int.ofNat_lt, Int.natCast_nonneg]
      exact ⟨b, rfl, n, (fin _).1, ⟨0, _, 12, H.set_get_same _ _ _, (fin _).2, hb, hn, Nat.zero_le _, by omega, hd⟩⟩
    · simp -implicitDefEqProofs only [go_sem, h1, h2, hb, hq, h12, show ¬ ((20 : Int) = 0) by decide, hbl, f0, f3, f4, Int.ofNat_lt, Int.natCast_nonneg]
      exact ⟨b, rfl, n, (fin _).1, ⟨0, _, _, H.set_get_same _ _ _, (fin _).2, hb, hn, Nat.zero_le _, by omega, hd⟩⟩
  · by_cases h12 : (12 : Int) < ((l.length / 20 : Nat) : Int)
    · simp -implicitDefEqProofs only [go_sem, h1, hb, hq, h12, show ¬ ((20 : Int) = 0) by decide, hbl, f0, f3, f4, Int.ofNat_lt, Int.natCast_nonneg]
      exact ⟨b, rfl, n, (fin _).1, ⟨0, _, 12, H.set_get_same _ _ _, (fin _).2, hb, hn, Nat.zero_le _, by omega, hd⟩⟩
    · simp -implicitDefEqProofs only [go_sem, h1, hb, hq, h12, show ¬ ((20 : Int) = 0) by decide, hbl, f0, f3, f4, Int.ofNat_lt, Int.natCast_nonneg]
      exact ⟨b, rfl, n, (fin _).1, ⟨0, _, _, H.set_get_same _ _ _, (fin _).2, hb, hn, Nat.zero_le _, by omega, hd⟩⟩
end Go.Proofs.Ytdofcojbjcpikaa
