/- A helper of this seat's claims (contracts of the functions): what it shows is shown for every input that its statements name, on no other condition. -/
import Derived.Test.YthjbhdmjfakfaaaGreatDoorMCE
import Derived.Test.YthjbhdmjfakfaaaGreatDoorKC
import Derived.Test.YthjbhdmjfakfaaaGreatDoorC06
set_option linter.unusedVariables false
set_option linter.unusedSimpArgs false
set_option maxRecDepth 100000
namespace Go.Proofs.YthjbhdmjfakfaaaGreatDoor
open Go.KH

/-! ## What the laws draw: images and steps -/
/-- An image and steps, drawn. -/
structure ImgSteps (h : H) (u w : Value) (T : List (List UInt8)) (L : List UStep) : Prop where
  t9 : ∀ t ∈ T, t.length ≤ 9
  tn : T.length ≤ 10
  ok : ∀ s ∈ L, okd s
  ln : L.length ≤ 21
  su : Sl h u 1 (strs T)
  sw : Sl h w 4 (L.map UStep.cells)
theorem nilSl (h : H) (w : Nat) : Sl h nils w [] := (Own.nil h h w).sl
/-- laws.lwTexts -/
def b_laws_lwTexts : C := (.seq (.ops [q 4 (.mv (.c (.bool false)))])
 (.seq (.seq (.ops [q 6 (.mv (.t 0)), q 7 (.len (.t 6)), q 8 (.mv (.t 1)), q 9 (.len (.t 8)), q 10 (.bin .neq (.t 7) (.t 9))])
 (.cond (.t 10) (.seq (.ops [q 4 (.mv (.c (.bool false)))])
 .ret) .skip))
 (.seq (.seq (.ops [q 5 (.mv (.c (i64 0)))])
 (.block 0 (.loop (.seq (.seq (.ops [q 11 (.mv (.t 5)), q 12 (.mv (.t 0)), q 13 (.len (.t 12)), q 14 (.bin .lss (.t 11) (.t 13))])
 (.cond (.t 14) .skip (.exit 0)))
 (.seq (.block 1 (.seq (.dops true (.tk (q 17 (.mv (.t 0))) (.tk (q 18 (.mv (.t 5))) (.tk (q 19 (.idx 1 (.t 17) (.t 18))) (.tk (q 20 (.ld false 1 (.t 19))) (.tk (q 21 (.mv (.t 1))) (.tk (q 22 (.mv (.t 5))) (.tk (q 23 (.idx 1 (.t 21) (.t 22))) (.tk (q 24 (.ld false 1 (.t 23))) (.tk (q 25 (.bin .neq (.t 20) (.t 24))) .nil))))))))))
 (.cond (.t 25) (.seq (.ops [q 4 (.mv (.c (.bool false)))])
 .ret) .skip)))
 (.ops [q 15 (.mv (.t 5)), q 16 (.bin .add (.t 15) (.c (i64 1))), q 5 (.mv (.t 16))]))))))
 (.seq (.ops [q 4 (.mv (.c (.bool true)))])
 .ret))))
theorem w_laws_lwTexts {args : List Value} {h : H} {Q : Value → H → Prop} (hl : args.length ≤ 26) (hk : wpc Tryz.prog b_laws_lwTexts (retw [.tmp 4] Q) (argsFr args) h) : AC Tryz.prog 22 args h Q :=
  AC.of_wpc mixedOrders Tryz.func22 (by kernel_rfl) (by kernel_rfl : prepF Tryz.prog Tryz.f22 = some ⟨26, [.tmp 4], b_laws_lwTexts⟩) hl hk

theorem lwTexts_pc {h : H} {v1 v2 : Value} {l1 l2 : List (List UInt8)} (hv : Sl h v1 1 (strs l1)) (hu : Sl h v2 1 (strs l2)) (hn : l1.length ≤ 1048576) : PC Tryz.prog 22 [v1, v2] h (.bool (decide (l1 = l2))) := by
  obtain ⟨a, c, b, o, rfl, hc, r2, r3⟩ := hv
  obtain ⟨a', c', b', o', rfl, hc', q2, q3⟩ := hu
  have e1 : (strs l1).length = l1.length := by simp
  have e2 : (strs l2).length = l2.length := by simp
  rw [e1] at r2
  rw [e2] at q2
  skip
  by_cases hl : l1.length = l2.length
  rotate_left
  · refine w_laws_lwTexts (by simp) ?_
    unfold b_laws_lwTexts
    simp -implicitDefEqProofs only [go_sem, hl, show ¬ ((l1.length : Int) = (l2.length : Int)) by omega, e1, e2]
    exact dec_f fun h => hl (by rw [h])
  have hl0 : decide ((l1.length : Int) = (l2.length : Int)) = true := decide_eq_true (by omega)
  have hl1 : ((l1.length : Int) ≠ (l2.length : Int)) = False := eq_false fun h => h (by omega)
  refine w_laws_lwTexts (by simp) ?_
  unfold b_laws_lwTexts
  simp -implicitDefEqProofs only [go_sem, hl0, hl1, e1, e2]
  refine loopW_of (fun m f h' => ∃ k, m + k = l1.length ∧ h' = h ∧ f 0 = .slice a l1.length c ∧ f 1 = .slice a' l2.length c' ∧ f 5 = i64 k ∧ l1.take k = l2.take k) l1.length
    ⟨0, by simp, rfl, by simp -implicitDefEqProofs only [go_sem, e1, e2], by simp -implicitDefEqProofs only [go_sem, e1, e2], by simp -implicitDefEqProofs only [go_sem, e1, e2]; rfl, by simp⟩ ?_
  rintro m f h' ⟨k, hm, rfl, f0, f1, f5, ht⟩
  skip
  by_cases hk : k < l1.length
  · have hk2 : k < l2.length := by omega
    have d1 := r3 k _ (show (strs l1)[k]? = some [str l1[k]] by simp [hk])
    have d2 := q3 k _ (show (strs l2)[k]? = some [str l2[k]] by simp [hk2])
    have hs : l1.take (k + 1) = l2.take (k + 1) ↔ l1[k] = l2[k] := by
      rw [List.take_succ_eq_append_getElem hk, List.take_succ_eq_append_getElem hk2, ht]
      exact ⟨fun h => (List.cons.inj (List.append_cancel_left h)).1, fun h => by rw [h]⟩
    by_cases he : l1[k] = l2[k]
    · skip
      simp -implicitDefEqProofs only [go_sem, hk, hk2, r2, q2, d1, d2, he, wrap_i64 (show -(9223372036854775808 : Int) ≤ ((k : Int) + 1) by omega) (show ((k : Int) + 1) < 9223372036854775808 by omega), e1, e2, f0, f1, f5, Int.ofNat_lt, Int.natCast_nonneg]
      exact ⟨m - 1, by omega, h', Ext.refl _, k + 1, by omega, rfl, rfl, hs.2 he⟩
    · skip
      simp -implicitDefEqProofs only [go_sem, hk, hk2, r2, q2, d1, d2, he, e1, e2, f0, f1, f5, Int.ofNat_lt, Int.natCast_nonneg]
      exact dec_f fun h => he (hs.1 (by rw [h]))
  · have e : k = l1.length := by omega
    subst e
    simp -implicitDefEqProofs only [go_sem, Nat.lt_irrefl, e1, e2, f0, f1, f5, Int.ofNat_lt, Int.natCast_nonneg]
    exact dec_t (by rw [List.take_length, hl, List.take_length] at ht; exact ht)
end Go.Proofs.YthjbhdmjfakfaaaGreatDoor

set_option linter.unusedVariables false
set_option linter.unusedSimpArgs false
set_option maxRecDepth 100000
namespace Go.Proofs.YthjbhdmjfakfaaaGreatDoor
open Go.KH

/-! ## Steps that lean on each other, drawn -/
theorem Own.backN {h0 h1 h : H} {v : Value} {w : Nat} {rows : List (List Value)} (o : Own h1 h v w rows) (e : ∀ b, h1.get b = none → h0.get b = none) : Own h0 h v w rows := by
  rcases o with o | ⟨b, c, z, e1, e2, e3, e4, e5, e6, e7⟩
  · exact .inl o
  · exact .inr ⟨b, c, z, e1, e2, e3, e b e4, e5, e6, e7⟩
/-- A list of one's own, and a step in a block of one's own. -/
def LeanAt (v : Value) (l : List UInt8) (b n j : Nat) (h : H) (f : Fr) (h' : H) : Prop := ∃ (acc : List UStep) (u : Value) (x : UStep) (b7 : Nat), f 0 = ptr b 0 ∧ f 1 = i64 n ∧ f 5 = u ∧ f 6 = i64 j ∧ f 7 = ptr b7 0 ∧ okd x ∧ (∀ s ∈ acc, okd s) ∧ acc.length ≤ j ∧ h'.get b7 = some ⟨x.cells, 4⟩ ∧ Own h h' u 4 (acc.map UStep.cells) ∧ Drew v l b h h'
end Go.Proofs.YthjbhdmjfakfaaaGreatDoor

set_option linter.unusedVariables false
set_option linter.unusedSimpArgs false
set_option maxRecDepth 100000
namespace Go.Proofs.YthjbhdmjfakfaaaGreatDoor
open Go.KH

/-! ## What the laws of two codes share -/
theorem cellsEq_sii (b c b' c' : Int) (d d' : List UInt8) : cellsEq [.s, .i, .i] [str d, i64 b, i64 c] [str d', i64 b', i64 c'] = some (decide (d = d' ∧ b = b' ∧ c = c')) := by
  simp only [cellsEq, le_i, le_s, Option.bind_some]
  by_cases h2 : b = b' <;> by_cases h3 : c = c' <;> by_cases h4 : d = d' <;> simp [h2, h3, h4]
theorem bytes_of_rows2 (rows : List (List Value)) (h : ∀ r ∈ rows, fitsF [.int .u8] r) : ∃ l : List UInt8, rows = bys l := by
  obtain ⟨l, e, -⟩ := rows_of (fun b : UInt8 => [.int .u8 (b.toNat : Int)]) (fun _ => True) rows fun r hr => by
    obtain ⟨_, _, rfl, h1, h⟩ := fitsF_cons (h r hr)
    obtain rfl := fitsF_nil h
    obtain ⟨n, rfl, k1, k2⟩ := h1
    have m1 : IntKind.u8.min = 0 := rfl
    have m2 : IntKind.u8.max = 255 := rfl
    refine ⟨UInt8.ofNat n.toNat, ?_, trivial⟩
    have : ((UInt8.ofNat n.toNat).toNat : Int) = n := by simp; omega
    rw [this]
  exact ⟨l, e⟩
theorem okAs_codes {h : H} {args : List Value} (ha : okAs h [.one (.sl [.int .u8]), .one (.sl [.int .u8])] args) : ∃ (v w : Value) (l1 l2 : List UInt8), args = [v, w] ∧ Sl h v 1 (bys l1) ∧ Sl h w 1 (bys l2) := by
  obtain ⟨v, _, rfl, ⟨rows, hs, hf, hn⟩, a0⟩ := okAs_cons ha
  obtain ⟨w, _, rfl, ⟨rows2, hs2, hf2, hn2⟩, a1⟩ := okAs_cons a0
  obtain rfl := okAs_nil a1
  obtain ⟨l1, rfl⟩ := bytes_of_rows2 rows hf
  obtain ⟨l2, rfl⟩ := bytes_of_rows2 rows2 hf2
  exact ⟨v, w, l1, l2, rfl, hs, hs2⟩
end Go.Proofs.YthjbhdmjfakfaaaGreatDoor
