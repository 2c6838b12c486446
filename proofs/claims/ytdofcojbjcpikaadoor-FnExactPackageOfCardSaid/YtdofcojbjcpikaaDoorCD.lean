/- A helper of this seat's claims (contracts of the functions): what it shows is shown for every input that its statements name, on no other condition. -/
import Derived.Test.YtdofcojbjcpikaaDoorKD
import Derived.Test.YtdofcojbjcpikaaDoorC07m
set_option linter.unusedVariables false
set_option linter.unusedSimpArgs false
set_option maxRecDepth 100000
namespace Go.Proofs.YtdofcojbjcpikaaDoor
open Go.KH

/-! ## Draws -/
/-- A source of draws: how far it is drawn is not known any closer. -/
def Src (v : Value) (l : List UInt8) (h : H) (b : Nat) : Prop := ∃ (a : Nat) (mix size : Int), h.get b = some ⟨[v, i64 a, .int .u64 mix, i64 size], 4⟩ ∧ Sl h v 1 (bys l) ∧ h.base ≤ b ∧ l.length ≤ 1048576 ∧ a ≤ l.length ∧ (0 ≤ size ∧ size ≤ 12) ∧ ∀ c, blk v = some c → c ≠ b
theorem Src.known {v : Value} {l : List UInt8} {h : H} {b : Nat} (s : Src v l h b) : h.get b ≠ none := by obtain ⟨a, m, z, hg, _⟩ := s; rw [hg]; simp
theorem Src.sl {v : Value} {l : List UInt8} {h : H} {b : Nat} (s : Src v l h b) : Sl h v 1 (bys l) := by obtain ⟨a, m, z, hg, h1, _⟩ := s; exact h1
theorem Src.keep {S : Nat → Prop} {v : Value} {l : List UInt8} {h h' : H} {b : Nat} (s : Src v l h b) (k : Keep S h h') (hb : ¬ S b) (hv : ∀ c, blk v = some c → ¬ S c) : Src v l h' b := by
  obtain ⟨a, m, z, hg, h1, h2, h3, h4, h5, h6⟩ := s
  exact ⟨a, m, z, k.2.1 b _ hb hg, h1.keep k hv, by rw [k.1]; exact h2, h3, h4, h5, h6⟩
theorem Src.ext {v : Value} {l : List UInt8} {h h' : H} {b : Nat} (s : Src v l h b) (e : Ext h h') : Src v l h' b := by
  obtain ⟨a, m, z, hg, h1, h2, h3, h4, h5, h6⟩ := s
  exact ⟨a, m, z, e.2.g b _ hg, h1.ext e, by rw [e.1]; exact h2, h3, h4, h5, h6⟩
theorem Src.keepM {h0 : H} {v : Value} {l : List UInt8} {h h' : H} {b : Nat} (s : Src v l h b) (k : KeepM (fun x => h0.get x = none) (fun _ => False) h h') (hb : h0.get b ≠ none) (hv : Known h0 v) : Src v l h' b := by
  obtain ⟨a, m, z, hg, h1, h2, h3, h4, h5, h6⟩ := s
  exact ⟨a, m, z, k.2.1 b _ hb hg, k.sl h1 (fun c hc => hv c hc), by rw [k.1]; exact h2, h3, h4, h5, h6⟩
/-- What drawing does to the memory. -/
def Drew (v : Value) (l : List UInt8) (b : Nat) (h h' : H) : Prop := Keep (fun x => x = b) h h' ∧ Src v l h' b
theorem Drew.trans {v : Value} {l : List UInt8} {b : Nat} {h1 h2 h3 : H} (d : Drew v l b h1 h2) (e : Drew v l b h2 h3) : Drew v l b h1 h3 := ⟨d.1.trans e.1, e.2⟩
theorem Drew.ext {v : Value} {l : List UInt8} {b : Nat} {h1 h2 h3 : H} (d : Drew v l b h1 h2) (e : Ext h2 h3) : Drew v l b h1 h3 := ⟨d.1.trans (e.keep _), d.2.ext e⟩
theorem Drew.of_ext {v : Value} {l : List UInt8} {b : Nat} {h1 h2 : H} (s : Src v l h1 b) (e : Ext h1 h2) : Drew v l b h1 h2 := ⟨e.keep _, s.ext e⟩
/-- A block of one's own that is written. -/
theorem Drew.set {v : Value} {l : List UInt8} {b : Nat} {h1 h2 : H} (d : Drew v l b h1 h2) {c : Nat} (hn : h1.get c = none) (s : Src v l h1 b) (ob : Ob) : Drew v l b h1 (h2.set c ob) := by
  have hcb : c ≠ b := fun e => by subst e; exact s.known hn
  refine ⟨⟨d.1.1, fun x ox hx hg => ?_, d.1.2.2.1, fun x hx => ?_⟩, ?_⟩
  · rw [H.set_get_ne _ _ _ _ (fun e => by subst e; rw [hn] at hg; cases hg)]; exact d.1.2.1 x ox hx hg
  · by_cases e : x = c
    · subst e; rw [H.set_get_same]; simp
    · rw [H.set_get_ne _ _ _ _ e]; exact d.1.2.2.2 x hx
  · obtain ⟨a, m, z, hg, q1, q2, q3, q4, q5, q6⟩ := d.2
    exact ⟨a, m, z, by rw [H.set_get_ne _ _ _ _ hcb.symm]; exact hg, q1.set (fun x hx e => by subst e; exact s.sl.known x hx hn) _, q2, q3, q4, q5, q6⟩
theorem draw_bound (X : Int) {most : Int} (h1 : 1 < most) (h2 : most < 9223372036854775808) : 0 ≤ IntKind.i64.wrap ((IntKind.u64.wrap X).tmod most) ∧ IntKind.i64.wrap ((IntKind.u64.wrap X).tmod most) < most := by
  have h0 : 0 ≤ IntKind.u64.wrap X := by
    rw [wrap_u64m]; omega
  have e := Int.tmod_eq_emod_of_nonneg (b := most) h0
  have l1 := Int.emod_nonneg (IntKind.u64.wrap X) (b := most) (by omega)
  have l2 := Int.emod_lt_of_pos (IntKind.u64.wrap X) (b := most) (by omega)
  rw [e, wrap_i64 (by omega) (by omega)]
  exact ⟨l1, l2⟩
end Go.Proofs.YtdofcojbjcpikaaDoor
