/- A helper of this seat's claims (plain laws): what it shows is shown for every input that its statements name, on no other condition. -/
import Derived.Test.YtjgonndohjlhlaaP3
set_option linter.unusedVariables false
namespace Go.KH

/-! ## Numbers tell where they end -/
theorem u8_inj {a b : Nat} (ha : a < 256) (hb : b < 256) (h : UInt8.ofNat a = UInt8.ofNat b) : a = b := by
  have := congrArg UInt8.toNat h
  simp only [UInt8.toNat_ofNat'] at this
  omega
theorem leb_inj : ∀ (d u v : Nat) (r r' : List UInt8), u < d → leb u ++ r = leb v ++ r' → u = v ∧ r = r'
  | 0, u, v, r, r', hd, _ => by omega
  | d + 1, u, v, r, r', hd, h => by
    by_cases hu : u < 128
    · by_cases hv : v < 128
      · rw [leb_lt hu, leb_lt hv] at h
        simp only [List.cons_append, List.nil_append, List.cons.injEq] at h
        exact ⟨u8_inj (by omega) (by omega) h.1, h.2⟩
      · rw [leb_lt hu, leb_ge hv] at h
        simp only [List.cons_append, List.nil_append, List.cons.injEq] at h
        have := u8_inj (by omega) (by omega) h.1
        omega
    · by_cases hv : v < 128
      · rw [leb_ge hu, leb_lt hv] at h
        simp only [List.cons_append, List.nil_append, List.cons.injEq] at h
        have := u8_inj (by omega) (by omega) h.1
        omega
      · rw [leb_ge hu, leb_ge hv] at h
        simp only [List.cons_append, List.cons.injEq] at h
        have h1 := u8_inj (by omega) (by omega) h.1
        obtain ⟨h2, h3⟩ := leb_inj d (u / 128) (v / 128) r r' (by omega) h.2
        exact ⟨by omega, h3⟩
theorem zig_inj {a b : Int} (h : zig a = zig b) : a = b := by
  unfold zig at h
  split at h <;> split at h <;> omega
theorem putNum_inj {a b : Int} {r r' : List UInt8} (h : putNum a ++ r = putNum b ++ r') : a = b ∧ r = r' := by
  obtain ⟨h1, h2⟩ := leb_inj _ _ _ _ _ (Nat.lt_succ_self _) h
  exact ⟨zig_inj h1, h2⟩
end Go.KH
