/- A helper of this seat's claims (the logic of the walks): what it shows is shown for every input that its statements name, on no other condition. -/
import Derived.Test.YtdofcojbjcpikaaDoorKD
import Derived.Test.YtdofcojbjcpikaaDoorKC
import Derived.Lib.Join
import Derived.Lib.Repeat
set_option linter.unusedVariables false
set_option linter.unusedSimpArgs false
namespace Go.KH
open Go.RowKit

/-! ## Contracts of the library, proved elsewhere, in the words of this logic -/
section
variable {P : Program}
theorem Rel.upto {w0 w w' : World} {h : H} (r : Rel w0 h w) (b : Below w.heap.size w w') : Rel w0 h w' := by
  have hs : h.base ≤ w.heap.size := Nat.le_trans r.baseLe r.below.size
  refine ⟨r.below.trans (b.mono hs), r.baseLe, fun c ob hc => ?_, fun c l hc => ?_, r.own⟩
  · obtain ⟨cs, T, fz, h1, h2⟩ := r.obs c ob hc
    exact ⟨cs, T, fz, by rw [b.block c (r.lt hc)]; exact h1, h2⟩
  · obtain ⟨es, clock, h1, h2⟩ := r.maps c l hc
    exact ⟨es, clock, by rw [b.block c (r.ltm hc)]; exact h1, h2⟩
theorem PC_calls {n : FuncId} {fn : Func} {args : List Value} {h : H} {v : Value} (h1 : P.funcs[n]? = some fn) (h2 : (fn.name == "runtime.NumGoroutine") = false) (h3 : fn.body.isNone = false)
    (c : ∀ w0 w, Rel w0 h w → Calls P n args.toArray w fun e w' => e = .returned v ∧ Below w.heap.size w w') : PC P n args h v :=
  ⟨⟨fn, h1, h2, h3⟩, fun w0 w r => (c w0 w r).mono fun e w' ⟨he, hb⟩ => ⟨v, h, he, rfl, r.upto hb, rfl, rfl⟩⟩
theorem below_same {w w' : World} (h : w' = w) : Below w.heap.size w w' := h ▸ Below.refl _ _
theorem str_mk (l : List UInt8) : str l = .string ⟨l.toArray⟩ := rfl
/-- The cells of a slice of texts. -/
theorem Sl.texts {h : H} {v : Value} {l : List (List UInt8)} (s : Sl h v 1 (l.map fun x => [str x])) : (∃ a c, v = .slice a 0 c ∧ l = []) ∨
    ∃ b o c, v = .slice (some ⟨b, o, .none⟩) l.length c ∧ l.length ≤ c ∧ 0 < l.length ∧ ∀ {w0 w : World}, Rel w0 h w → b < w.heap.size ∧ ∀ (j : Nat) x, (l.map fun x => (⟨x.toArray⟩ : ByteArray))[j]? = some x → w.cell? ⟨b, o + j, .none⟩ = some (.string x) := by
  obtain ⟨a, c, b, o, rfl, hc, hr, hl⟩ := s
  simp only [List.length_map] at hc hr ⊢
  cases hL : l with
  | nil => exact .inl ⟨a, c, rfl, rfl⟩
  | cons x0 xs =>
    rw [← hL]
    have hpos : 0 < l.length := by rw [hL]; simp
    obtain ⟨n, hn⟩ : ∃ n, l.length = n + 1 := ⟨l.length - 1, by omega⟩
    cases a with
    | none =>
      rw [hn] at hr
      simp [asR] at hr
    | some a =>
      rw [hn] at hr
      have := asR_blk hr
      subst this
      refine .inr ⟨b, o, c, rfl, hc, hpos, fun {w0 w} r => ⟨?_, fun j x hj => ?_⟩⟩
      · have h0 := hl 0 [str l[0]] (by simp [hpos])
        unfold ldc at h0
        cases hg : h.get b with
        | none => rw [hg] at h0; simp at h0
        | some ob => exact r.lt hg
      · simp only [List.getElem?_map, Option.map_eq_some_iff] at hj
        obtain ⟨y, hy, rfl⟩ := hj
        have h0 := hl j [str y] (by simp [hy])
        rw [Nat.mul_one] at h0
        have := (cell_of_has r.has h0).2 0 (str y) rfl
        simpa [str] using this
end
end Go.KH
