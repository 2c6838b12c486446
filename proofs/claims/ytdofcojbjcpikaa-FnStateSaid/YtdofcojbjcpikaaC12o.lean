/- A helper of this seat's claims (contracts of the functions): what it shows is shown for every input that its statements name, on no other condition. -/
import Derived.Test.YtdofcojbjcpikaaC12r
set_option linter.unusedVariables false
set_option linter.unusedSimpArgs false
set_option maxRecDepth 100000
namespace Go.Proofs.Ytdofcojbjcpikaa
open Go.KH

/-! ## What StateRead answers: the laws' helpers -/
abbrev spSto (o : UState × Int) : List Sp := [.v (i64 o.1.phase), .v (i64 o.1.tries), .v (i64 o.1.need), .v (i64 o.1.stash), .v (i64 o.1.done), .v (str o.1.digest), .s 1 (ints o.1.held), .s 1 (ints o.1.mine), .v (i64 o.2)]
abbrev spMSto (o : UState × Int) (k : Int) : List Sp := [.v (i64 o.1.phase), .v (i64 o.1.tries), .v (i64 o.1.need), .v (i64 o.1.stash), .v (i64 o.1.done), .v (str o.1.digest), .s 1 (mks gInt 1 k o.1.held.length), .s 1 (mks gInt 1 (k + o.1.held.length) o.1.mine.length), .v (i64 o.2)]
theorem sto_r {h : H} {o : UState × Int} {cs : List Value} : RepR h (spSto o) cs ↔ ∃ vh vm, cs = o.1.cells vh vm ++ [i64 o.2] ∧ Sl h vh 1 (ints o.1.held) ∧ Sl h vm 1 (ints o.1.mine) := by
  simp only [spSto, RepR_i, RepR_str, RepR_s, RepR_nil]
  constructor
  · rintro ⟨_, rfl, _, rfl, _, rfl, _, rfl, _, rfl, _, rfl, vh, _, rfl, h1, vm, _, rfl, h2, _, rfl, rfl⟩; exact ⟨vh, vm, rfl, h1, h2⟩
  · rintro ⟨vh, vm, rfl, h1, h2⟩; exact ⟨_, rfl, _, rfl, _, rfl, _, rfl, _, rfl, _, rfl, vh, _, rfl, h1, vm, _, rfl, h2, _, rfl, rfl⟩
theorem sto_m {h : H} {o : UState × Int} {cs : List Value} {k : Int} : RepR h (spMSto o k) cs ↔ ∃ vh vm, cs = o.1.cells vh vm ++ [i64 o.2] ∧ Sl h vh 1 (mks gInt 1 k o.1.held.length) ∧ Sl h vm 1 (mks gInt 1 (k + o.1.held.length) o.1.mine.length) := by
  simp only [spMSto, RepR_i, RepR_str, RepR_s, RepR_nil]
  constructor
  · rintro ⟨_, rfl, _, rfl, _, rfl, _, rfl, _, rfl, _, rfl, vh, _, rfl, h1, vm, _, rfl, h2, _, rfl, rfl⟩; exact ⟨vh, vm, rfl, h1, h2⟩
  · rintro ⟨vh, vm, rfl, h1, h2⟩; exact ⟨_, rfl, _, rfl, _, rfl, _, rfl, _, rfl, _, rfl, vh, _, rfl, h1, vm, _, rfl, h2, _, rfl, rfl⟩
theorem sto_f {h0 h : H} {o : UState × Int} {cs : List Value} : RepF h0 h (spSto o) cs ↔ StoF h0 h cs o := by
  simp only [spSto, RepF_i, RepF_str, RepF_s, RepF_nil]
  constructor
  · rintro ⟨_, rfl, _, rfl, _, rfl, _, rfl, _, rfl, _, rfl, vh, _, rfl, h1, d1, vm, _, rfl, h2, d2, _, rfl, rfl⟩; exact ⟨_, rfl, vh, vm, rfl, h1, h2, d1 vm (by simp)⟩
  · rintro ⟨_, rfl, vh, vm, rfl, h1, h2, d⟩
    simp only [UState.cells, List.cons_append, List.nil_append]
    refine ⟨_, rfl, _, rfl, _, rfl, _, rfl, _, rfl, _, rfl, vh, _, rfl, h1, ?_, vm, _, rfl, h2, ?_, _, rfl, rfl⟩
    · intro x hx
      simp only [List.mem_cons, List.not_mem_nil, or_false] at hx
      rcases hx with rfl | rfl <;> first | exact d | exact Dj.nb rfl
    · intro x hx
      simp only [List.mem_cons, List.not_mem_nil, or_false] at hx
      subst hx; exact Dj.nb rfl
theorem stOut_fin (t : List UInt8) : (stOut t).1.held.length ≤ 24 ∧ (stOut t).1.mine.length ≤ 24 := by
  unfold stOut
  split
  · simp [zeroS]
  · cases hs : stI t with
    | none => simp [zeroS]
    | some s =>
      by_cases h : ∃ v1 v2 v3 v4 v5 v6 v7 v8 e, RdS t v1 v2 v3 v4 v5 v6 v7 v8 e
      · obtain ⟨v1, v2, v3, v4, v5, v6, v7, v8, e, r⟩ := h
        have h1 := r.st
        rw [hs] at h1
        split at h1
        · rename_i hc
          simp only [Option.some.injEq] at h1
          subst h1
          exact ⟨fromI_len _, fromI_len _⟩
        · cases h1
      · rw [stI_rd h] at hs; cases hs
end Go.Proofs.Ytdofcojbjcpikaa
