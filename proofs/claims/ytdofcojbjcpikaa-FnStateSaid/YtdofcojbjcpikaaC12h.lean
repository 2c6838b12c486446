/- A helper of this seat's claims (contracts of the functions): what it shows is shown for every input that its statements name, on no other condition. -/
import Derived.Test.YtdofcojbjcpikaaC12
set_option linter.unusedVariables false
set_option linter.unusedSimpArgs false
set_option maxRecDepth 100000
namespace Go.Proofs.Ytdofcojbjcpikaa
open Go.KH

/-! ## The laws' helpers for states -/
/-- The cells of a state whose lists are slices. -/
def StR (h : H) (cs : List Value) (s : UState) : Prop := ∃ vh vm, cs = s.cells vh vm ∧ Sl h vh 1 (ints s.held) ∧ Sl h vm 1 (ints s.mine)
/-- The same, of the call's own memory. -/
def StF (h0 h : H) (cs : List Value) (s : UState) : Prop := ∃ vh vm, cs = s.cells vh vm ∧ Fre h0 h vh 1 (ints s.held) ∧ Fre h0 h vm 1 (ints s.mine) ∧ Dj vh vm
theorem StF.r {h0 h : H} {cs : List Value} {s : UState} (f : StF h0 h cs s) : StR h cs s := by obtain ⟨vh, vm, rfl, a, b, _⟩ := f; exact ⟨vh, vm, rfl, a.sl, b.sl⟩
theorem StR.ext {h h' : H} {cs : List Value} {s : UState} (f : StR h cs s) (e : Ext h h') : StR h' cs s := by obtain ⟨vh, vm, rfl, a, b⟩ := f; exact ⟨vh, vm, rfl, a.ext e, b.ext e⟩
theorem StF.ext {h0 h h' : H} {cs : List Value} {s : UState} (f : StF h0 h cs s) (e : Ext h h') : StF h0 h' cs s := by obtain ⟨vh, vm, rfl, a, b, d⟩ := f; exact ⟨vh, vm, rfl, a.ext e, b.ext e, d⟩
theorem StR.len {h : H} {cs : List Value} {s : UState} (r : StR h cs s) : cs.length = 8 := by obtain ⟨vh, vm, rfl, _, _⟩ := r; rfl
theorem StR.one {h : H} {cs : List Value} {s : UState} (r : StR h cs s) : cs.all Value.oneCell' = true := by
  obtain ⟨vh, vm, rfl, a, b⟩ := r
  simp [UState.cells, a.one, b.one, oneCell_int, oneCell_str]
theorem StR.known {h : H} {cs : List Value} {s : UState} (r : StR h cs s) : KnownL h cs := by
  obtain ⟨vh, vm, rfl, a, b⟩ := r
  intro v hv
  simp only [UState.cells, List.mem_cons, List.not_mem_nil, or_false] at hv
  rcases hv with rfl | rfl | rfl | rfl | rfl | rfl | rfl | rfl <;> first | exact a.known | exact b.known | exact Known.of_none rfl
theorem StF.new {h0 h : H} {cs : List Value} {s : UState} (r : StF h0 h cs s) : NewL h0 cs := by
  obtain ⟨vh, vm, rfl, a, b, _⟩ := r
  intro v hv
  simp only [UState.cells, List.mem_cons, List.not_mem_nil, or_false] at hv
  rcases hv with rfl | rfl | rfl | rfl | rfl | rfl | rfl | rfl <;> first | exact a.new | exact b.new | exact New.of_none rfl
theorem StR.keep {h h' : H} {cs ds : List Value} {s : UState} (r : StR h cs s) (k : Keep (blks ds) h h') (d : DjL cs ds) : StR h' cs s := by
  obtain ⟨vh, vm, rfl, a, b⟩ := r
  exact ⟨vh, vm, rfl, a.keep k (d.not (by simp)), b.keep k (d.not (by simp))⟩
theorem StF.keep {h0 h h' : H} {cs ds : List Value} {s : UState} (r : StF h0 h cs s) (k : Keep (blks ds) h h') (d : DjL cs ds) : StF h0 h' cs s := by
  obtain ⟨vh, vm, rfl, a, b, e⟩ := r
  exact ⟨vh, vm, rfl, a.keep k (d.not (by simp)), b.keep k (d.not (by simp)), e⟩
/-- A marked state. -/
def StM (h : H) (cs : List Value) (s : UState) (k0 : Int) : Prop := ∃ vh vm, cs = s.cells vh vm ∧ Sl h vh 1 (mks gInt 1 k0 s.held.length) ∧ Sl h vm 1 (mks gInt 1 (k0 + s.held.length) s.mine.length)
theorem StM.ext {h h' : H} {cs : List Value} {s : UState} {k0 : Int} (r : StM h cs s k0) (e : Ext h h') : StM h' cs s k0 := by obtain ⟨vh, vm, rfl, a, b⟩ := r; exact ⟨vh, vm, rfl, a.ext e, b.ext e⟩
def stN (s : UState) : Int := s.held.length + s.mine.length
theorem ints_of (rows : List (List Value)) (h : ∀ r ∈ rows, fitsF [.int .i64] r) : ∃ l : List Int, rows = ints l ∧ ∀ n ∈ l, in64 n :=
  rows_of (fun n => [i64 n]) in64 rows fun r hr => by
    obtain ⟨_, _, rfl, h1, h⟩ := fitsF_cons (h r hr)
    obtain rfl := fitsF_nil h
    obtain ⟨a, rfl, k1⟩ := okF_i h1
    exact ⟨a, rfl, k1⟩
abbrev stLT : List LT := [.f (.int .i64), .f (.int .i64), .f (.int .i64), .f (.int .i64), .f (.int .i64), .f .str, .sl [.int .i64], .sl [.int .i64]]
def UState.ok (s : UState) : Prop := in64 s.phase ∧ in64 s.tries ∧ in64 s.need ∧ in64 s.stash ∧ in64 s.done ∧ s.digest.length ≤ maxLen ∧ s.held.length ≤ maxLen ∧ s.mine.length ≤ maxLen
theorem state_of {h : H} {cs : List Value} (q : fitsT h stLT cs) : ∃ s : UState, StR h cs s ∧ s.ok := by
  obtain ⟨_, _, rfl, h1, q⟩ := fitsT_cons q
  obtain ⟨_, _, rfl, h2, q⟩ := fitsT_cons q
  obtain ⟨_, _, rfl, h3, q⟩ := fitsT_cons q
  obtain ⟨_, _, rfl, h4, q⟩ := fitsT_cons q
  obtain ⟨_, _, rfl, h5, q⟩ := fitsT_cons q
  obtain ⟨_, _, rfl, h6, q⟩ := fitsT_cons q
  obtain ⟨v7, _, rfl, ⟨r7, s7, h7, l7⟩, q⟩ := fitsT_cons q
  obtain ⟨v8, _, rfl, ⟨r8, s8, h8, l8⟩, q⟩ := fitsT_cons q
  obtain rfl := fitsT_nil q
  obtain ⟨a1, rfl, k1⟩ := okF_i h1
  obtain ⟨a2, rfl, k2⟩ := okF_i h2
  obtain ⟨a3, rfl, k3⟩ := okF_i h3
  obtain ⟨a4, rfl, k4⟩ := okF_i h4
  obtain ⟨a5, rfl, k5⟩ := okF_i h5
  obtain ⟨a6, rfl, k6⟩ := h6
  obtain ⟨a7, rfl, -⟩ := ints_of r7 h7
  obtain ⟨a8, rfl, -⟩ := ints_of r8 h8
  exact ⟨⟨a1, a2, a3, a4, a5, a6, a7, a8⟩, ⟨v7, v8, rfl, s7, s8⟩, k1, k2, k3, k4, k5, k6, by simpa using l7, by simpa using l8⟩
end Go.Proofs.Ytdofcojbjcpikaa
