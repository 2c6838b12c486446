/- A helper of this seat's claims (plain laws): what it shows is shown for every input that its statements name, on no other condition. -/
import Derived.Test.YtpponffjeilhmaaK21
set_option linter.unusedVariables false
namespace Go.KH

/-! ## The program's records -/
structure UMove where
  kind : Int
  step : Int
  block : Int
  slot : Int
deriving DecidableEq
abbrev UMove.cells (m : UMove) : List Value := [i64 m.kind, i64 m.step, i64 m.block, i64 m.slot]
structure UStep where
  kind : Int
  dst : Int
  src : Int
  data : List UInt8
deriving DecidableEq
abbrev UStep.cells (s : UStep) : List Value := [i64 s.kind, i64 s.dst, i64 s.src, str s.data]

structure UCmd where
  kind : Int
  a : Int
  b : Int
  digest : List UInt8
  step : UStep
deriving DecidableEq
abbrev UCmd.cells (c : UCmd) : List Value := [i64 c.kind, i64 c.a, i64 c.b, str c.digest, i64 c.step.kind, i64 c.step.dst, i64 c.step.src, str c.step.data]

/-- An integer of 64 bits. -/
def in64 (n : Int) : Prop := -9223372036854775808 ≤ n ∧ n ≤ 9223372036854775807
theorem dec_f {p : Prop} [Decidable p] (h : ¬ p) : Value.bool false = Value.bool (decide p) := by simp [h]
theorem dec_t {p : Prop} [Decidable p] (h : p) : Value.bool true = Value.bool (decide p) := by simp [h]
def UMove.ok (m : UMove) : Prop := in64 m.kind ∧ in64 m.step ∧ in64 m.block ∧ in64 m.slot
def UStep.ok (s : UStep) : Prop := in64 s.kind ∧ in64 s.dst ∧ in64 s.src ∧ s.data.length ≤ maxLen
theorem in64_of {n : Int} (h : IntKind.i64.min ≤ n ∧ n ≤ IntKind.i64.max) : in64 n := h
theorem okF_i {v : Value} (h : okF (.int .i64) v) : ∃ n, v = i64 n ∧ in64 n := by obtain ⟨n, rfl, h⟩ := h; exact ⟨n, rfl, in64_of h⟩
theorem moves_of (rows : List (List Value)) (h : ∀ r ∈ rows, fitsF [.int .i64, .int .i64, .int .i64, .int .i64] r) : ∃ l : List UMove, rows = l.map UMove.cells ∧ ∀ m ∈ l, m.ok :=
  rows_of UMove.cells UMove.ok rows fun r hr => by
    obtain ⟨_, _, rfl, h1, h⟩ := fitsF_cons (h r hr)
    obtain ⟨_, _, rfl, h2, h⟩ := fitsF_cons h
    obtain ⟨_, _, rfl, h3, h⟩ := fitsF_cons h
    obtain ⟨_, _, rfl, h4, h⟩ := fitsF_cons h
    obtain rfl := fitsF_nil h
    obtain ⟨a, rfl, k1⟩ := okF_i h1
    obtain ⟨b, rfl, k2⟩ := okF_i h2
    obtain ⟨c, rfl, k3⟩ := okF_i h3
    obtain ⟨d, rfl, k4⟩ := okF_i h4
    exact ⟨⟨a, b, c, d⟩, rfl, k1, k2, k3, k4⟩
theorem steps_of (rows : List (List Value)) (h : ∀ r ∈ rows, fitsF [.int .i64, .int .i64, .int .i64, .str] r) : ∃ l : List UStep, rows = l.map UStep.cells ∧ ∀ s ∈ l, s.ok :=
  rows_of UStep.cells UStep.ok rows fun r hr => by
    obtain ⟨_, _, rfl, h1, h⟩ := fitsF_cons (h r hr)
    obtain ⟨_, _, rfl, h2, h⟩ := fitsF_cons h
    obtain ⟨_, _, rfl, h3, h⟩ := fitsF_cons h
    obtain ⟨_, _, rfl, h4, h⟩ := fitsF_cons h
    obtain rfl := fitsF_nil h
    obtain ⟨a, rfl, k1⟩ := okF_i h1
    obtain ⟨b, rfl, k2⟩ := okF_i h2
    obtain ⟨c, rfl, k3⟩ := okF_i h3
    obtain ⟨d, rfl, k4⟩ := h4
    exact ⟨⟨a, b, c, d⟩, rfl, k1, k2, k3, k4⟩
theorem step_of {h : H} {cs : List Value} (q : fitsT h [.f (.int .i64), .f (.int .i64), .f (.int .i64), .f .str] cs) : ∃ s : UStep, cs = s.cells ∧ s.ok := by
  obtain ⟨_, _, rfl, h1, q⟩ := fitsT_cons q
  obtain ⟨_, _, rfl, h2, q⟩ := fitsT_cons q
  obtain ⟨_, _, rfl, h3, q⟩ := fitsT_cons q
  obtain ⟨_, _, rfl, h4, q⟩ := fitsT_cons q
  obtain rfl := fitsT_nil q
  obtain ⟨a1, rfl, k1⟩ := okF_i h1
  obtain ⟨a2, rfl, k2⟩ := okF_i h2
  obtain ⟨a3, rfl, k3⟩ := okF_i h3
  obtain ⟨a4, rfl, k4⟩ := h4
  exact ⟨⟨a1, a2, a3, a4⟩, rfl, k1, k2, k3, k4⟩
theorem cmd_of {h : H} {cs : List Value} (q : fitsT h [.f (.int .i64), .f (.int .i64), .f (.int .i64), .f .str, .f (.int .i64), .f (.int .i64), .f (.int .i64), .f .str] cs) : ∃ c : UCmd, cs = c.cells ∧ c.digest.length ≤ maxLen ∧ c.step.data.length ≤ maxLen := by
  obtain ⟨_, _, rfl, h1, q⟩ := fitsT_cons q
  obtain ⟨_, _, rfl, h2, q⟩ := fitsT_cons q
  obtain ⟨_, _, rfl, h3, q⟩ := fitsT_cons q
  obtain ⟨_, _, rfl, h4, q⟩ := fitsT_cons q
  obtain ⟨_, _, rfl, h5, q⟩ := fitsT_cons q
  obtain ⟨_, _, rfl, h6, q⟩ := fitsT_cons q
  obtain ⟨_, _, rfl, h7, q⟩ := fitsT_cons q
  obtain ⟨_, _, rfl, h8, q⟩ := fitsT_cons q
  obtain rfl := fitsT_nil q
  obtain ⟨a1, rfl, k1⟩ := okF_i h1
  obtain ⟨a2, rfl, k2⟩ := okF_i h2
  obtain ⟨a3, rfl, k3⟩ := okF_i h3
  obtain ⟨a4, rfl, k4⟩ := h4
  obtain ⟨a5, rfl, k5⟩ := okF_i h5
  obtain ⟨a6, rfl, k6⟩ := okF_i h6
  obtain ⟨a7, rfl, k7⟩ := okF_i h7
  obtain ⟨a8, rfl, k8⟩ := h8
  exact ⟨⟨a1, a2, a3, a4, ⟨a5, a6, a7, a8⟩⟩, rfl, k4, k8⟩
end Go.KH
