/- A helper of this seat's claims (contracts of the functions): what it shows is shown for every input that its statements name, on no other condition. -/
import Derived.Test.YtiokibikhanfcaaGreatC04k
import Derived.Test.YtiokibikhanfcaaGreatC12b
set_option linter.unusedVariables false
set_option linter.unusedSimpArgs false
set_option maxRecDepth 100000
namespace Go.Proofs.YtiokibikhanfcaaGreat
open Go.KH

/-! ## New machines -/
def idle0 : UState := ⟨1, 0, 0, 0, 0, [], [], []⟩
theorem idle0_ok : stateOk idle0 := by decide
def sec0 (l : List (List UInt8)) : List (List UInt8) := List.replicate 3 [] ++ l ++ List.replicate 24 []
def flash0 (l : List (List UInt8)) : UFlash := ⟨sec0 l, []⟩
def machNew (l : List (List UInt8)) : UMach := ⟨l.length, actsDo (flash0 l) (metaActsOf (flash0 l) (stateB idle0))⟩
def mach0 : UMach := ⟨0, ⟨[], []⟩⟩
def newOut (l : List (List UInt8)) : UMach × Int := if 400 < l.length then (mach0, 2) else if imageOk l then (machNew l, 0) else (mach0, 1)
theorem sec0_len (l : List (List UInt8)) : (sec0 l).length = 27 + l.length := by simp [sec0]; omega
theorem flash0_ok {l : List (List UInt8)} (h : imageOk l) : flashOk (flash0 l) := by
  have h1 := h.1
  refine ⟨by show 1 ≤ (sec0 l).length ∧ (sec0 l).length ≤ 40; rw [sec0_len]; omega, by simp [flash0], fun s hs => ?_, fun i hi => by simp [flash0] at hi⟩
  simp only [flash0, sec0, List.mem_append, List.mem_replicate] at hs
  rcases hs with (⟨_, rfl⟩ | hs) | ⟨_, rfl⟩
  · simp
  · rw [h.2 s hs]; omega
  · simp
theorem sec0_cells (l : List (List UInt8)) : splice (List.replicate (27 + l.length) [str []]).flatten 3 (strs l).flatten = (sects (sec0 l)).flatten := by
  have e1 : (List.replicate (27 + l.length) [str []]).flatten = List.replicate (27 + l.length) (str []) := by
    induction (27 + l.length) with
    | zero => rfl
    | succ n ih => rw [List.replicate_succ, List.flatten_cons, ih, List.replicate_succ]; rfl
  have e2 : ∀ t : List (List UInt8), (strs t).flatten = t.map str := fun t => by
    induction t with
    | nil => rfl
    | cons a t ih => show ([str a] ++ (strs t).flatten) = _; rw [ih]; rfl
  rw [e1, e2, e2]
  unfold splice sec0
  rw [List.length_map, List.take_replicate, List.drop_replicate, show min 3 (27 + l.length) = 3 by omega, show 27 + l.length - (3 + l.length) = 24 by omega]
  simp
theorem mach0_f (h0 h : H) (c : Int) : RepF h0 h (spMachO (mach0, c)) [i64 0, nils, nils, i64 c] := machO_f.2 ⟨nils, nils, rfl, .inl ⟨none, 0, rfl, rfl⟩, .inl ⟨none, 0, rfl, rfl⟩, fun _ h => by cases h⟩
def part (l : List (List UInt8)) (k : Nat) : List (List UInt8) := List.replicate 3 [] ++ (l.take k ++ List.replicate (24 + l.length - k) [])
theorem part_len (l : List (List UInt8)) (k : Nat) (hk : k ≤ l.length) : (part l k).length = 27 + l.length := by simp [part]; omega
theorem part_zero (l : List (List UInt8)) : part l 0 = List.replicate (27 + l.length) [] := by
  unfold part
  rw [List.take_zero, List.nil_append, List.replicate_append_replicate]; congr 1; omega
theorem part_all (l : List (List UInt8)) : part l l.length = sec0 l := by
  unfold part sec0
  rw [List.take_length, show 24 + l.length - l.length = 24 by omega, List.append_assoc]
theorem part_set (l : List (List UInt8)) (k : Nat) (hk : k < l.length) : (part l k).set (3 + k) l[k] = part l (k + 1) := by
  have h1 : (l.take k).length = k := by simp; omega
  unfold part
  rw [List.set_append_right _ _ (by simp), List.length_replicate, Nat.add_sub_cancel_left, List.set_append_right _ _ (by omega), h1, Nat.sub_self, show 24 + l.length - k = (24 + l.length - (k + 1)) + 1 by omega, List.replicate_succ (n := 24 + l.length - (k + 1)), List.set_cons_zero, List.take_succ_eq_append_getElem hk, List.append_assoc, List.singleton_append]
end Go.Proofs.YtiokibikhanfcaaGreat
