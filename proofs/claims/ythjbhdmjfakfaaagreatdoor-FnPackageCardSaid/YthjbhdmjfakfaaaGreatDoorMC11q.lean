/- A helper of this seat's claims (contracts of the functions): what it shows is shown for every input that its statements name, on no other condition. -/
import Derived.Test.YthjbhdmjfakfaaaGreatDoorC10s
import Derived.Test.YthjbhdmjfakfaaaGreatDoorC05
import Derived.Test.YthjbhdmjfakfaaaGreatDoorKD
import Derived.Test.YthjbhdmjfakfaaaGreatDoorC11p
set_option linter.unusedVariables false
set_option linter.unusedSimpArgs false
set_option maxRecDepth 100000
namespace Go.Proofs.YthjbhdmjfakfaaaGreatDoor
open Go.KH

/-! ## The reference's plan -/
def bools (n : Nat) (L : List Nat) : List (List Value) := (List.range n).map fun i => [.bool (decide (i ∈ L))]
def stB (st : List Int) : List (List Value) := (List.range 8).map fun i : Nat => [.bool (decide ((i : Int) ∈ st))]
theorem bools_len (n : Nat) (L : List Nat) : (bools n L).length = n := by simp [bools]
theorem bools_get {n i : Nat} (L : List Nat) (h : i < n) : (bools n L)[i]? = some [.bool (decide (i ∈ L))] := by simp [bools, h]
theorem stB_get {d : Int} (st : List Int) (h : 0 ≤ d ∧ d ≤ 7) : (stB st)[d.toNat]? = some [.bool (decide (d ∈ st))] := by
  have h1 : d.toNat < 8 := by omega
  have h2 : ((d.toNat : Nat) : Int) = d := by omega
  simp [stB, h1, h2]
theorem fstI_ge (p : Nat → Bool) (k : Nat) : -1 ≤ fstI p k := by
  unfold fstI
  split <;> omega
theorem fstI_no {p : Nat → Bool} {k : Nat} (h : p k = false) : fstI p (k + 1) = fstI p k := by
  have := fstI_ge p k
  rw [fstI_succ, h]
  simp only [Bool.false_eq_true, if_false]
  split <;> omega
theorem fstI_if {p : Nat → Bool} {k : Nat} (h : p k = true) : fstI p (k + 1) = if fstI p k < 0 then (k : Int) else fstI p k := by
  rw [fstI_succ, h]; simp
def bcl (n : Nat) (p : Nat → Bool) : List Value := (List.range n).map fun i => .bool (p i)
theorem bcl_len (n : Nat) (p : Nat → Bool) : (bcl n p).length = n := by simp [bcl]
theorem bcl_one (n : Nat) (p : Nat → Bool) : (bcl n p).all Value.oneCell' = true := by simp [bcl, Value.oneCell']
theorem bcl_congr {n : Nat} {p q : Nat → Bool} (h : ∀ i, i < n → p i = q i) : bcl n p = bcl n q := by
  unfold bcl
  exact List.map_congr_left fun i hi => by rw [h i (List.mem_range.1 hi)]
theorem bcl_put {n k : Nat} (p : Nat → Bool) (x : Bool) (hk : k < n) : splice (bcl n p) k [.bool x] = bcl n fun i => if i = k then x else p i := by
  have e : bcl n p = ((List.range n).map p).map Value.bool := by simp [bcl]
  rw [e, splice_set Value.bool ((List.range n).map p) k x (by simpa using hk)]
  apply List.ext_getElem
  · simp [bcl]
  · intro i h1 h2
    simp only [bcl, List.getElem_map, List.getElem_set, List.getElem_range]
    by_cases e : k = i
    · subst e; simp
    · rw [if_neg e, if_neg (Ne.symm e)]
theorem bools_flat (n : Nat) (L : List Nat) : (bools n L).flatten = bcl n fun i => decide (i ∈ L) := by
  unfold bools bcl
  induction List.range n with
  | nil => rfl
  | cons a l ih => simp [ih]
theorem stB_flat (st : List Int) : (stB st).flatten = bcl 8 fun i => decide ((i : Int) ∈ st) := by
  unfold stB bcl
  induction List.range 8 with
  | nil => rfl
  | cons a l ih => simp [ih]
theorem bools_wid (n : Nat) (L : List Nat) : Wid 1 (bools n L) := Wid.map fun _ => rfl
theorem stB_wid (st : List Int) : Wid 1 (stB st) := Wid.map fun _ => rfl
end Go.Proofs.YthjbhdmjfakfaaaGreatDoor

set_option linter.unusedVariables false
set_option linter.unusedSimpArgs false
set_option maxRecDepth 100000
namespace Go.Proofs.YthjbhdmjfakfaaaGreatDoor
open Go.KH

/-! ## The reference's plan, whole -/
theorem bools_erase {w : List UStep} {s : PS} (p : PInv w s) {k : Nat} (hk : k < s.left.length) : splice (bools w.length s.left).flatten s.left[k] [.bool false] = (bools w.length (s.left.eraseIdx k)).flatten := by
  rw [bools_flat, bools_flat, bcl_put _ _ (p.bound _ (List.getElem_mem hk))]
  refine bcl_congr fun i _ => ?_
  have := mem_erase p hk i
  by_cases h : i = s.left[k]
  · rw [if_pos h]; exact (decide_eq_false fun q => (this.1 q).2 h).symm
  · rw [if_neg h]; exact decide_eq_decide.2 ⟨fun q => this.2 ⟨q, h⟩, fun q => (this.1 q).1⟩
theorem bcl_next {n k : Nat} (hk : k < n) : splice (bcl n fun i => decide (i < k)) k [.bool true] = bcl n fun i => decide (i < k + 1) := by
  rw [bcl_put _ _ hk]
  refine bcl_congr fun i _ => ?_
  by_cases e : i = k
  · rw [if_pos e]; simp [e]
  · rw [if_neg e]; exact decide_eq_decide.2 (by omega)
theorem stB_add {st : List Int} {d : Int} (hd : 0 ≤ d ∧ d ≤ 7) : splice (stB st).flatten d.toNat [.bool true] = (stB (st ++ [d])).flatten := by
  rw [stB_flat, stB_flat, bcl_put _ _ (by omega)]
  refine bcl_congr fun i _ => ?_
  by_cases h : i = d.toNat
  · rw [if_pos h]; simp [show (i : Int) = d by omega]
  · rw [if_neg h]; simp [show ¬ (i : Int) = d by omega]
end Go.Proofs.YthjbhdmjfakfaaaGreatDoor
