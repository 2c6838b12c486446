/- A helper of this seat's claims (the logic of the walks): what it shows is shown for every input that its statements name, on no other condition. -/
import Derived.OrdersHeld
import Derived.Laws.Cells
import Derived.Below
set_option linter.unusedVariables false
set_option linter.unusedSimpArgs false
namespace Go.KH
open Go.RowKit

/-! ## Values, frames -/
abbrev Fr := Nat → Value
def upd (f : Fr) (d : Nat) (v : Value) : Fr := fun i => if i = d then v else f i
@[simp] theorem upd_same (f : Fr) (d : Nat) (v : Value) : upd f d v d = v := by simp [upd]
theorem upd_app (f : Fr) (d i : Nat) (v : Value) : upd f d v i = if i = d then v else f i := rfl
theorem upd_ne (f : Fr) (d i : Nat) (v : Value) (h : i ≠ d) : upd f d v i = f i := by simp [upd, h]
def argsFr (l : List Value) : Fr := fun i => l.getD i undef
theorem argsFr_app (l : List Value) (i : Nat) : argsFr l i = l.getD i undef := rfl

inductive X where
  | t (i : Nat)
  | c (v : Value)
def ev (f : Fr) : X → Value
  | .t i => f i
  | .c v => v
def px : Operand → X
  | .tmp t => .t t
  | .const v => .c v
  | .global g => .c (.pointer (some ⟨g, 0, none⟩))
  | .func f => .c (.func (.func f) #[] #[])

abbrev ptr (b o : Nat) : Value := .pointer (some ⟨b, o, none⟩)
abbrev i64 (n : Int) : Value := .int .i64 n
abbrev u8 (n : Int) : Value := .int .u8 n
abbrev sl (b o n c : Nat) : Value := .slice (some ⟨b, o, none⟩) n c
abbrev nils : Value := .slice none 0 0

/-- The relation of a frame and the machine's temporaries. -/
def FrR (N : Nat) (f : Fr) (tmps : Array Value) : Prop := tmps.size = N ∧ ∀ i, tmps.getD i undef = f i

theorem FrR.eval {N : Nat} {f : Fr} {a : Act} (h : FrR N f a.tmps) (x : Operand) : a.eval x = ev f (px x) := by
  cases x with
  | tmp t => exact h.2 t
  | _ => rfl

theorem FrR.put {N : Nat} {f : Fr} {tmps : Array Value} (h : FrR N f tmps) (d : Nat) (v : Value) (hd : d < N) : FrR N (upd f d v) (tmps.setIfInBounds d v) := by
  refine ⟨by simpa using h.1, fun i => ?_⟩
  by_cases hi : i = d
  · subst hi; simp [upd, h.1, hd]
  · have := h.2 i
    simp only [upd, hi, if_false]
    rw [← this]
    simp [Array.getD_eq_getD_getElem?, Array.getElem?_setIfInBounds_ne (Ne.symm hi)]

/-! ## The known heap -/
structure Ob where
  cells : List Value
  size : Nat

structure H where
  base : Nat
  get : Nat → Option Ob
  mp : Nat → Option (List (Value × Value))

def H.set (h : H) (b : Nat) (o : Ob) : H := { h with get := fun c => if c = b then some o else h.get c }
def H.setm (h : H) (b : Nat) (l : List (Value × Value)) : H := { h with mp := fun c => if c = b then some l else h.mp c }
def H.none (h : H) : H := { base := h.base, get := fun _ => Option.none, mp := fun _ => Option.none }
@[simp] theorem H.set_base (h : H) (b : Nat) (o : Ob) : (h.set b o).base = h.base := rfl
@[simp] theorem H.set_mp (h : H) (b : Nat) (o : Ob) : (h.set b o).mp = h.mp := rfl
@[simp] theorem H.setm_base (h : H) (b : Nat) (l : List (Value × Value)) : (h.setm b l).base = h.base := rfl
@[simp] theorem H.setm_get (h : H) (b : Nat) (l : List (Value × Value)) : (h.setm b l).get = h.get := rfl
theorem H.setm_mp (h : H) (b c : Nat) (l : List (Value × Value)) : (h.setm b l).mp c = if c = b then some l else h.mp c := rfl
@[simp] theorem H.set_get_same (h : H) (b : Nat) (o : Ob) : (h.set b o).get b = some o := by simp [H.set]
theorem H.set_get_ne (h : H) (b c : Nat) (o : Ob) (hn : c ≠ b) : (h.set b o).get c = h.get c := by simp [H.set, hn]
theorem H.set_get (h : H) (b c : Nat) (o : Ob) : (h.set b o).get c = if c = b then some o else h.get c := rfl

/-- Cells of a block. -/
def ldc (h : H) (b o n : Nat) : Option (List Value) :=
  match h.get b with
  | some ob => if o + n ≤ ob.cells.length then some ((ob.cells.drop o).take n) else Option.none
  | Option.none => Option.none

/-- The world has the cells that the heap knows. -/
def Maps (h : H) (w : World) : Prop := ∀ b l, h.mp b = some l → ∃ es clock, w.heap[b]? = some (.map es clock) ∧ es.toList.map (fun e => (e.key, e.val)) = l
structure Has (h : H) (w : World) : Prop where
  cells : ∀ b ob, h.get b = some ob → ∃ c T fz, w.heap[b]? = some (.cells c T fz) ∧ ob.cells <+: c.toList
  maps : Maps h w

structure Rel (w0 : World) (h : H) (w : World) : Prop where
  below : Below h.base w0 w
  baseLe : h.base ≤ w0.heap.size
  obs : ∀ b ob, h.get b = some ob → ∃ c T fz, w.heap[b]? = some (.cells c T fz) ∧ ob.cells <+: c.toList ∧
    (h.base ≤ b → c.size = ob.size ∧ ∀ i, i < ob.size → ¬ (fz.1 ≤ i ∧ i < fz.2))
  maps : Maps h w
  own : ∀ b l, h.mp b = some l → h.base ≤ b

theorem Rel.has {w0 w : World} {h : H} (r : Rel w0 h w) : Has h w := ⟨fun b ob hb =>
  let ⟨c, T, fz, h1, h2, _⟩ := r.obs b ob hb; ⟨c, T, fz, h1, h2⟩, r.maps⟩

/-- All that is known in one heap is known in the other. -/
structure Sub (h h' : H) : Prop where
  g : ∀ b ob, h.get b = some ob → h'.get b = some ob
  m : ∀ b l, h.mp b = some l → h'.mp b = some l
theorem Sub.refl (h : H) : Sub h h := ⟨fun _ _ x => x, fun _ _ x => x⟩
theorem Sub.trans {a b c : H} (h : Sub a b) (k : Sub b c) : Sub a c := ⟨fun x y z => k.g x y (h.g x y z), fun x y z => k.m x y (h.m x y z)⟩
theorem Sub.has {h h' : H} {w : World} (s : Sub h h') (r : Has h' w) : Has h w := ⟨fun b ob hb => r.cells b ob (s.g b ob hb), fun b l hb => r.maps b l (s.m b l hb)⟩
/-- More is known, of the same call. -/
def Ext (h h' : H) : Prop := h'.base = h.base ∧ Sub h h'
theorem Ext.refl (h : H) : Ext h h := ⟨rfl, Sub.refl h⟩
theorem Ext.trans {a b c : H} (h : Ext a b) (k : Ext b c) : Ext a c := ⟨k.1.trans h.1, h.2.trans k.2⟩
theorem Rel.weaken {w0 w : World} {h h' : H} (r : Rel w0 h' w) (e : Ext h h') : Rel w0 h w := by
  obtain ⟨e1, e2⟩ := e
  refine ⟨?_, ?_, fun b ob hb => ?_, fun b l hb => r.maps b l (e2.m b l hb), fun b l hb => ?_⟩
  · rw [← e1]; exact r.below
  · rw [← e1]; exact r.baseLe
  · rw [← e1]; exact r.obs b ob (e2.g b ob hb)
  · rw [← e1]; exact r.own b l (e2.m b l hb)
theorem H.none_sub (h h' : H) : Sub h.none h' := ⟨fun _ _ x => (by cases x), fun _ _ x => (by cases x)⟩

theorem cell_of_has {h : H} {w : World} (r : Has h w) {b o n : Nat} {cs : List Value} (hl : ldc h b o n = some cs) :
    cs.length = n ∧ ∀ j v, cs[j]? = some v → w.cell? ⟨b, o + j, none⟩ = some v := by
  unfold ldc at hl
  split at hl
  · rename_i ob hb
    split at hl
    · rename_i hle
      obtain rfl : (ob.cells.drop o).take n = cs := by simpa using hl
      obtain ⟨c, T, fz, h1, ⟨t, h2⟩⟩ := r.cells b ob hb
      refine ⟨by simp; omega, fun j v hj => ?_⟩
      have hjn : j < n := by
        have := (List.getElem?_eq_some_iff.1 hj).1
        simp at this; omega
      have : ob.cells[o + j]? = some v := by
        rw [List.getElem?_take, if_pos hjn, List.getElem?_drop] at hj
        exact hj
      simp only [World.cell?, h1]
      have h3 : c.toList[o + j]? = some v := by
        rw [← h2, List.getElem?_append_left (List.getElem?_eq_some_iff.1 this).1]
        exact this
      simpa using h3
    · cases hl
  · cases hl

theorem addr_add (b o j : Nat) : (Addr.add ⟨b, o, none⟩ j) = ⟨b, o + j, none⟩ := by
  unfold Addr.add
  split
  · rename_i h; subst h; rfl
  · rfl

section
variable {P : Program}
theorem run_ldc {h : H} {w : World} (r : Has h w) {b o n : Nat} {cs : List Value} (hl : ldc h b o n = some cs) :
    (loadCells ⟨b, o, none⟩ n).run P w = .ok cs.toArray w := by
  obtain ⟨h1, h2⟩ := cell_of_has r hl
  subst h1
  exact run_loadCells_list w _ cs (fun j v hj => by rw [addr_add]; exact h2 j v hj)

theorem run_ld1 {h : H} {w : World} (r : Has h w) {b o : Nat} {v : Value} (hl : ldc h b o 1 = some [v]) :
    (load ⟨b, o, none⟩).run P w = .ok v w := by
  obtain ⟨h1, h2⟩ := cell_of_has r hl
  have := h2 0 v rfl
  simp only [Nat.add_zero] at this
  simp [run_load, this]
end

/-! ## Small continuations -/
def withO {α : Type} (o : Option α) (K : α → Prop) : Prop := ∃ a, o = some a ∧ K a
@[simp] theorem withO_some {α : Type} (a : α) (K : α → Prop) : withO (some a) K = K a := by simp [withO]
@[simp] theorem withO_none {α : Type} (K : α → Prop) : withO none K = False := by simp [withO]
@[simp] theorem withO_ite {α : Type} (c : Prop) [Decidable c] (a : α) (K : α → Prop) : withO (if c then some a else none) K = (c ∧ K a) := by
  by_cases h : c <;> simp [h]
@[simp] theorem withO_bind {α β : Type} (o : Option α) (g : α → Option β) (K : β → Prop) : withO (o.bind g) K = withO o (fun a => withO (g a) K) := by
  cases o <;> simp

end Go.KH
