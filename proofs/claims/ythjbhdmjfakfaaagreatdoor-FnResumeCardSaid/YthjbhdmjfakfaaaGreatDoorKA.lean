/- A helper of this seat's claims (the logic of the walks): what it shows is shown for every input that its statements name, on no other condition. -/
import Derived.OrdersHeld
import Derived.Laws.Cells
import Derived.Below
import Derived.ChangeKeysEq
import Derived.Laws.CopyRow
import Derived.Laws.Append
import Derived.IntWalk
set_option linter.unusedVariables false
set_option linter.unusedSimpArgs false
namespace Go.KH
open Go.RowKit

abbrev Fr := Nat → Value
def upd (f : Fr) (d : Nat) (v : Value) : Fr := fun i => if i = d then v else f i
@[simp] theorem upd_same (f : Fr) (d : Nat) (v : Value) : upd f d v d = v := by simp [upd]
theorem upd_app (f : Fr) (d i : Nat) (v : Value) : upd f d v i = if i = d then v else f i := rfl
def argsFr (l : List Value) : Fr := fun i => l.getD i undef
theorem argsFr_app (l : List Value) (i : Nat) : argsFr l i = l.getD i undef := rfl

inductive X where
 | t (i : Nat)
 | c (v : Value)
def ev (f : Fr) : X → Value
 | .t i => f i
 | .c v => v
def px : Operand → X
 | .tmp t => .t t
 | .const v => .c v
 | .global g => .c (.pointer (some ⟨g, 0, none⟩))
 | .func f => .c (.func (.func f) #[] #[])

abbrev ptr (b o : Nat) : Value := .pointer (some ⟨b, o, none⟩)
abbrev i64 (n : Int) : Value := .int .i64 n
abbrev u8 (n : Int) : Value := .int .u8 n
abbrev sl (b o n c : Nat) : Value := .slice (some ⟨b, o, none⟩) n c
abbrev nils : Value := .slice none 0 0

def FrR (N : Nat) (f : Fr) (tmps : Array Value) : Prop := tmps.size = N ∧ ∀ i, tmps.getD i undef = f i

theorem FrR.eval {N : Nat} {f : Fr} {a : Act} (h : FrR N f a.tmps) (x : Operand) : a.eval x = ev f (px x) := by
 cases x with
 | tmp t => exact h.2 t
 | _ => rfl

theorem FrR.put {N : Nat} {f : Fr} {tmps : Array Value} (h : FrR N f tmps) (d : Nat) (v : Value) (hd : d < N) : FrR N (upd f d v) (tmps.setIfInBounds d v) := by
 refine ⟨by simpa using h.1, fun i => ?_⟩
 by_cases hi : i = d
 ·subst hi; simp [upd, h.1, hd]
 ·have := h.2 i
  simp only [upd, hi, if_false]
  rw [← this]
  simp [Array.getD_eq_getD_getElem?, Array.getElem?_setIfInBounds_ne (Ne.symm hi)]

structure Ob where
 cells : List Value
 size : Nat

structure H where
 base : Nat
 get : Nat → Option Ob
 mp : Nat → Option (List (Value × Value))

def H.set (h : H) (b : Nat) (o : Ob) : H := { h with get := fun c => if c = b then some o else h.get c }
def H.setm (h : H) (b : Nat) (l : List (Value × Value)) : H := { h with mp := fun c => if c = b then some l else h.mp c }
def H.none (h : H) : H := { base := h.base, get := fun _ => Option.none, mp := fun _ => Option.none }
@[simp] theorem H.set_base (h : H) (b : Nat) (o : Ob) : (h.set b o).base = h.base := rfl
@[simp] theorem H.set_mp (h : H) (b : Nat) (o : Ob) : (h.set b o).mp = h.mp := rfl
@[simp] theorem H.setm_base (h : H) (b : Nat) (l : List (Value × Value)) : (h.setm b l).base = h.base := rfl
@[simp] theorem H.setm_get (h : H) (b : Nat) (l : List (Value × Value)) : (h.setm b l).get = h.get := rfl
theorem H.setm_mp (h : H) (b c : Nat) (l : List (Value × Value)) : (h.setm b l).mp c = if c = b then some l else h.mp c := rfl
@[simp] theorem H.set_get_same (h : H) (b : Nat) (o : Ob) : (h.set b o).get b = some o := by simp [H.set]
theorem H.set_get_ne (h : H) (b c : Nat) (o : Ob) (hn : c ≠ b) : (h.set b o).get c = h.get c := by simp [H.set, hn]
theorem H.set_get (h : H) (b c : Nat) (o : Ob) : (h.set b o).get c = if c = b then some o else h.get c := rfl

def ldc (h : H) (b o n : Nat) : Option (List Value) :=
 match h.get b with
 | some ob => if o + n ≤ ob.cells.length then some ((ob.cells.drop o).take n) else Option.none
 | Option.none => Option.none

def Maps (h : H) (w : World) : Prop := ∀ b l, h.mp b = some l → ∃ es clock, w.heap[b]? = some (.map es clock) ∧ es.toList.map (fun e => (e.key, e.val)) = l
structure Has (h : H) (w : World) : Prop where
 cells : ∀ b ob, h.get b = some ob → ∃ c T fz, w.heap[b]? = some (.cells c T fz) ∧ ob.cells <+: c.toList
 maps : Maps h w

structure Rel (w0 : World) (h : H) (w : World) : Prop where
 below : Below h.base w0 w
 baseLe : h.base ≤ w0.heap.size
 obs : ∀ b ob, h.get b = some ob → ∃ c T fz, w.heap[b]? = some (.cells c T fz) ∧ ob.cells <+: c.toList ∧
  (h.base ≤ b → c.size = ob.size ∧ ∀ i, i < ob.size → ¬ (fz.1 ≤ i ∧ i < fz.2))
 maps : Maps h w
 own : ∀ b l, h.mp b = some l → h.base ≤ b

theorem Rel.has {w0 w : World} {h : H} (r : Rel w0 h w) : Has h w := ⟨fun b ob hb =>
 let ⟨c, T, fz, h1, h2, _⟩ := r.obs b ob hb; ⟨c, T, fz, h1, h2⟩, r.maps⟩

structure Sub (h h' : H) : Prop where
 g : ∀ b ob, h.get b = some ob → h'.get b = some ob
 m : ∀ b l, h.mp b = some l → h'.mp b = some l
theorem Sub.refl (h : H) : Sub h h := ⟨fun _ _ x => x, fun _ _ x => x⟩
theorem Sub.trans {a b c : H} (h : Sub a b) (k : Sub b c) : Sub a c := ⟨fun x y z => k.g x y (h.g x y z), fun x y z => k.m x y (h.m x y z)⟩
theorem Sub.has {h h' : H} {w : World} (s : Sub h h') (r : Has h' w) : Has h w := ⟨fun b ob hb => r.cells b ob (s.g b ob hb), fun b l hb => r.maps b l (s.m b l hb)⟩
def Ext (h h' : H) : Prop := h'.base = h.base ∧ Sub h h'
theorem Ext.refl (h : H) : Ext h h := ⟨rfl, Sub.refl h⟩
theorem Ext.trans {a b c : H} (h : Ext a b) (k : Ext b c) : Ext a c := ⟨k.1.trans h.1, h.2.trans k.2⟩
theorem Rel.weaken {w0 w : World} {h h' : H} (r : Rel w0 h' w) (e : Ext h h') : Rel w0 h w := by
 obtain ⟨e1, e2⟩ := e
 refine ⟨?_, ?_, fun b ob hb => ?_, fun b l hb => r.maps b l (e2.m b l hb), fun b l hb => ?_⟩
 ·rw [← e1]; exact r.below
 ·rw [← e1]; exact r.baseLe
 ·rw [← e1]; exact r.obs b ob (e2.g b ob hb)
 ·rw [← e1]; exact r.own b l (e2.m b l hb)
theorem cell_of_has {h : H} {w : World} (r : Has h w) {b o n : Nat} {cs : List Value} (hl : ldc h b o n = some cs) :
  cs.length = n ∧ ∀ j v, cs[j]? = some v → w.cell? ⟨b, o + j, none⟩ = some v := by
 unfold ldc at hl
 split at hl
 ·rename_i ob hb
  split at hl
  ·rename_i hle
   obtain rfl : (ob.cells.drop o).take n = cs := by simpa using hl
   obtain ⟨c, T, fz, h1, ⟨t, h2⟩⟩ := r.cells b ob hb
   refine ⟨by simp; omega, fun j v hj => ?_⟩
   have hjn : j < n := by
    have := (List.getElem?_eq_some_iff.1 hj).1
    simp at this; omega
   have : ob.cells[o + j]? = some v := by
    rw [List.getElem?_take, if_pos hjn, List.getElem?_drop] at hj
    exact hj
   simp only [World.cell?, h1]
   have h3 : c.toList[o + j]? = some v := by
    rw [← h2, List.getElem?_append_left (List.getElem?_eq_some_iff.1 this).1]
    exact this
   simpa using h3
  ·cases hl
 ·cases hl

theorem addr_add (b o j : Nat) : (Addr.add ⟨b, o, none⟩ j) = ⟨b, o + j, none⟩ := by
 unfold Addr.add
 split
 ·rename_i h; subst h; rfl
 ·rfl

section
variable {P : Program}
theorem run_ldc {h : H} {w : World} (r : Has h w) {b o n : Nat} {cs : List Value} (hl : ldc h b o n = some cs) :
  (loadCells ⟨b, o, none⟩ n).run P w = .ok cs.toArray w := by
 obtain ⟨h1, h2⟩ := cell_of_has r hl
 subst h1
 exact run_loadCells_list w _ cs (fun j v hj => by rw [addr_add]; exact h2 j v hj)

theorem run_ld1 {h : H} {w : World} (r : Has h w) {b o : Nat} {v : Value} (hl : ldc h b o 1 = some [v]) :
  (load ⟨b, o, none⟩).run P w = .ok v w := by
 obtain ⟨h1, h2⟩ := cell_of_has r hl
 have := h2 0 v rfl
 simp only [Nat.add_zero] at this
 simp [run_load, this]
end

def withO {α : Type} (o : Option α) (K : α → Prop) : Prop := ∃ a, o = some a ∧ K a
@[simp] theorem withO_some {α : Type} (a : α) (K : α → Prop) : withO (some a) K = K a := by simp [withO]
@[simp] theorem withO_none {α : Type} (K : α → Prop) : withO none K = False := by simp [withO]
@[simp] theorem withO_ite {α : Type} (c : Prop) [Decidable c] (a : α) (K : α → Prop) : withO (if c then some a else none) K = (c ∧ K a) := by
 by_cases h : c <;> simp [h]
@[simp] theorem withO_bind {α β : Type} (o : Option α) (g : α → Option β) (K : β → Prop) : withO (o.bind g) K = withO o (fun a => withO (g a) K) := by
 cases o <;> simp

end Go.KH
namespace Go.KH
open Go.RowKit

def str (l : List UInt8) : Value := .string ⟨l.toArray⟩
def bl (s : ByteArray) : List UInt8 := s.data.toList
theorem str_bl (s : ByteArray) : str (bl s) = .string s := by simp [str, bl]
@[simp] theorem bl_mk (l : List UInt8) : bl ⟨l.toArray⟩ = l := by simp [bl]

def asB : Value → Option Bool | .bool t => some t | _ => none
def asI : Value → Option (IntKind × Int) | .int k n => some (k, n) | _ => none
def asP : Value → Option (Nat × Nat) | .pointer (some ⟨b, o, none⟩) => some (b, o) | _ => none
def asS : Value → Option (List UInt8) | .string s => some (bl s) | _ => none
def asA : Value → Option (List Value) | .agg cs => some cs.toList | _ => none
def asT : Value → Option (List Value) | .tuple cs => some cs.toList | _ => none
def asL : Value → Option (Option Addr × Nat × Nat) | .slice a n c => some (a, n, c) | _ => none
def asR : Value → Option (Nat × Nat × Nat) | .slice (some ⟨b, o, none⟩) n _ => some (b, o, n) | .slice _ 0 _ => some (0, 0, 0) | _ => none
@[simp] theorem asB_mk (t : Bool) : asB (.bool t) = some t := rfl
@[simp] theorem asI_mk (k : IntKind) (n : Int) : asI (.int k n) = some (k, n) := rfl
@[simp] theorem asP_mk (b o : Nat) : asP (ptr b o) = some (b, o) := rfl
@[simp] theorem asS_mk (l : List UInt8) : asS (str l) = some l := by simp [asS, str]
@[simp] theorem asA_mk (l : List Value) : asA (.agg l.toArray) = some l := by simp [asA]
@[simp] theorem asT_mk (l : List Value) : asT (.tuple l.toArray) = some l := by simp [asT]
@[simp] theorem asL_mk (a : Option Addr) (n c : Nat) : asL (.slice a n c) = some (a, n, c) := rfl
@[simp] theorem asR_mk (b o n c : Nat) : asR (sl b o n c) = some (b, o, n) := rfl

inductive LK where
 | i | s | b

inductive PO where
 | mv (x : X)
 | pick (c a b : X)
 | ld (agg : Bool) (n : Nat) (x : X)
 | fld (off : Nat) (x : X)
 | idx (w : Nat) (x i : X)
 | aidx (len w : Nat) (x i : X)
 | ix (agg : Bool) (len w : Nat) (x i : X)
 | bin (op : BinOp) (x y : X)
 | eqb (neg : Bool) (x y : X)
 | eqs (neg : Bool) (x y : X)
 | eqa (neg : Bool) (pl : List LK) (x y : X)
 | un (op : UnOp) (x : X)
 | cv (k : IntKind) (x : X)
 | sidx (x i : X)
 | ssl (x : X) (lo hi : Option X)
 | lsl (w : Nat) (x : X) (lo hi : Option X)
 | len (x : X)
 | slen (x : X)
 | alen (n : Nat)
 | part (agg : Bool) (off n : Nat) (x : X)
 | ext (k : Nat) (x : X)
 | build (z : List Value) (ps : List (Nat × Nat × X))
 | mkf (fn : Nat) (caps : List X)
 | mn (x y : X)
 | mx (x y : X)
 | b2s (x : X)
 | nck (x : X)
 | lsl3 (w : Nat) (x : X) (lo hi mx : X)
 | mlk (z : Value) (x k : X)
 | mln (x : X)

def ibin (op : BinOp) (k : IntKind) (a b : Int) : Option Value :=
 match op with
 | .add => some (.int k (k.wrap (a + b)))
 | .sub => some (.int k (k.wrap (a - b)))
 | .mul => some (.int k (k.wrap (a * b)))
 | .quo => if b = 0 then none else some (.int k (k.wrap (a.tdiv b)))
 | .rem => if b = 0 then none else some (.int k (a.tmod b))
 | .and => some (.int k (k.wrap (BitVec.ofInt k.bits a &&& BitVec.ofInt k.bits b).toNat))
 | .or => some (.int k (k.wrap (BitVec.ofInt k.bits a ||| BitVec.ofInt k.bits b).toNat))
 | .xor => some (.int k (k.wrap (BitVec.ofInt k.bits a ^^^ BitVec.ofInt k.bits b).toNat))
 | .andNot => some (.int k (k.wrap (BitVec.ofInt k.bits a &&& ~~~(BitVec.ofInt k.bits b)).toNat))
 | .eql => some (.bool (decide (a = b)))
 | .neq => some (.bool (decide (¬ a = b)))
 | .lss => some (.bool (decide (a < b)))
 | .leq => some (.bool (decide (a ≤ b)))
 | .gtr => some (.bool (decide (b < a)))
 | .geq => some (.bool (decide (b ≤ a)))
 | _ => none

def shiftv (op : BinOp) (k : IntKind) (a b : Int) : Option Value :=
 if b < 0 then none else match op with
 | .shl => some (.int k (k.wrap (a * 2 ^ (min b.toNat k.bits))))
 | .shr => some (.int k (a.fdiv (2 ^ (min b.toNat k.bits))))
 | _ => none

def sbin (op : BinOp) (a b : List UInt8) : Option Value :=
 match op with
 | .add => if a.length + b.length ≤ 4611686018427387904 then some (str (a ++ b)) else none
 | .eql => some (.bool (decide (a = b)))
 | .neq => some (.bool (decide (¬ a = b)))
 | _ => none

def obin : BinOp → Value → Value → Option Value
 | .shl, .int k a, .int _ b => shiftv .shl k a b
 | .shr, .int k a, .int _ b => shiftv .shr k a b
 | op, .int k a, .int k' b => if k = k' then ibin op k a b else none
 | op, .string a, .string b => sbin op (bl a) (bl b)
 | _, _, _ => none

def oeqs : Value → Value → Option Bool
 | .slice none _ _, .slice b _ _ => some b.isNone
 | .slice (some _) _ _, .slice none _ _ => some false
 | _, _ => none

def leafEq : LK → Value → Value → Option Bool
 | .i, .int k a, .int k' b => if k = k' then some (decide (a = b)) else none
 | .s, .string a, .string b => some (decide (bl a = bl b))
 | .b, .bool a, .bool b => some (decide (a = b))
 | _, _, _ => none
def cellsEq : List LK → List Value → List Value → Option Bool
 | [], [], [] => some true
 | k :: p, a :: l, b :: m => (leafEq k a b).bind fun t => if t then cellsEq p l m else some false
 | _, _, _ => none
def negv (neg t : Bool) : Value := .bool (if neg then !t else t)

def oun : UnOp → Value → Option Value
 | .not, .bool b => some (.bool (!b))
 | .neg, .int k n => some (.int k (k.wrap (0 - n)))
 | .xor, .int k n => some (.int k (k.wrap (BitVec.ofInt k.bits (if k.signed then -1 else k.max) ^^^ BitVec.ofInt k.bits n).toNat))
 | _, _ => none

def bnd (x : Option Value) (d y : Nat) : Option Nat :=
 match x with
 | none => some d
 | some v => (asI v).bind fun p => if 0 ≤ p.2 ∧ p.2 ≤ y then some p.2.toNat else none

def splice (l : List Value) (o : Nat) (cs : List Value) : List Value := l.take o ++ cs ++ l.drop (o + cs.length)
def fillL : List Value → List (Nat × Nat × Value) → Option (List Value)
 | cells, [] => some cells
 | cells, (off, size, v) :: rest =>
  if v.cells.toList.length = size ∧ off + size ≤ cells.length then fillL (splice cells off v.cells.toList) rest else none

def bytesOf : List Value → Option (List UInt8)
 | [] => some []
 | .int .u8 n :: l => (bytesOf l).map fun r => UInt8.ofNat n.toNat :: r
 | _ :: _ => none

def mfind (k : IntKind) (n : Int) : List (Value × Value) → Nat → Option (Option (Nat × Value))
 | [], _ => some none
 | (.int k' m, v) :: l, i => if k' = k then (if m = n then some (some (i, v)) else mfind k n l (i + 1)) else none
 | _ :: _, _ => none
def asM : Value → Option Nat | .map (some b) => some b | _ => none
def nckv : Value → Bool | .pointer (some _) => true | .func (.func _) _ _ => true | _ => false
def one : List Value → Option Value | [c] => some c | _ => none

def pval (ρ : X → Value) (h : H) : PO → Option Value
 | .mv x => some (ρ x)
 | .pick c a b => (asB (ρ c)).bind fun t => some (if t then ρ a else ρ b)
 | .ld true n x => (asP (ρ x)).bind fun p => (ldc h p.1 p.2 n).bind fun cs => some (.agg cs.toArray)
 | .ld false _ x => (asP (ρ x)).bind fun p => (ldc h p.1 p.2 1).bind one
 | .fld off x => (asP (ρ x)).bind fun p => some (ptr p.1 (p.2 + off))
 | .idx w x i => (asR (ρ x)).bind fun p => (asI (ρ i)).bind fun q => if 0 ≤ q.2 ∧ q.2 < p.2.2 then some (ptr p.1 (p.2.1 + q.2.toNat * w)) else none
 | .aidx len w x i => (asP (ρ x)).bind fun p => (asI (ρ i)).bind fun q => if 0 ≤ q.2 ∧ q.2 < len then some (ptr p.1 (p.2 + q.2.toNat * w)) else none
 | .ix agg len w x i => (asA (ρ x)).bind fun cs => (asI (ρ i)).bind fun q => if 0 ≤ q.2 ∧ q.2 < len then (if agg then some (.agg ((cs.drop (q.2.toNat * w)).take w).toArray) else cs[q.2.toNat * w]?) else none
 | .bin op x y => obin op (ρ x) (ρ y)
 | .eqb neg x y => (asB (ρ x)).bind fun a => (asB (ρ y)).bind fun b => some (negv neg (decide (a = b)))
 | .eqs neg x y => (oeqs (ρ x) (ρ y)).bind fun t => some (negv neg t)
 | .eqa neg pl x y => (asA (ρ x)).bind fun a => (asA (ρ y)).bind fun b => if a.length = pl.length ∧ b.length = pl.length ∧ (a ++ b).all Value.oneCell' then (cellsEq pl a b).bind fun t => some (negv neg t) else none
 | .un op x => oun op (ρ x)
 | .cv k x => (asI (ρ x)).bind fun q => some (.int k (k.wrap q.2))
 | .sidx x i => (asS (ρ x)).bind fun s => (asI (ρ i)).bind fun q => if 0 ≤ q.2 then (s[q.2.toNat]?).bind fun b => some (.int .u8 b.toNat) else none
 | .ssl x lo hi => (asS (ρ x)).bind fun s => (bnd (hi.map ρ) s.length s.length).bind fun hh => (bnd (lo.map ρ) 0 hh).bind fun l => some (str ((s.take hh).drop l))
 | .lsl w x lo hi => (asL (ρ x)).bind fun p => (bnd (hi.map ρ) p.2.1 p.2.2).bind fun hh => (bnd (lo.map ρ) 0 hh).bind fun l =>
   some (.slice (if p.2.2 = l then p.1 else p.1.map (·.add (l * w))) (hh - l) (p.2.2 - l))
 | .len x => (asL (ρ x)).bind fun p => some (.int .i64 p.2.1)
 | .slen x => (asS (ρ x)).bind fun s => some (.int .i64 s.length)
 | .alen n => some (.int .i64 n)
 | .part agg off n x => (asA (ρ x)).bind fun cs => if agg then some (.agg ((cs.drop off).take n).toArray) else cs[off]?
 | .ext k x => (asT (ρ x)).bind fun cs => cs[k]?
 | .build z ps => (fillL z (ps.map fun p => (p.1, p.2.1, ρ p.2.2))).bind fun cs => some (.agg cs.toArray)
 | .mkf fn caps => some (.func (.func fn) #[] (caps.map ρ).toArray)
 | .mn x y => (asI (ρ x)).bind fun a => (asI (ρ y)).bind fun b => some (.int a.1 (if b.2 < a.2 then b.2 else a.2))
 | .mx x y => (asI (ρ x)).bind fun a => (asI (ρ y)).bind fun b => some (.int a.1 (if b.2 > a.2 then b.2 else a.2))
 | .b2s x => (asR (ρ x)).bind fun p => if p.2.2 = 0 then some (str []) else (ldc h p.1 p.2.1 p.2.2).bind fun cs => (bytesOf cs).bind fun r => some (str r)
 | .nck x => if nckv (ρ x) then some (ρ x) else none
 | .lsl3 w x lo hi mx => (asL (ρ x)).bind fun p => (bnd (some (ρ mx)) 0 p.2.2).bind fun m => (bnd (some (ρ hi)) 0 m).bind fun hh => (bnd (some (ρ lo)) 0 hh).bind fun l =>
   some (.slice (if m = l then p.1 else p.1.map (·.add (l * w))) (hh - l) (m - l))
 | .mlk z x k => (asM (ρ x)).bind fun b => (h.mp b).bind fun l => (asI (ρ k)).bind fun q => (mfind q.1 q.2 l 0).bind fun r => some (match r with | some (_, v) => v | none => z)
 | .mln x => (asM (ρ x)).bind fun b => (h.mp b).bind fun l => some (.int .i64 l.length)

def isAggD : TypeDesc → Bool | .struct _ | .array _ _ => true | _ => false

def eqFields (P : Program) (g : TypeId → Option (List LK)) : List Field → Nat → Option (List LK)
 | [], _ => some []
 | f :: fs, off => if f.name ≠ "_" ∧ f.offset = off ∧ (P.info? f.type).isSome then (g f.type).bind fun m => (eqFields P g fs (off + m.length)).map (m ++ ·) else none
def flatEq (P : Program) : Nat → TypeId → Option (List LK)
 | 0, _ => none
 | d + 1, t =>
  match P.underlying t with
  | some (.int _) => if P.cellsOf t = 1 then some [.i] else none
  | some .string => if P.cellsOf t = 1 then some [.s] else none
  | some .bool => if P.cellsOf t = 1 then some [.b] else none
  | some (.struct fs) => if P.stoodInHeld t then none else (eqFields P (flatEq P d) fs.toList 0).bind fun pl => if P.cellsOf t = pl.length then some pl else none
  | _ => none

def prepP (P : Program) (o : Oper) : Option PO :=
 match o.op with
 | .move x | .assign x => some (.mv (px x))
 | .pick c a b => some (.pick (px c) (px a) (px b))
 | .load t x => (P.underlying t).bind fun d => (P.info? t).bind fun i => some (.ld (isAggD d) (if isAggD d then i.size else 1) (px x))
 | .fieldAddr s x f =>
  match P.underlying s with
  | some (.struct fs) => (fs[f]?).bind fun fd => (P.info? fd.type).bind fun i => if i.size = 0 then none else some (.fld fd.offset (px x))
  | _ => none
 | .field s x f =>
  match P.underlying s with
  | some (.struct fs) => (fs[f]?).bind fun fd => (P.info? fd.type).bind fun i => (P.underlying fd.type).bind fun d => some (.part (isAggD d) fd.offset i.size (px x))
  | _ => none
 | .indexAddr t x i =>
  match P.underlying t with
  | some (.slice e) => (P.info? e).bind fun j => some (.idx j.size (px x) (px i))
  | some (.array n e) => (P.info? e).bind fun j => some (.aidx n j.size (px x) (px i))
  | _ => none
 | .index t x i =>
  match P.underlying t with
  | some .string => some (.sidx (px x) (px i))
  | some (.array n e) => (P.info? e).bind fun j => (P.underlying e).bind fun d => some (.ix (isAggD d) n j.size (px x) (px i))
  | _ => none
 | .binOp op t x y _ =>
  match P.underlying t with
  | some (.int _) | some .string => some (.bin op (px x) (px y))
  | some .bool => (match op with | .eql => some (.eqb false (px x) (px y)) | .neq => some (.eqb true (px x) (px y)) | _ => none)
  | some (.slice _) => (match op with | .eql => some (.eqs false (px x) (px y)) | .neq => some (.eqs true (px x) (px y)) | _ => none)
  | some (.struct _) => if P.eqGuardType P.depth t then none else (flatEq P 10 t).bind fun pl =>
    (match op with | .eql => some (.eqa false pl (px x) (px y)) | .neq => some (.eqa true pl (px x) (px y)) | _ => none)
  | _ => none
 | .unOp op _ x => some (.un op (px x))
 | .convert s d x =>
  match P.underlying s, P.underlying d with
  | some (.int _), some (.int k) => some (.cv k (px x))
  | some (.slice e), some .string => (match P.underlying e with | some (.int .u8) => some (.b2s (px x)) | _ => none)
  | _, _ => none
 | .slice t x lo hi none =>
  match P.underlying t with
  | some .string => some (.ssl (px x) (lo.map px) (hi.map px))
  | some (.slice e) => (P.info? e).bind fun j => some (.lsl j.size (px x) (lo.map px) (hi.map px))
  | _ => none
 | .slice t x (some lo) (some hi) (some mx) =>
  match P.underlying t with
  | some (.slice e) => (P.info? e).bind fun j => some (.lsl3 j.size (px x) (px lo) (px hi) (px mx))
  | _ => none
 | .lookup t x i false =>
  match P.underlying t with
  | some (.map k e) => (match P.underlying k with | some (.int _) => (P.info? e).bind fun i' => i'.zero.bind fun z => some (.mlk z (px x) (px i)) | _ => none)
  | _ => none
 | .extract x k => some (.ext k (px x))
 | .makeFunc (.func f) first caps => if first.isEmpty then some (.mkf f (caps.toList.map px)) else none
 | .build t parts =>
  match P.underlying t, (P.info? t).bind (·.zero) with
  | some (.struct fs), some z =>
   (parts.toList.mapM fun (p : Nat × Operand) => (fs[p.1]?).bind fun fd => (P.info? fd.type).map fun i => (fd.offset, i.size, px p.2)).bind fun ps =>
    if fs.toList.all fun fd => (P.info? fd.type).isSome then some (.build z.cells.toList ps) else none
  | some (.array _ e), some z => (P.info? e).bind fun i => some (.build z.cells.toList (parts.toList.map fun (p : Nat × Operand) => (p.1 * i.size, i.size, px p.2)))
  | _, _ => none
 | .call c =>
  match c.callee, c.args.toList, c.argTypes.toList with
  | .builtin .len, [x], t :: _ =>
   (match P.underlying t with
   | some .string => some (.slen (px x))
   | some (.slice _) => some (.len (px x))
   | some (.array n _) => some (.alen n)
   | some (.map _ _) => some (.mln (px x))
   | _ => none)
  | .builtin .min, [x, y], _ => some (.mn (px x) (px y))
  | .builtin .max, [x, y], _ => some (.mx (px x) (px y))
  | _, _, _ => none
 | .nilCheck x => some (.nck (px x))
 | _ => none
end Go.KH
namespace Go.KH
open Go.RowKit

section
variable {P : Program}

theorem asB_some {v : Value} {t : Bool} (h : asB v = some t) : v = .bool t := by cases v <;> simp_all [asB]
theorem asI_some {v : Value} {q : IntKind × Int} (h : asI v = some q) : v = .int q.1 q.2 := by
 cases v with
 | int k n => simp only [asI, Option.some.injEq] at h; subst h; rfl
 | _ => cases h
theorem asP_some {v : Value} {q : Nat × Nat} (h : asP v = some q) : v = ptr q.1 q.2 := by
 unfold asP at h; split at h
 ·simp at h; subst h; rfl
 ·cases h
theorem asS_some {v : Value} {q : List UInt8} (h : asS v = some q) : ∃ s, v = .string s ∧ q = bl s := by cases v <;> simp_all [asS]
theorem asA_some {v : Value} {q : List Value} (h : asA v = some q) : v = .agg q.toArray := by cases v <;> simp_all [asA]; subst h; rfl
theorem asT_some {v : Value} {q : List Value} (h : asT v = some q) : v = .tuple q.toArray := by cases v <;> simp_all [asT]; subst h; rfl
theorem asL_some {v : Value} {q : Option Addr × Nat × Nat} (h : asL v = some q) : v = .slice q.1 q.2.1 q.2.2 := by
 cases v with
 | slice k n c => simp only [asL, Option.some.injEq] at h; subst h; rfl
 | _ => cases h
theorem asR_some {v : Value} {q : Nat × Nat × Nat} (h : asR v = some q) : (∃ c, v = sl q.1 q.2.1 q.2.2 c) ∨ (∃ a c, v = .slice a 0 c ∧ q.2.2 = 0) := by
 unfold asR at h; split at h
 ·simp at h; subst h; exact .inl ⟨_, rfl⟩
 ·simp at h; subst h; exact .inr ⟨_, _, rfl, rfl⟩
 ·cases h

theorem run_typeInfo' {t : TypeId} {i : TypeInfo} (h : P.info? t = some i) (w : World) : (typeInfo t).run P w = .ok i w := by
 simp [typeInfo, h]
theorem run_sizeOf' {t : TypeId} {i : TypeInfo} (h : P.info? t = some i) (w : World) : (sizeOf t).run P w = .ok i.size w := by
 simp [sizeOf, run_typeInfo' h]
theorem run_isAgg' {t : TypeId} {d : TypeDesc} (h : P.underlying t = some d) (w : World) : (isAgg t).run P w = .ok (isAggD d) w := by
 cases d <;> simp [isAgg, run_underlying h, isAggD]
theorem run_zeroValue' {t : TypeId} {i : TypeInfo} {z : Value} (h : P.info? t = some i) (hz : i.zero = some z) (w : World) : (zeroValue t).run P w = .ok z w := by
 simp [zeroValue, run_typeInfo' h, hz]
theorem run_part' {t : TypeId} {i : TypeInfo} {d : TypeDesc} (h : P.info? t = some i) (hd : P.underlying t = some d) (cs : List Value) (off : Nat) (w : World) {v : Value}
  (hv : (if isAggD d then some (.agg ((cs.drop off).take i.size).toArray) else cs[off]?) = some v) : (part t cs.toArray off).run P w = .ok v w := by
 unfold part
 simp only [Sem.run_bind, run_isAgg' hd, Result.andThen_ok]
 split at hv
 ·rename_i ha
  simp only [Option.some.injEq] at hv
  subst hv
  simp only [ha, if_true, Sem.run_bind, run_sizeOf' h, Result.andThen_ok, Sem.run_pure]
  congr 2
  rw [← Array.toList_inj]
  simp [List.extract_eq_take_drop]
 ·rename_i ha
  simp only [ha, if_false, Bool.false_eq_true]
  have h2 : cs.toArray[off]? = some v := by simpa using hv
  rw [h2]; rfl

theorem run_asInt {k : IntKind} {n : Int} (w : World) : (asInt (.int k n)).run P w = .ok n w := rfl
theorem run_asIntOf {k : IntKind} {n : Int} (w : World) : (asIntOf (.int k n)).run P w = .ok (k, n) w := rfl

theorem bl_length (s : ByteArray) : (bl s).length = s.size := rfl
theorem toList_eq (s : ByteArray) : s.toList = bl s := by
 rw [bl]; exact ByteArray.toList_eq s

theorem run_bnd {x : Option Value} {d y : Nat} {n : Nat} {code : BoundsCode} (w : World) (v : Value) (hx : x = some v) (h : bnd x d y = some n) : (Instr.sliceBound v y code).run P w = .ok n w := by
 subst hx
 simp only [bnd, Option.bind_eq_some_iff] at h
 obtain ⟨q, hq, h⟩ := h
 split at h
 ·rename_i hc
  simp only [Option.some.injEq] at h
  rw [asI_some hq]
  unfold Instr.sliceBound
  simp only [Sem.run_bind, run_asIntOf, Result.andThen_ok, hc, and_self, if_true, Sem.run_pure, h]
 ·cases h

theorem run_bounds {b : Bool} {len cap l hh : Nat} {lo hi : Option Value} (w : World) (h1 : bnd hi len cap = some hh) (h2 : bnd lo 0 hh = some l) :
  (Instr.sliceBounds b len cap lo hi none).run P w = .ok (l, hh, cap) w := by
 unfold Instr.sliceBounds
 cases hi with
 | none =>
  simp only [bnd, Option.some.injEq] at h1; subst h1
  cases lo with
  | none => simp only [bnd, Option.some.injEq] at h2; subst h2; simp
  | some v => simp [run_bnd w v rfl h2]
 | some u =>
  cases lo with
  | none => simp only [bnd, Option.some.injEq] at h2; subst h2; simp [run_bnd w u rfl h1]
  | some v => simp [run_bnd w u rfl h1, run_bnd w v rfl h2]

theorem run_ibin {op : BinOp} {k : IntKind} {a b : Int} {v : Value} (w : World) (hs : op ≠ .shl) (hr : op ≠ .shr) (h : ibin op k a b = some v) (t : TypeId) :
  (binOp op t (.int k a) (.int k b)).run P w = .ok v w := by
 cases op <;> simp_all [ibin, binOp, Op.intArith, Op.intDiv, Op.intBits, Op.intCmp] <;>
  first
   | (subst h; rfl)
   | (obtain ⟨h0, h⟩ := h; subst h; simp [h0])
   | (subst h; simp [BEq.beq, bne]; done)
   | (subst h; congr; simp [bne, BEq.beq, Bool.not_eq_true, decide_not])
   | skip
end
end Go.KH
namespace Go.KH
open Go.RowKit

section
variable {P : Program}

theorem run_sbin {op : BinOp} {a b : ByteArray} {v : Value} (w : World) (h : sbin op (bl a) (bl b) = some v) :
  (Op.stringOp op a b).run P w = .ok v w := by
 have e : (a.toList == b.toList) = decide (bl a = bl b) := by
  rw [toList_eq, toList_eq, Bool.eq_iff_iff]; simp
 cases op <;> simp only [sbin] at h <;> try (cases h; done)
 case add =>
  split at h
  ·rename_i hc
   simp only [Option.some.injEq] at h
   subst h
   have h1 : ¬ (((a.size + b.size : Nat) : Int) > IntKind.i64.max) := by
    have h2 : IntKind.i64.max = 9223372036854775807 := by decide
    rw [h2]
    rw [bl_length, bl_length] at hc
    omega
   simp only [Op.stringOp, h1, if_false, Sem.run_pure]
   congr 2
  ·cases h
 case eql => simp only [Option.some.injEq] at h; subst h; simp only [Op.stringOp, e, Sem.run_pure]
 case neq => simp only [Option.some.injEq] at h; subst h; simp only [Op.stringOp, e, Sem.run_pure, decide_not]

theorem run_obin {op : BinOp} {x y v : Value} {t : TypeId} (w : World) (h : obin op x y = some v) : (binOp op t x y).run P w = .ok v w := by
 unfold obin at h
 split at h
 ·simp only [shiftv] at h
  split at h
  ·cases h
  ·rename_i hb
   simp only [Option.some.injEq] at h; subst h
   simp [binOp, Op.shift, hb]
 ·simp only [shiftv] at h
  split at h
  ·cases h
  ·rename_i hb
   simp only [Option.some.injEq] at h; subst h
   simp [binOp, Op.shift, hb]
 ·rename_i h1 h2
  split at h
  ·rename_i hk; subst hk
   exact run_ibin w (fun e => by subst e; simp at h1) (fun e => by subst e; simp at h2) h t
  ·cases h
 ·cases op <;> first | exact run_sbin w h | (simp [sbin] at h; done)
 ·cases h

theorem run_eqGuard {op : BinOp} {t : TypeId} {x y : Operand} {a b : Value} (w : World) (h : ∀ c, a ≠ .agg c) (h' : a ≠ .nilIface) : (eqGuard op t x y a b).run P w = .ok () w := by
 unfold eqGuard
 cases a <;> simp_all <;> (split <;> simp)

theorem run_eqInt {t : TypeId} {k' k : IntKind} {a b : Int} (n : Nat) (w : World) (hd : P.underlying t = some (.int k')) : (Op.equalIn (n + 1) t (.int k a) (.int k b)).run P w = .ok (decide (a = b)) w := by
 have : (a == b) = decide (a = b) := by rw [Bool.eq_iff_iff]; simp
 simp [Op.equalIn, run_underlying hd, this]
theorem run_eqStr {t : TypeId} {a b : ByteArray} (n : Nat) (w : World) (hd : P.underlying t = some .string) : (Op.equalIn (n + 1) t (.string a) (.string b)).run P w = .ok (decide (bl a = bl b)) w := by
 have := run_equalIn_string w n t a b hd
 rw [this]; congr 1
 rw [toList_eq, toList_eq, Bool.eq_iff_iff]; simp
theorem run_eqBool {t : TypeId} {a b : Bool} (n : Nat) (w : World) (hd : P.underlying t = some .bool) : (Op.equalIn (n + 1) t (.bool a) (.bool b)).run P w = .ok (decide (a = b)) w := by
 simp only [Op.equalIn, Sem.run_bind, run_underlying hd, Result.andThen_ok, Sem.run_pure]
 congr 1
theorem run_eqNil {t e : TypeId} {a b : Value} {r : Bool} (w : World) (hd : P.underlying t = some (.slice e)) (h : oeqs a b = some r) : (Op.equal t a b).run P w = .ok r w := by
 have key : ∀ n, (Op.equalIn (n + 1) t a b).run P w = .ok r w := by
  intro n
  unfold oeqs at h
  split at h
  ·simp only [Option.some.injEq] at h; subst h
   simp [Op.equalIn, run_underlying hd]
  ·simp only [Option.some.injEq] at h; subst h
   simp [Op.equalIn, run_underlying hd]
  ·cases h
 exact key 9999

theorem run_oun {op : UnOp} {x v : Value} (w : World) (h : oun op x = some v) : (Op.unary op x).run P w = .ok v w := by
 unfold oun at h
 split at h <;> first | (simp only [Option.some.injEq] at h; subst h; simp [Op.unary, Op.intArith, Op.intBits]) | cases h

theorem fill_of {place : Nat → Option (Nat × Nat)} : ∀ (ps : List (Nat × Value)) (qs : List (Nat × Nat × Value)) (cells : List Value) (r : List Value),
  fillL cells qs = some r → qs.length = ps.length → (∀ (j : Nat) (p : Nat × Value) (q : Nat × Nat × Value), ps[j]? = some p → qs[j]? = some q → q.2.2 = p.2 ∧ place p.1 = some (q.1, q.2.1)) →
  Instr.fill place cells.toArray ps = some r.toArray
 | [], [], cells, r, h, _, _ => by simp [fillL] at h; subst h; rfl
 | [], _ :: _, _, _, _, hl, _ => by simp at hl
 | _ :: _, [], _, _, _, hl, _ => by simp at hl
 | (i, v) :: ps, (off, size, u) :: qs, cells, r, h, hl, hp => by
  obtain ⟨h1, h2⟩ := hp 0 (i, v) (off, size, u) rfl rfl
  simp only at h1 h2
  subst h1
  unfold fillL at h
  split at h
  ·rename_i hc
   unfold Instr.fill
   simp only [h2]
   have e1 : ¬ (u.cells.size ≠ size || decide (off + u.cells.size > cells.toArray.size)) = true := by
    simp at hc ⊢; omega
   rw [if_neg e1]
   have e2 : ∀ (cs : List Value) (k : Nat) (acc : List Value), off + k + cs.length ≤ acc.length →
     (cs.zipIdx k).foldl (fun cs (x : Value × Nat) => cs.setIfInBounds (off + x.2) x.1) acc.toArray = (acc.take (off + k) ++ cs ++ acc.drop (off + k + cs.length)).toArray := by
    intro cs
    induction cs with
    | nil => intro k acc _; simp
    | cons c cs ih =>
     intro k acc hle
     simp only [List.zipIdx_cons, List.foldl_cons, List.length_cons] at hle ⊢
     rw [show (acc.toArray.setIfInBounds (off + k) c) = (acc.set (off + k) c).toArray from by simp]
     rw [ih (k + 1) (acc.set (off + k) c) (by simp; omega)]
     congr 1
     rw [List.take_set, List.drop_set, if_pos (by omega)]
     have : (List.take (off + (k + 1)) acc).set (off + k) c = List.take (off + k) acc ++ [c] := by
      rw [show off + (k + 1) = off + k + 1 by omega, List.take_succ_eq_append_getElem (by omega)]
      rw [List.set_append_right _ _ (by simp; omega)]
      simp; rw [Nat.min_eq_left (by omega)]; simp
     rw [this]
     simp [show off + (k + 1) + cs.length = off + k + (cs.length + 1) by omega]
   have e3 := e2 u.cells.toList 0 cells (by simp at hc ⊢; omega)
   have e4 : Array.foldl (fun cs (x : Value × Nat) => cs.setIfInBounds (off + x.2) x.1) cells.toArray u.cells.zipIdx = (splice cells off u.cells.toList).toArray := by
    rw [← Array.foldl_toList]
    simp only [Array.toList_zipIdx]
    simpa [splice] using e3
   have := fill_of ps qs (splice cells off u.cells.toList) r h (by simpa using hl) (fun j p q hj hq => hp (j + 1) p q hj hq)
   rw [← this]
   congr 1
  ·cases h
end
end Go.KH
namespace Go.KH
open Go.RowKit

section
variable {P : Program}

theorem run_b2s {h : H} {w : World} (hh : Has h w) : ∀ (x : Value) {v : Value}, ((asR x).bind fun p => if p.2.2 = 0 then some (str []) else (ldc h p.1 p.2.1 p.2.2).bind fun cs => (bytesOf cs).bind fun r => some (str r)) = some v →
  (Conv.bytesToString x).run P w = .ok v w := by
 intro x v hv
 simp only [Option.bind_eq_some_iff] at hv
 obtain ⟨p, hp, hv⟩ := hv
 have loop : ∀ (f : Value → ByteArray → Sem (ForInStep ByteArray)) (hf : ∀ n s, f (.int .u8 n) s = pure (.yield (s.push (UInt8.ofNat n.toNat)))) (cs : List Value) (r : List UInt8) (s : ByteArray), bytesOf cs = some r →
   (forIn (m := Sem) cs.toArray s f).run P w = .ok ⟨(bl s ++ r).toArray⟩ w := by
  intro f hf cs
  induction cs with
  | nil => intro r s hr; simp only [bytesOf, Option.some.injEq] at hr; subst hr; simp [bl]
  | cons c cs ih =>
   intro r s hr
   unfold bytesOf at hr
   split at hr
   ·cases ‹c :: cs = []›
   ·rename_i n l heq
    obtain ⟨rfl, rfl⟩ := List.cons.inj heq
    simp only [Option.map_eq_some_iff] at hr
    obtain ⟨r', hr', rfl⟩ := hr
    have := ih r' (s.push (UInt8.ofNat n.toNat)) hr'
    simp only [List.forIn_toArray, List.forIn_cons, Sem.run_bind, Sem.run_pure, Result.andThen_ok, hf] at this ⊢
    rw [this]
    congr 2
    simp [bl, ByteArray.push]
   ·cases hr
 rcases asR_some hp with ⟨c, rfl⟩ | ⟨a, c, rfl, h0⟩
 ·unfold Conv.bytesToString
  split at hv
  ·rename_i h0
   simp only [Option.some.injEq] at hv; subst hv
   have h1 : (loadCells ⟨p.1, p.2.1, none⟩ 0).run P w = .ok #[] w := by simp [loadCells, loadCellsFrom]
   simp only [sl, h0, Sem.run_bind, h1, Result.andThen_ok]
   simp [str]
   rfl
  ·simp only [Option.bind_eq_some_iff] at hv
   obtain ⟨cs, hcs, r, hr, hv⟩ := hv
   simp only [Option.some.injEq] at hv; subst hv
   simp only [sl, Sem.run_bind, run_ldc hh hcs, Result.andThen_ok]
   rw [loop _ (fun n s => rfl) cs r ByteArray.empty hr]
   simp [str, bl, Sem.run_pure]
 ·unfold Conv.bytesToString
  simp only [h0, if_true, Option.some.injEq] at hv
  subst hv
  cases a with
  | none => simp [str]; rfl
  | some a =>
   have h1 : (loadCells a 0).run P w = .ok #[] w := by simp [loadCells, loadCellsFrom]
   simp only [Sem.run_bind, h1, Result.andThen_ok]
   simp [str]
   rfl

theorem cellsOf_eq {t : TypeId} {i : TypeInfo} (h : P.info? t = some i) : P.cellsOf t = i.size := by simp [Program.cellsOf, h]
theorem leafEq_cells {k : LK} {a b : Value} {r : Bool} (h : cellsEq [k] a.cells.toList b.cells.toList = some r) (ha : ∀ x, a ≠ .agg x) (hb : ∀ x, b ≠ .agg x) : leafEq k a b = some r := by
 have e1 : a.cells.toList = [a] := by cases a <;> simp_all [Value.cells]
 have e2 : b.cells.toList = [b] := by cases b <;> simp_all [Value.cells]
 rw [e1, e2] at h
 simp only [cellsEq, Option.bind_eq_some_iff] at h
 obtain ⟨t, ht, h⟩ := h
 rw [ht]
 cases t <;> simp_all

theorem cellsEq_append : ∀ (m p : List LK) (u1 u2 v1 v2 : List Value), u1.length = m.length → u2.length = m.length →
  cellsEq (m ++ p) (u1 ++ v1) (u2 ++ v2) = (cellsEq m u1 u2).bind fun t => if t then cellsEq p v1 v2 else some false
 | [], p, [], [], v1, v2, _, _ => by simp [cellsEq]
 | k :: m, p, a :: u1, b :: u2, v1, v2, h1, h2 => by
  simp only [List.cons_append, cellsEq]
  cases leafEq k a b with
  | none => rfl
  | some t =>
   cases t
   ·simp
   ·simp [cellsEq_append m p u1 u2 v1 v2 (by simpa using h1) (by simpa using h2)]

def Shp (P : Program) (t : TypeId) (a : Value) : Prop := ∃ d, P.underlying t = some d ∧ if isAggD d then ∃ x, a = .agg x else ∀ x, a ≠ .agg x

theorem eqFields_run (w : World) (d n : Nat)
  (ih : ∀ (t : TypeId) (pl : List LK), flatEq P d t = some pl → pl.length = P.cellsOf t ∧ ∀ (a b : Value) (r : Bool), Shp P t a → Shp P t b → a.cells.size = pl.length → b.cells.size = pl.length →
   (∀ v ∈ a.cells.toList ++ b.cells.toList, ∀ z, v ≠ .agg z) → cellsEq pl a.cells.toList b.cells.toList = some r → (Op.equalIn n t a b).run P w = .ok r w) (hleaf : ∀ t pl, flatEq P d t = some pl → ∃ D, P.underlying t = some D ∧ (isAggD D = false → pl.length = 1) ∧ ∀ x, x ∈ pl → True)
  (hcell : ∀ (t : TypeId) (pl : List LK) (D : TypeDesc), flatEq P d t = some pl → P.underlying t = some D → isAggD D = false → ∃ k, pl = [k])
  (x y : List Value) (body : Field → (Option Bool × Unit) → Sem (ForInStep (Option Bool × Unit)))
  (hb : ∀ f s, f.name ≠ "_" → body f s = (do
    let u ← part f.type x.toArray f.offset
    let v ← part f.type y.toArray f.offset
    let e ← Op.equalIn n f.type u v
    if (!e) = true then pure (ForInStep.done (some false, ())) else pure (ForInStep.yield (none, ()))))
  (hone : ∀ v ∈ x ++ y, ∀ z, v ≠ .agg z) :
  ∀ (fl : List Field) (off : Nat) (pl : List LK) (r : Bool), eqFields P (flatEq P d) fl off = some pl → x.length = off + pl.length → y.length = off + pl.length →
   cellsEq pl (x.drop off) (y.drop off) = some r → (forIn (m := Sem) fl (none, ()) body).run P w = .ok (if r then (none, ()) else (some false, ())) w
 | [], off, pl, r, h, hx, hy, hr => by
  simp only [eqFields, Option.some.injEq] at h; subst h
  have e1 : x.drop off = [] := by simp; simp at hx; omega
  have e2 : y.drop off = [] := by simp; simp at hy; omega
  rw [e1, e2] at hr
  simp only [cellsEq, Option.some.injEq] at hr; subst hr
  simp
 | f :: fl, off, pl, r, h, hx, hy, hr => by
  unfold eqFields at h
  split at h
  ·rename_i hc
   obtain ⟨hn, ho, hi⟩ := hc
   simp only [Option.bind_eq_some_iff, Option.map_eq_some_iff] at h
   obtain ⟨m, hm, p, hp, rfl⟩ := h
   obtain ⟨hlen, hev⟩ := ih f.type m hm
   obtain ⟨i, hi⟩ := Option.isSome_iff_exists.1 hi
   obtain ⟨D, hD, _, _⟩ := hleaf f.type m hm
   have hsz : i.size = m.length := by rw [hlen, cellsOf_eq hi]
   simp only [List.length_append] at hx hy
   have mk : ∀ (z : List Value), z.length = off + (m.length + p.length) → (∀ v ∈ z, ∀ q, v ≠ .agg q) → ∃ v, (part f.type z.toArray f.offset).run P w = .ok v w ∧ v.cells.toList = (z.drop off).take m.length ∧ Shp P f.type v := by
    intro z hz ho1
    by_cases hA : isAggD D = true
    ·refine ⟨.agg ((z.drop off).take m.length).toArray, run_part' hi hD z _ w (by rw [if_pos hA, ho, hsz]), by simp [Value.cells], D, hD, by rw [if_pos hA]; exact ⟨_, rfl⟩⟩
    ·have hA : isAggD D = false := by simpa using hA
     obtain ⟨k, rfl⟩ := hcell f.type m D hm hD hA
     have hlt : off < z.length := by simp at hz; omega
     refine ⟨z[off], run_part' hi hD z _ w (by rw [if_neg (by simp [hA]), ho]; simp [hlt]), ?_, D, hD, by rw [if_neg (by simp [hA])]; exact ho1 _ (List.getElem_mem hlt)⟩
     have hv := ho1 z[off] (List.getElem_mem hlt)
     have : z[off].cells.toList = [z[off]] := by
      generalize z[off] = v at hv
      cases v <;> first | rfl | (exact absurd rfl (hv _))
     rw [this]
     rw [List.drop_eq_getElem_cons hlt]; rfl
   obtain ⟨u, hu1, hu2, hu3⟩ := mk x hx (fun v hv => hone v (List.mem_append_left _ hv))
   obtain ⟨v, hv1, hv2, hv3⟩ := mk y hy (fun v hv => hone v (List.mem_append_right _ hv))
   have hsp : ∀ z : List Value, z.drop off = (z.drop off).take m.length ++ z.drop (off + m.length) := fun z => by
    rw [← List.drop_drop]; exact (List.take_append_drop _ _).symm
   rw [hsp x, hsp y, cellsEq_append _ _ _ _ _ _ (by simp; omega) (by simp; omega)] at hr
   simp only [Option.bind_eq_some_iff] at hr
   obtain ⟨q, hq, hr⟩ := hr
   have hul : u.cells.size = m.length := by rw [← Array.length_toList, hu2]; simp; omega
   have hvl : v.cells.size = m.length := by rw [← Array.length_toList, hv2]; simp; omega
   have heq := hev u v q hu3 hv3 hul hvl (by
    intro c hc z
    rw [hu2, hv2] at hc
    rcases List.mem_append.1 hc with hc | hc
    ·exact hone c (List.mem_append_left _ (List.mem_of_mem_drop (List.mem_of_mem_take hc))) z
    ·exact hone c (List.mem_append_right _ (List.mem_of_mem_drop (List.mem_of_mem_take hc))) z) (by rw [hu2, hv2]; exact hq)
   rw [List.forIn_cons, hb f _ hn]
   simp only [Sem.run_bind, hu1, hv1, heq, Result.andThen_ok]
   cases q
   ·simp only [Bool.false_eq_true, if_false, Option.some.injEq] at hr; subst hr
    simp
   ·simp only [if_true] at hr
    have := eqFields_run w d n ih hleaf hcell x y body hb hone fl (off + m.length) p r hp (by omega) (by omega) hr
    simp only [Bool.not_true, Bool.false_eq_true, if_false, Sem.run_pure, Result.andThen_ok, this]
  ·cases h

theorem flatEq_under {d : Nat} {t : TypeId} {pl : List LK} (h : flatEq P d t = some pl) : ∃ D, P.underlying t = some D ∧ pl.length = P.cellsOf t ∧ (isAggD D = false → ∃ k, pl = [k]) := by
 cases d with
 | zero => simp [flatEq] at h
 | succ d =>
  unfold flatEq at h
  split at h
  ·rename_i k hu; split at h
   ·rename_i hc; simp only [Option.some.injEq] at h; subst h; exact ⟨_, hu, hc.symm, fun _ => ⟨_, rfl⟩⟩
   ·cases h
  ·rename_i hu; split at h
   ·rename_i hc; simp only [Option.some.injEq] at h; subst h; exact ⟨_, hu, hc.symm, fun _ => ⟨_, rfl⟩⟩
   ·cases h
  ·rename_i hu; split at h
   ·rename_i hc; simp only [Option.some.injEq] at h; subst h; exact ⟨_, hu, hc.symm, fun _ => ⟨_, rfl⟩⟩
   ·cases h
  ·rename_i fs hu; split at h
   ·cases h
   ·simp only [Option.bind_eq_some_iff] at h
    obtain ⟨q, hq, h⟩ := h
    split at h
    ·rename_i hc; simp only [Option.some.injEq] at h; subst h; exact ⟨_, hu, hc.symm, fun hA => by simp [isAggD] at hA⟩
    ·cases h
  ·cases h

theorem run_eqFlat (w : World) : ∀ (d n : Nat) (t : TypeId) (pl : List LK), d ≤ n → flatEq P d t = some pl → ∀ (a b : Value) (r : Bool), Shp P t a → Shp P t b → a.cells.size = pl.length → b.cells.size = pl.length →
   (∀ v ∈ a.cells.toList ++ b.cells.toList, ∀ z, v ≠ .agg z) → cellsEq pl a.cells.toList b.cells.toList = some r → (Op.equalIn n t a b).run P w = .ok r w
 | 0, _, _, _, _, h => by simp [flatEq] at h
 | d + 1, n, t, pl, hn, h => by
  obtain ⟨n, rfl⟩ : ∃ m, n = m + 1 := ⟨n - 1, by omega⟩
  intro a b r ha hb hal hbl hone hr
  obtain ⟨D, hD, ha⟩ := ha
  obtain ⟨D', hD', hb⟩ := hb
  obtain rfl : D = D' := by rw [hD] at hD'; exact Option.some.inj hD'
  have h0 := h
  unfold flatEq at h
  split at h
  case h_1 k hu =>
   obtain rfl : D = .int k := by rw [hD] at hu; exact Option.some.inj hu
   split at h
   ·simp only [Option.some.injEq] at h; subst h
    have := leafEq_cells hr (by simpa [isAggD] using ha) (by simpa [isAggD] using hb)
    unfold leafEq at this
    split at this <;> first | (cases this; done) | skip
    ·split at this
     ·rename_i hk; subst hk
      simp only [Option.some.injEq] at this; subst this
      exact run_eqInt n w hu
     ·cases this
    all_goals simp_all
   ·cases h
  case h_2 hu =>
   obtain rfl : D = .string := by rw [hD] at hu; exact Option.some.inj hu
   split at h
   ·simp only [Option.some.injEq] at h; subst h
    have := leafEq_cells hr (by simpa [isAggD] using ha) (by simpa [isAggD] using hb)
    unfold leafEq at this
    split at this <;> first | (cases this; done) | skip
    ·simp_all
    ·simp only [Option.some.injEq] at this; subst this
     exact run_eqStr n w hu
    all_goals simp_all
   ·cases h
  case h_3 hu =>
   obtain rfl : D = .bool := by rw [hD] at hu; exact Option.some.inj hu
   split at h
   ·simp only [Option.some.injEq] at h; subst h
    have := leafEq_cells hr (by simpa [isAggD] using ha) (by simpa [isAggD] using hb)
    unfold leafEq at this
    split at this <;> first | (cases this; done) | skip
    ·simp_all
    ·simp_all
    ·simp only [Option.some.injEq] at this; subst this
     exact run_eqBool n w hu
   ·cases h
  case h_4 fs hu =>
   obtain rfl : D = .struct fs := by rw [hD] at hu; exact Option.some.inj hu
   split at h
   ·cases h
   ·rename_i hs
    simp only [Option.bind_eq_some_iff] at h
    obtain ⟨q, hq, h⟩ := h
    split at h
    ·simp only [Option.some.injEq] at h; subst h
     simp only [isAggD, if_true] at ha hb
     obtain ⟨x, rfl⟩ := ha
     obtain ⟨y, rfl⟩ := hb
     have hs' : P.stoodInHeld t = false := by simpa using hs
     simp only [Op.equalIn, Sem.run_bind, run_underlying hu, Result.andThen_ok, run_program, hs', if_false, Bool.false_eq_true]
     simp only [Value.cells] at hal hbl hone hr
     have key := eqFields_run w d n (x := x.toList) (y := y.toList)
      (fun t pl hf => ⟨(flatEq_under hf).choose_spec.2.1, fun a b r sa sb la lb ho hc => run_eqFlat w d n t pl (by omega) hf a b r sa sb la lb ho hc⟩)
      (fun t pl hf => by obtain ⟨D, h1, h2, h3⟩ := flatEq_under hf; exact ⟨D, h1, fun hA => by obtain ⟨k, rfl⟩ := h3 hA; rfl, fun _ _ => trivial⟩)
      (fun t pl D hf hu hA => by obtain ⟨D', h1, h2, h3⟩ := flatEq_under hf; rw [hu] at h1; obtain rfl := Option.some.inj h1; exact h3 hA)
      (fun f (__s : Option Bool × Unit) => if f.name ≠ "_" then do
       let u ← part f.type x f.offset
       let v ← part f.type y f.offset
       let e ← Op.equalIn n f.type u v
       if (!e) = true then pure (ForInStep.done (some false, ())) else pure (ForInStep.yield (none, ()))
      else pure (ForInStep.yield (none, ()))) (fun f s hn => if_pos hn) hone fs.toList 0 q r hq (by simpa using hal) (by simpa using hbl) (by simpa using hr)
     have e : ∀ (b : Field → (Option Bool × Unit) → Sem (ForInStep (Option Bool × Unit))), forIn (m := Sem) fs (none, ()) b = forIn (m := Sem) fs.toList (none, ()) b := fun b => by simp
     rw [e]
     refine Eq.trans (congrArg (fun z => Result.andThen z _) (Eq.trans ?_ key)) ?_
     ·rfl
     ·cases r <;> rfl
    ·cases h
  case h_5 => cases h
end
end Go.KH
namespace Go.KH
open Go.RowKit

section
variable {P : Program}

theorem eqGuardIn_flat (w : World) (t : TypeId) (a b : List Value) (h : P.eqGuardType P.depth t = false) (x y : Operand) (op : BinOp) :
  (eqGuard op t x y (.agg a.toArray) (.agg b.toArray)).run P w = .ok () w := by
 unfold eqGuard
 cases op <;> simp [h]

theorem run_places (w : World) : ∀ (fl : List Field), (∀ fd ∈ fl, ∃ i, P.info? fd.type = some i) →
  ∃ pl : List (Nat × Nat), (fl.mapM fun f => (do pure (f.offset, ← sizeOf f.type) : Sem (Nat × Nat))).run P w = .ok pl w ∧
   ∀ (j : Nat) (fd : Field) (i : TypeInfo), fl[j]? = some fd → P.info? fd.type = some i → pl[j]? = some (fd.offset, i.size)
 | [], _ => ⟨[], by simp, by simp⟩
 | f :: fl, h => by
  obtain ⟨i, hi⟩ := h f (by simp)
  obtain ⟨pl, h1, h2⟩ := run_places w fl (fun fd hfd => h fd (by simp [hfd]))
  refine ⟨(f.offset, i.size) :: pl, ?_, ?_⟩
  ·simp only [List.mapM_cons, Sem.run_bind, run_sizeOf' hi, Result.andThen_ok, Sem.run_pure, h1]
  ·intro j fd i' hj hi'
   cases j with
   | zero => simp at hj; subst hj; rw [hi] at hi'; obtain rfl := Option.some.inj hi'; rfl
   | succ j => simp at hj; simpa using h2 j fd i' hj hi'

theorem mapM_get {α β : Type} {f : α → Option β} : ∀ (l : List α) (r : List β), l.mapM f = some r → r.length = l.length ∧ ∀ (j : Nat) (p : α) (q : β), l[j]? = some p → r[j]? = some q → f p = some q
 | [], r, h => by simp at h; subst h; simp
 | a :: l, r, h => by
  simp only [List.mapM_cons, Option.bind_eq_bind, Option.bind_eq_some_iff, Option.pure_def, Option.some.injEq] at h
  obtain ⟨b, hb, r', hr', rfl⟩ := h
  obtain ⟨h1, h2⟩ := mapM_get l r' hr'
  refine ⟨by simp [h1], ?_⟩
  intro j p q hp hq
  cases j with
  | zero => simp at hp hq; subst hp; subst hq; exact hb
  | succ j => exact h2 j p q (by simpa using hp) (by simpa using hq)

theorem asM_some {v : Value} {b : Nat} (h : asM v = some b) : v = .map (some b) := by
 unfold asM at h; split at h
 ·simp at h; subst h; rfl
 ·cases h

theorem findNow_mfind {kk : IntKind} (k : IntKind) (n : Int) : ∀ (es : List MapEntry) (i : Nat) (r : Option (Nat × Value)), mfind k n (es.map fun e => (e.key, e.val)) i = some r → Instr.findNow (.int kk) (.int k n) es i = some r
 | [], i, r, h => by simp only [List.map_nil, mfind, Option.some.injEq] at h; subst h; rfl
 | ⟨key, val, born⟩ :: es, i, r, h => by
  simp only [List.map_cons] at h
  cases key with
  | int k' m =>
   simp only [mfind] at h
   split at h
   ·rename_i hk; subst hk
    unfold Instr.findNow
    simp only [Instr.sameNow, if_true]
    split at h
    ·rename_i hm; subst hm
     simp only [Option.some.injEq] at h; subst h
     simp
    ·rename_i hm
     have : (n == m) = false := by rw [beq_eq_false_iff_ne]; exact fun e => hm e.symm
     simp only [this]
     exact findNow_mfind k' n es (i + 1) r h
   ·cases h
  | _ => simp [mfind] at h

theorem resolve_builtin {ρ : Operand → Value} {c : Call} {b : Builtin} (ty : TypeId) (h : c.callee = .builtin b) : ∃ k, resolve ρ c ty = pure { target := .builtin b c.argTypes ty k, args := c.args.map ρ } :=
 ⟨_, by unfold resolve; rw [h]⟩

theorem run_prepP {o : Oper} {po : PO} (hp : prepP P o = some po) {ρ' : Operand → Value} {ρ : X → Value} (hρ : ∀ x, ρ' x = ρ (px x))
  {h : H} {w : World} (hh : Has h w) {v : Value} (hv : pval ρ h po = some v) : (execOp ρ' o).run P w = .ok (.value v) w := by
 unfold prepP at hp
 split at hp
 case h_1 x hop => -- move
  simp only [Option.some.injEq] at hp; subst hp
  simp only [pval, Option.some.injEq] at hv; subst hv
  simp [execOp, hop, hρ]
 case h_2 x hop => -- assign
  simp only [Option.some.injEq] at hp; subst hp
  simp only [pval, Option.some.injEq] at hv; subst hv
  simp [execOp, hop, hρ]
 case h_3 c a b hop => -- pick
  simp only [Option.some.injEq] at hp; subst hp
  simp only [pval, Option.bind_eq_some_iff, Option.some.injEq] at hv
  obtain ⟨t, ht, rfl⟩ := hv
  have := asB_some ht
  simp [execOp, hop, hρ, this, asBool]
 case h_4 t x hop => -- load
  simp only [Option.bind_eq_some_iff, Option.some.injEq] at hp
  obtain ⟨d, hd, i, hi, rfl⟩ := hp
  by_cases hA : isAggD d = true
  ·simp only [hA, if_true, pval, Option.bind_eq_some_iff, Option.some.injEq] at hv
   obtain ⟨q, hq, cs, hc, rfl⟩ := hv
   simp [execOp, hop, hρ, asP_some hq, Instr.loadAt, Instr.sureAddr, loadVar, run_isAgg' hd, hA, run_sizeOf' hi, run_ldc hh hc]
  ·have hA : isAggD d = false := by simpa using hA
   simp only [hA, if_false, Bool.false_eq_true, pval, Option.bind_eq_some_iff] at hv
   obtain ⟨q, hq, cs, hc, hv⟩ := hv
   unfold one at hv
   split at hv
   ·simp only [Option.some.injEq] at hv; subst hv
    simp only [execOp, hop, hρ, asP_some hq, Instr.loadAt, Instr.sureAddr, loadVar, Sem.run_bind, run_isAgg' hd, hA, Result.andThen_ok, if_false, Bool.false_eq_true, Sem.run_pure, ptr, run_ld1 hh hc]
   ·cases hv
 case h_5 s x f hop => -- fieldAddr
  split at hp
  ·rename_i fs hu
   simp only [Option.bind_eq_some_iff] at hp
   obtain ⟨fd, hf, i, hi, hp⟩ := hp
   split at hp
   ·cases hp
   ·rename_i hz
    simp only [Option.some.injEq] at hp; subst hp
    simp only [pval, Option.bind_eq_some_iff, Option.some.injEq] at hv
    obtain ⟨q, hq, rfl⟩ := hv
    simp only [execOp, hop, hρ, asP_some hq, Instr.fieldAt, Sem.run_bind, run_underlying hu, Result.andThen_ok, hf, Instr.sureAddr, Sem.run_pure, ptr, fieldPlace, run_sizeOf' hi, hz, if_false, addr_add]
  ·cases hp
 case h_6 s x f hop => -- field
  split at hp
  ·rename_i fs hu
   simp only [Option.bind_eq_some_iff, Option.some.injEq] at hp
   obtain ⟨fd, hf, i, hi, d, hd, rfl⟩ := hp
   simp only [pval, Option.bind_eq_some_iff] at hv
   obtain ⟨cs, hq, hv⟩ := hv
   simp only [execOp, hop, hρ, asA_some hq, Instr.field, Sem.run_bind, run_underlying hu, Result.andThen_ok, hf, asAgg, Sem.run_pure, run_part' hi hd cs _ w hv]
  ·cases hp
 case h_7 t x i hop => -- indexAddr
  split at hp
  ·rename_i e hu
   simp only [Option.bind_eq_some_iff, Option.some.injEq] at hp
   obtain ⟨j, hj, rfl⟩ := hp
   simp only [pval, Option.bind_eq_some_iff] at hv
   obtain ⟨p, hq, k, hk, hv⟩ := hv
   split at hv
   ·rename_i hb
    simp only [Option.some.injEq] at hv; subst hv
    rcases asR_some hq with ⟨c, hx⟩ | ⟨a', c, hx, h0⟩
    ·simp only [execOp, hop, hρ, hx, asI_some hk, Instr.indexAt, Sem.run_bind, run_asIntOf, Result.andThen_ok, run_underlying hu, Sem.run_pure, sl, run_sizeOf' hj, hb, and_self, if_true, addr_add, ptr]
    ·omega
   ·cases hv
  ·rename_i n e hu
   simp only [Option.bind_eq_some_iff, Option.some.injEq] at hp
   obtain ⟨j, hj, rfl⟩ := hp
   simp only [pval, Option.bind_eq_some_iff] at hv
   obtain ⟨p, hq, k, hk, hv⟩ := hv
   split at hv
   ·rename_i hb
    simp only [Option.some.injEq] at hv; subst hv
    simp only [execOp, hop, hρ, asP_some hq, asI_some hk, Instr.indexAt, Sem.run_bind, run_asIntOf, Result.andThen_ok, run_underlying hu, Sem.run_pure, ptr, Instr.sureAddr, run_sizeOf' hj, hb, and_self, if_true, addr_add]
   ·cases hv
  ·cases hp
 case h_8 t x i hop => -- index
  split at hp
  ·rename_i hu
   simp only [Option.some.injEq] at hp; subst hp
   simp only [pval, Option.bind_eq_some_iff] at hv
   obtain ⟨s, hs, k, hk, hv⟩ := hv
   split at hv
   ·rename_i h0
    simp only [Option.bind_eq_some_iff, Option.some.injEq] at hv
    obtain ⟨b, hb, rfl⟩ := hv
    obtain ⟨s', hs', rfl⟩ := asS_some hs
    have hb' : s'[k.2.toNat]? = some b := by
     have h1 : k.2.toNat < s'.size := by
      have := (List.getElem?_eq_some_iff.1 hb).1
      simpa [bl_length] using this
     rw [getElem?_pos s' k.2.toNat h1]
     have := (List.getElem?_eq_some_iff.1 hb).2
     have e : s'[k.2.toNat] = s'.data[k.2.toNat] := rfl
     rw [e]
     simpa [bl] using this
    simp only [execOp, hop, hρ, hs', asI_some hk, Instr.index, Sem.run_bind, run_asIntOf, Result.andThen_ok, run_underlying hu, h0, if_true, hb', Sem.run_pure]
   ·cases hv
  ·rename_i n e hu
   simp only [Option.bind_eq_some_iff, Option.some.injEq] at hp
   obtain ⟨j, hj, d, hd, rfl⟩ := hp
   simp only [pval, Option.bind_eq_some_iff] at hv
   obtain ⟨cs, hq, k, hk, hv⟩ := hv
   split at hv
   ·rename_i hb
    simp only [execOp, hop, hρ, asA_some hq, asI_some hk, Instr.index, Sem.run_bind, run_asIntOf, Result.andThen_ok, run_underlying hu, hb, and_self, if_true, run_sizeOf' hj, Sem.run_pure, run_part' hj hd cs _ w hv]
   ·cases hv
  ·cases hp
 case h_9 op t x y yt hop => -- binOp
  split at hp
  ·rename_i k hu
   simp only [Option.some.injEq] at hp; subst hp
   simp only [pval] at hv
   have hg : (eqGuard op t x y (ρ (px x)) (ρ (px y))).run P w = .ok () w := run_eqGuard w (fun c hc => by rw [hc] at hv; unfold obin at hv; split at hv <;> simp_all) (fun hc => by rw [hc] at hv; unfold obin at hv; split at hv <;> simp_all)
   simp only [execOp, hop, hρ, Sem.run_bind, hg, Result.andThen_ok, run_obin w hv, Sem.run_pure]
  ·rename_i hu
   simp only [Option.some.injEq] at hp; subst hp
   simp only [pval] at hv
   have hg : (eqGuard op t x y (ρ (px x)) (ρ (px y))).run P w = .ok () w := run_eqGuard w (fun c hc => by rw [hc] at hv; unfold obin at hv; split at hv <;> simp_all) (fun hc => by rw [hc] at hv; unfold obin at hv; split at hv <;> simp_all)
   simp only [execOp, hop, hρ, Sem.run_bind, hg, Result.andThen_ok, run_obin w hv, Sem.run_pure]
  ·rename_i hu
   have hbool : ∀ (neg : Bool), pval ρ h (.eqb neg (px x) (px y)) = some v → ∃ a b, ρ (px x) = .bool a ∧ ρ (px y) = .bool b ∧ v = negv neg (decide (a = b)) := by
    intro neg hv
    simp only [pval, Option.bind_eq_some_iff, Option.some.injEq] at hv
    obtain ⟨a, ha, b, hb, rfl⟩ := hv
    exact ⟨a, b, asB_some ha, asB_some hb, rfl⟩
   split at hp <;> first | (cases hp; done) | skip
   all_goals
    simp only [Option.some.injEq] at hp; subst hp
    obtain ⟨a, b, ha, hb, rfl⟩ := hbool _ hv
    have hg := run_eqGuard (P := P) (op := .eql) (t := t) (x := x) (y := y) (a := .bool a) (b := .bool b) w (by simp) (by simp)
    have hg' := run_eqGuard (P := P) (op := .neq) (t := t) (x := x) (y := y) (a := .bool a) (b := .bool b) w (by simp) (by simp)
    have he : (Op.equal t (.bool a) (.bool b)).run P w = .ok (decide (a = b)) w := run_eqBool 9999 w hu
    simp [execOp, hop, hρ, ha, hb, hg, hg', binOp, he, negv]
  ·rename_i e hu
   have hs : ∀ (neg : Bool), pval ρ h (.eqs neg (px x) (px y)) = some v → ∃ r, oeqs (ρ (px x)) (ρ (px y)) = some r ∧ v = negv neg r := by
    intro neg hv
    simp only [pval, Option.bind_eq_some_iff, Option.some.injEq] at hv
    obtain ⟨r, hr, rfl⟩ := hv
    exact ⟨r, hr, rfl⟩
   split at hp <;> first | (cases hp; done) | skip
   all_goals
    simp only [Option.some.injEq] at hp; subst hp
    obtain ⟨r, hr, rfl⟩ := hs _ hv
    have he : (Op.equal t (ρ (px x)) (ρ (px y))).run P w = .ok r w := run_eqNil w hu hr
    have hsl : ∃ a n c a' n' c', ρ (px x) = .slice a n c ∧ ρ (px y) = .slice a' n' c' := by
     unfold oeqs at hr; split at hr <;> first | (cases hr; done) | skip
     ·rename_i e1 e2; exact ⟨_, _, _, _, _, _, e1, e2⟩
     ·rename_i e1 e2; exact ⟨_, _, _, _, _, _, e1, e2⟩
    obtain ⟨a, n, c, a', n', c', ha, hb⟩ := hsl
    rw [ha, hb] at he
    have hg := run_eqGuard (P := P) (op := .eql) (t := t) (x := x) (y := y) (a := .slice a n c) (b := .slice a' n' c') w (by simp) (by simp)
    have hg' := run_eqGuard (P := P) (op := .neq) (t := t) (x := x) (y := y) (a := .slice a n c) (b := .slice a' n' c') w (by simp) (by simp)
    simp [execOp, hop, hρ, ha, hb, hg, hg', binOp, he, negv]
  ·rename_i fs hu
   split at hp
   ·cases hp
   ·rename_i hgd
    simp only [Option.bind_eq_some_iff] at hp
    obtain ⟨pl, hpl, hp⟩ := hp
    have hs : ∀ (neg : Bool), pval ρ h (.eqa neg pl (px x) (px y)) = some v → ∃ (a b : List Value) (r : Bool), ρ (px x) = .agg a.toArray ∧ ρ (px y) = .agg b.toArray ∧ (Op.equal t (.agg a.toArray) (.agg b.toArray)).run P w = .ok r w ∧ v = negv neg r := by
     intro neg hv
     simp only [pval, Option.bind_eq_some_iff] at hv
     obtain ⟨a, ha, b, hb, hv⟩ := hv
     split at hv
     ·rename_i hc
      simp only [Option.bind_eq_some_iff, Option.some.injEq] at hv
      obtain ⟨r, hr, rfl⟩ := hv
      refine ⟨a, b, r, asA_some ha, asA_some hb, ?_, rfl⟩
      refine run_eqFlat w 10 10000 t pl (by omega) hpl _ _ r ⟨_, hu, by simp [isAggD]⟩ ⟨_, hu, by simp [isAggD]⟩ (by simpa [Value.cells] using hc.1) (by simpa [Value.cells] using hc.2.1) ?_ (by simpa [Value.cells] using hr)
      intro c hcm z hz
      have := List.all_eq_true.1 hc.2.2 c (by simpa [Value.cells] using hcm)
      rw [hz] at this; simp [Value.oneCell'] at this
     ·cases hv
    split at hp <;> first | (cases hp; done) | skip
    all_goals
     simp only [Option.some.injEq] at hp; subst hp
     obtain ⟨a, b, r, ha, hb, he, rfl⟩ := hs _ hv
     have hg := eqGuardIn_flat (P := P) w t a b (by simpa using hgd) x y .eql
     have hg' := eqGuardIn_flat (P := P) w t a b (by simpa using hgd) x y .neq
     simp [execOp, hop, hρ, ha, hb, hg, hg', binOp, he, negv]
  ·cases hp
 case h_10 op t x hop => -- unOp
  simp only [Option.some.injEq] at hp; subst hp
  simp only [pval] at hv
  simp [execOp, hop, hρ, run_oun w hv]
 case h_11 s d x hop => -- convert
  split at hp
  ·rename_i k' k hs hd
   simp only [Option.some.injEq] at hp; subst hp
   simp only [pval, Option.bind_eq_some_iff, Option.some.injEq] at hv
   obtain ⟨q, hq, rfl⟩ := hv
   simp [execOp, hop, hρ, asI_some hq, convert, run_underlying hs, run_underlying hd, Conv.intToInt]
  ·rename_i e hs hd
   split at hp
   ·rename_i he
    simp only [Option.some.injEq] at hp; subst hp
    have hv' := hv
    simp only [pval] at hv
    have hx := run_b2s (P := P) hh _ hv
    have hsl : ∃ a n c, ρ (px x) = .slice a n c := by
     simp only [Option.bind_eq_some_iff] at hv
     obtain ⟨p, hp, _⟩ := hv
     rcases asR_some hp with ⟨c, e⟩ | ⟨_, c, e, _⟩ <;> exact ⟨_, _, _, e⟩
    obtain ⟨a, n, c, hsl⟩ := hsl
    rw [hsl] at hx
    simp [execOp, hop, hρ, hsl, convert, run_underlying hs, run_underlying hd, run_underlying he, hx]
   ·cases hp
  ·cases hp
 case h_12 t x lo hi hop =>
  have hlo : ∀ (z : Option Operand), (z.map px).map ρ = z.map ρ' := fun z => by cases z <;> simp [hρ]
  split at hp
  ·rename_i hu
   simp only [Option.some.injEq] at hp; subst hp
   simp only [pval, Option.bind_eq_some_iff, Option.some.injEq, hlo] at hv
   obtain ⟨s, hs, hh', h1, l, h2, rfl⟩ := hv
   obtain ⟨s', hs', rfl⟩ := asS_some hs
   rw [bl_length] at h1
   have e : (if ¬ (match P.underlying t with | some (.array ..) => true | _ => false) = true then true else false) = true := by rw [hu]; rfl
   simp only [execOp, hop, Instr.sliceAt, Sem.run_bind, run_underlying hu, Result.andThen_ok, hρ, hs', Instr.slice, run_bounds w h1 h2, Option.map_none, Option.isSome_none, Bool.false_eq_true, if_false, Sem.run_pure]
   congr 2
   rw [str]
   congr 1
   apply ByteArray.ext
   rw [← Array.toList_inj]
   simp [bl, ByteArray.data_extract, List.extract_eq_take_drop, List.drop_take]
  ·rename_i e hu
   simp only [Option.bind_eq_some_iff, Option.some.injEq] at hp
   obtain ⟨j, hj, rfl⟩ := hp
   simp only [pval, Option.bind_eq_some_iff, Option.some.injEq, hlo] at hv
   obtain ⟨p, hp, hh', h1, l, h2, rfl⟩ := hv
   simp only [execOp, hop, Instr.sliceAt, Sem.run_bind, run_underlying hu, Result.andThen_ok, hρ, asL_some hp, Instr.slice, run_bounds w h1 h2, Option.map_none, run_sizeOf' hj, Sem.run_pure]
  ·cases hp
 case h_13 t x lo hi mx hop =>
  split at hp
  ·rename_i e hu
   simp only [Option.bind_eq_some_iff, Option.some.injEq] at hp
   obtain ⟨j, hj, rfl⟩ := hp
   simp only [pval, Option.bind_eq_some_iff, Option.some.injEq] at hv
   obtain ⟨p, hp, m, h1, hh', h2, l, h3, rfl⟩ := hv
   have hb : ∀ b, (Instr.sliceBounds true p.2.1 p.2.2 (some (ρ (px lo))) (some (ρ (px hi))) (some (ρ (px mx)))).run P b = .ok (l, hh', m) b := by
    intro b
    unfold Instr.sliceBounds
    simp [run_bnd b _ rfl h1, run_bnd b _ rfl h2, run_bnd b _ rfl h3]
   simp only [execOp, hop, Instr.sliceAt, Sem.run_bind, run_underlying hu, Result.andThen_ok, hρ, asL_some hp, Instr.slice, hb, Option.map_some, run_sizeOf' hj, Sem.run_pure]
  ·cases hp
 case h_14 t x i hop =>
  split at hp
  ·rename_i k e hu
   split at hp
   ·rename_i kk hk
    simp only [Option.bind_eq_some_iff, Option.some.injEq] at hp
    obtain ⟨ie, hie, z, hz, rfl⟩ := hp
    simp only [pval, Option.bind_eq_some_iff, Option.some.injEq] at hv
    obtain ⟨b, hb, l, hl, q, hq, r, hr, rfl⟩ := hv
    obtain ⟨es, clock, hes, hel⟩ := hh.maps b l hl
    have hobj : (getObj b).run P w = .ok (.map es clock) w := by simp only [getObj, Sem.run, hes]
    have hfind := findNow_mfind (kk := kk) q.1 q.2 es.toList 0 r (by rw [hel]; exact hr)
    have hck : (Instr.checkKey es.isEmpty 10000 k (.int q.1 q.2)).run P w = .ok () w := by
     show (Instr.checkKey es.isEmpty (9999 + 1) k (.int q.1 q.2)).run P w = .ok () w
     unfold Instr.checkKey
     simp only [Sem.run_bind, run_underlying hk, Result.andThen_ok]
     rfl
    simp only [execOp, hop, hρ, asM_some hb, asI_some hq, Instr.lookup, Sem.run_bind, run_underlying hu, Result.andThen_ok, hobj, Sem.run_pure, hck, Instr.findKey, run_underlying hk, hfind]
    cases r with
    | none => simp only [Sem.run_bind, run_zeroValue' hie hz, Result.andThen_ok, Sem.run_pure]; rfl
    | some r => obtain ⟨i', v'⟩ := r; simp only [Sem.run_pure, Result.andThen_ok]; rfl
   ·cases hp
  ·cases hp
 case h_15 x k hop =>
  simp only [Option.some.injEq] at hp; subst hp
  simp only [pval, Option.bind_eq_some_iff] at hv
  obtain ⟨cs, hc, hv⟩ := hv
  simp [execOp, hop, hρ, asT_some hc, Instr.extract, hv]
 case h_16 f first caps hop =>
  split at hp
  ·rename_i hf
   simp only [Option.some.injEq] at hp; subst hp
   simp only [pval, Option.some.injEq] at hv; subst hv
   have : first = #[] := by simpa using hf
   subst this
   have e : Array.map ρ' caps = ((caps.toList.map px).map ρ).toArray := by
    rw [← Array.toList_inj]; simp [hρ]
   simp only [execOp, hop, Instr.makeFunc, Sem.run_bind, Sem.run_pure, Result.andThen_ok, e, Array.map_empty]
  ·cases hp
 case h_17 t parts hop =>
  split at hp
  ·rename_i fs z hu hz
   simp only [Option.bind_eq_some_iff] at hp hz
   obtain ⟨i0, hi0, hz⟩ := hz
   obtain ⟨ps, hps, hp⟩ := hp
   split at hp
   ·rename_i hall
    simp only [Option.some.injEq] at hp; subst hp
    simp only [pval, Option.bind_eq_some_iff, Option.some.injEq] at hv
    obtain ⟨cs, hc, rfl⟩ := hv
    have hall' : ∀ fd ∈ fs.toList, ∃ i, P.info? fd.type = some i := fun fd hfd => Option.isSome_iff_exists.1 (List.all_eq_true.1 hall fd hfd)
    obtain ⟨pl, hpl, hget⟩ := run_places (P := P) w fs.toList hall'
    have hpl' : (fs.mapM fun f => (do pure (f.offset, ← sizeOf f.type) : Sem (Nat × Nat))).run P w = .ok pl.toArray w := by
     rw [← Array.toArray_toList (xs := fs), List.mapM_toArray]
     simp only [Sem.run_map, hpl, Result.andThen_ok]
    have hmap := mapM_get parts.toList ps hps
    have hfill : Instr.fill (fun i => pl.toArray[i]?) z.cells.toList.toArray ((parts.map fun (i, x) => (i, ρ' x)).toList) = some cs.toArray := by
     refine fill_of _ _ _ _ hc (by simp [hmap.1]) ?_
     intro j p q hj hq
     simp only [Array.toList_map, List.getElem?_map, Option.map_eq_some_iff] at hj hq
     obtain ⟨p0, hp0, rfl⟩ := hj
     obtain ⟨q0, hq0, rfl⟩ := hq
     have := hmap.2 j p0 q0 hp0 hq0
     simp only [Option.bind_eq_some_iff, Option.map_eq_some_iff] at this
     obtain ⟨fd, hfd, i, hi, rfl⟩ := this
     refine ⟨by simp [hρ], ?_⟩
     have := hget p0.1 fd i (by simpa using hfd) hi
     simpa using this
    simp only [execOp, hop, Instr.build, Sem.run_bind, run_zeroValue' hi0 hz, Result.andThen_ok, run_underlying hu, hpl', hfill, Sem.run_pure]
   ·cases hp
  ·rename_i n e z hu hz
   simp only [Option.bind_eq_some_iff, Option.some.injEq] at hp hz
   obtain ⟨i0, hi0, hz⟩ := hz
   obtain ⟨j, hj, rfl⟩ := hp
   simp only [pval, Option.bind_eq_some_iff, Option.some.injEq] at hv
   obtain ⟨cs, hc, rfl⟩ := hv
   have hfill : Instr.fill (fun i => some (i * j.size, j.size)) z.cells.toList.toArray ((parts.map fun (i, x) => (i, ρ' x)).toList) = some cs.toArray := by
    refine fill_of _ _ _ _ hc (by simp) ?_
    intro j p q hj hq
    simp only [Array.toList_map, List.getElem?_map, Option.map_eq_some_iff, List.map_map] at hj hq
    obtain ⟨p0, hp0, rfl⟩ := hj
    obtain ⟨q0, hq0, rfl⟩ := hq
    rw [hp0] at hq0
    obtain rfl := Option.some.inj hq0
    exact ⟨by simp [hρ], rfl⟩
   simp only [execOp, hop, Instr.build, Sem.run_bind, run_zeroValue' hi0 hz, Result.andThen_ok, run_underlying hu, run_sizeOf' hj, Sem.run_pure]
   rw [show z.cells = z.cells.toList.toArray from by simp, hfill]
   rfl
  ·cases hp
 case h_18 c hop =>
  split at hp
  ·rename_i x t ts hcal hargs htys
   have ha : c.args = #[x] := by rw [← Array.toList_inj, hargs]
   have ht : c.argTypes[0]? = some t := by rw [← Array.getElem?_toList, htys]; rfl
   obtain ⟨k, hr⟩ := resolve_builtin (ρ := ρ') o.type hcal
   rw [ha] at hr
   split at hp
   ·rename_i hu
    simp only [Option.some.injEq] at hp; subst hp
    simp only [pval, Option.bind_eq_some_iff, Option.some.injEq] at hv
    obtain ⟨s, hs, rfl⟩ := hv
    obtain ⟨s', hs', rfl⟩ := asS_some hs
    simp [execOp, hop, hr, invoke, builtin, Builtin.len_, ht, run_underlying hu, hρ, hs', goInt, bl_length]
   ·rename_i e hu
    simp only [Option.some.injEq] at hp; subst hp
    simp only [pval, Option.bind_eq_some_iff, Option.some.injEq] at hv
    obtain ⟨q, hq, rfl⟩ := hv
    simp [execOp, hop, hr, invoke, builtin, Builtin.len_, ht, run_underlying hu, hρ, asL_some hq, goInt]
   ·rename_i n e hu
    simp only [Option.some.injEq] at hp; subst hp
    simp only [pval, Option.some.injEq] at hv; subst hv
    simp [execOp, hop, hr, invoke, builtin, Builtin.len_, ht, run_underlying hu, goInt]
   ·rename_i k e hu
    simp only [Option.some.injEq] at hp; subst hp
    simp only [pval, Option.bind_eq_some_iff, Option.some.injEq] at hv
    obtain ⟨b, hb, l, hl, rfl⟩ := hv
    obtain ⟨es, clock, hes, hel⟩ := hh.maps b l hl
    have hobj : (getObj b).run P w = .ok (.map es clock) w := by simp only [getObj, Sem.run, hes]
    have hlen : l.length = es.size := by rw [← hel]; simp
    simp [execOp, hop, hr, invoke, builtin, Builtin.len_, ht, run_underlying hu, hρ, asM_some hb, hobj, goInt, hlen]
   ·cases hp
  ·rename_i ts x y hcal hargs
   simp only [Option.some.injEq] at hp; subst hp
   have ha : c.args = #[x, y] := by rw [← Array.toList_inj, hargs]
   obtain ⟨k, hr⟩ := resolve_builtin (ρ := ρ') o.type hcal
   rw [ha] at hr
   simp only [pval, Option.bind_eq_some_iff, Option.some.injEq] at hv
   obtain ⟨a, ha, b, hb, rfl⟩ := hv
   simp [execOp, hop, hr, invoke, builtin, Builtin.min_, hρ, asI_some ha, asI_some hb, Builtin.min2]
  ·rename_i ts x y hcal hargs
   simp only [Option.some.injEq] at hp; subst hp
   have ha : c.args = #[x, y] := by rw [← Array.toList_inj, hargs]
   obtain ⟨k, hr⟩ := resolve_builtin (ρ := ρ') o.type hcal
   rw [ha] at hr
   simp only [pval, Option.bind_eq_some_iff, Option.some.injEq] at hv
   obtain ⟨a, ha, b, hb, rfl⟩ := hv
   simp [execOp, hop, hr, invoke, builtin, Builtin.max_, hρ, asI_some ha, asI_some hb, Builtin.max2]
  ·cases hp
 case h_19 x hop =>
  simp only [Option.some.injEq] at hp; subst hp
  simp only [pval] at hv
  split at hv
  ·rename_i hn
   simp only [Option.some.injEq] at hv; subst hv
   unfold nckv at hn
   split at hn
   ·rename_i e; simp [execOp, hop, hρ, e]
   ·rename_i e; simp [execOp, hop, hρ, e]
   ·cases hn
  ·cases hv
 case h_20 => cases hp
end
end Go.KH
namespace Go.KH
open Go.RowKit

inductive O where
 | p (o : PO)
 | box (x : X)
 | alloc (z : List Value)
 | bsl (n : Nat) (z : List Value) (ps : List (Nat × Nat × X))
 | st (n : Nat) (a x : X)
 | app (w by_ : Nat) (s x : X)
 | cpy (w : Nat) (d s : X)
 | mks (w by_ : Nat) (z : List Value) (l c : X)
 | s2b (x : X)
 | call (f : X) (args : List X)
 | mkm
 | mup (m k v : X)
 | clr (w : Nat) (z : List Value) (x : X)
 | bad

def AC (P : Program) (n : FuncId) (args : List Value) (h : H) (Q : Value → H → Prop) : Prop :=
 (∃ fn, P.funcs[n]? = some fn ∧ (fn.name == "runtime.NumGoroutine") = false ∧ fn.body.isNone = false) ∧
 ∀ w0 w, Rel w0 h w → Calls P n args.toArray w fun e w' => ∃ v h', e = .returned v ∧ h'.base = h.base ∧ Rel w0 h' w' ∧ Q v h'

theorem AC.mono {P : Program} {n : FuncId} {args : List Value} {h : H} {Q Q' : Value → H → Prop} (c : AC P n args h Q) (hq : ∀ v h', h'.base = h.base → Q v h' → Q' v h') : AC P n args h Q' :=
 ⟨c.1, fun w0 w r => (c.2 w0 w r).mono fun e w' ⟨v, h', he, hb, hr, q⟩ => ⟨v, h', he, hb, hr, hq v h' hb q⟩⟩

def u8s (l : List UInt8) : List Value := l.map fun b => .int .u8 b.toNat
def srcOf (h : H) (w : Nat) : Value → Option (Nat × List Value)
 | .string s => some ((bl s).length, u8s (bl s))
 | .slice _ 0 _ => some (0, [])
 | .slice (some ⟨b, o, none⟩) n _ => (ldc h b o (n * w)).bind fun cs => some (n, cs)
 | _ => none
def stc (h : H) (b o : Nat) (cs : List Value) (n : Nat) : Option H :=
 (h.get b).bind fun ob => if cs.length = n ∧ o + n ≤ ob.cells.length ∧ cs.all Value.oneCell' then some (h.set b ⟨splice ob.cells o cs, ob.size⟩) else none

def asFn : Value → Option (Nat × List Value × List Value) | .func (.func n) a b => some (n, a.toList, b.toList) | _ => none
@[simp] theorem asFn_mk (n : Nat) (a b : List Value) : asFn (.func (.func n) a.toArray b.toArray) = some (n, a, b) := by simp [asFn]
@[simp] theorem asFn_mk0 (n : Nat) : asFn (.func (.func n) #[] #[]) = some (n, [], []) := by simp [asFn]
@[simp] theorem asFn_mk1 (n : Nat) (b : List Value) : asFn (.func (.func n) #[] b.toArray) = some (n, [], b) := by simp [asFn]

def freshM (h : H) (K : Nat → Prop) : Prop := ∀ b, h.base ≤ b → h.get b = none → h.mp b = none → K b
def freshK (h : H) (K : Nat → Prop) : Prop := ∀ b, h.base ≤ b → h.get b = none → K b

def vcl (v : Value) : List Value := v.cells.toList

def owp (P : Program) (ρ : X → Value) (h : H) (K : Value → H → Prop) : O → Prop
 | .p o => withO (pval ρ h o) fun v => K v h
 | .box x => freshK h fun b => K (ptr b 0) (h.set b ⟨vcl (ρ x), (vcl (ρ x)).length⟩)
 | .alloc z => freshK h fun b => K (ptr b 0) (h.set b ⟨z, z.length⟩)
 | .bsl n z ps => withO (fillL z (ps.map fun p => (p.1, p.2.1, ρ p.2.2))) fun cs => freshK h fun b => K (sl b 0 n n) (h.set b ⟨cs, cs.length⟩)
 | .st n a x => withO (asP (ρ a)) fun p => h.base ≤ p.1 ∧ withO (stc h p.1 p.2 (vcl (ρ x)) n) fun h' => K undef h'
 | .app w by_ s x => withO (asL (ρ s)) fun p => withO (srcOf h w (ρ x)) fun q => (p.2.1 + q.1) * by_ ≤ 70368744177664 ∧ q.2.all Value.oneCell' = true ∧ q.2.length = q.1 * w ∧
   match p.1 with
   | none => p.2 = (0, 0) ∧ if q.1 = 0 then K nils h else freshK h fun b => ∀ c, q.1 ≤ c → K (sl b 0 q.1 c) (h.set b ⟨q.2, c * w⟩)
   | some ⟨b, o, none⟩ => o = 0 ∧ h.base ≤ b ∧ withO (h.get b) fun ob => p.2.2 * w ≤ ob.size ∧
     ((p.2.1 * w = ob.cells.length ∧ ∀ b' c z, (b' = b ∨ h.get b' = none) → h.base ≤ b' → p.2.1 + q.1 ≤ c → c * w ≤ z → K (sl b' 0 (p.2.1 + q.1) c) (h.set b' ⟨ob.cells ++ q.2, z⟩)) ∨
     (p.2.1 + q.1 ≤ p.2.2 ∧ (p.2.1 + q.1) * w ≤ ob.cells.length ∧ K (sl b 0 (p.2.1 + q.1) p.2.2) (h.set b ⟨splice ob.cells (p.2.1 * w) q.2, ob.size⟩)))
   | _ => False
 | .cpy w d s => withO (asL (ρ d)) fun p => withO (srcOf h w (ρ s)) fun q => q.2.length = q.1 * w ∧
   match p.1 with
   | none => K (i64 (Nat.min q.1 p.2.1 : Nat)) h
   | some ⟨b, o, none⟩ => h.base ≤ b ∧ withO (stc h b o (q.2.take (Nat.min q.1 p.2.1 * w)) (Nat.min q.1 p.2.1 * w)) fun h' => K (i64 (Nat.min q.1 p.2.1 : Nat)) h'
   | _ => False
 | .mks w by_ z l c => withO (asI (ρ l)) fun l => withO (asI (ρ c)) fun c => 0 ≤ l.2 ∧ l.2 ≤ c.2 ∧ c.2 < 1099511627776 ∧ by_ * c.2 ≤ 140737488355328 ∧
   freshK h fun b => K (sl b 0 l.2.toNat c.2.toNat) (h.set b ⟨(List.replicate c.2.toNat z).flatten, c.2.toNat * w⟩)
 | .s2b x => withO (asS (ρ x)) fun s => freshK h fun b => ∀ c, s.length ≤ c → K (sl b 0 s.length c) (h.set b ⟨u8s s, c⟩)
 | .call f args => withO (asFn (ρ f)) fun p => AC P p.1 (p.2.1 ++ args.map ρ ++ p.2.2) h K
 | .mkm => freshM h fun b => K (.map (some b)) (h.setm b [])
 | .bad => False
 | .mup m k v => withO (asM (ρ m)) fun b => withO (h.mp b) fun l => withO (asI (ρ k)) fun q => withO (mfind q.1 q.2 l 0) fun r =>
   K undef (h.setm b (match r with | some (i, _) => l.set i (.int q.1 q.2, ρ v) | none => l ++ [(.int q.1 q.2, ρ v)]))
 | .clr w z x => withO (asL (ρ x)) fun p =>
   match p.1, p.2.1 with
   | none, _ => K (.tuple #[]) h
   | _, 0 => K (.tuple #[]) h
   | some ⟨b, o, none⟩, n => h.base ≤ b ∧ withO (stc h b o (List.replicate n z).flatten (n * w)) fun h' => K (.tuple #[]) h'
   | _, _ => False

def prepO (P : Program) (o : Oper) : Option O :=
 match prepP P o with
 | some po => some (.p po)
 | none =>
 match o.op with
 | .box _ x => some (.box (px x))
 | .alloc t => (P.info? t).bind fun i => i.zero.bind fun z => some (.alloc z.cells.toList)
 | .buildSlice t len parts =>
  match P.underlying t with
  | some (.slice e) => (P.info? e).bind fun i => i.zero.bind fun z =>
    if len * i.size > 16777216 ∨ z.cells.size ≠ i.size ∨ i.size = 0 then none else
    some (.bsl len (List.replicate len z.cells.toList).flatten (parts.toList.map fun (p : Nat × Operand) => (p.1 * i.size, i.size, px p.2)))
  | _ => none
 | .store t a x => (P.info? t).bind fun i => some (.st i.size (px a) (px x))
 | .makeSlice t l c =>
  match P.underlying t with
  | some (.slice e) => (P.info? e).bind fun i => i.zero.bind fun z => if z.cells.size ≠ i.size ∨ i.size = 0 then none else some (.mks i.size i.bytes z.cells.toList (px l) (px c))
  | _ => none
 | .makeMap t none => (match P.underlying t with | some (.map _ _) => some .mkm | _ => none)
 | .mapUpdate t m k x =>
  match P.underlying t with
  | some (.map kt _) => (match P.underlying kt with | some (.int _) => some (.mup (px m) (px k) (px x)) | _ => none)
  | _ => none
 | .convert s d x =>
  match P.underlying s, P.underlying d with
  | some .string, some (.slice e) => (match P.underlying e with | some (.int .u8) => some (.s2b (px x)) | _ => none)
  | _, _ => none
 | .call c =>
  match c.callee, c.args.toList, c.argTypes.toList with
  | .builtin .append, [s, x], t :: u :: _ =>
   (match P.underlying t, P.underlying u with
   | some (.slice e), some (.slice _) => (P.info? e).bind fun i => i.zero.bind fun z => if i.size = 0 ∨ i.bytes = 0 ∨ z.cells.size ≠ i.size then none else some (.app i.size i.bytes (px s) (px x))
   | some (.slice e), some .string => (P.info? e).bind fun i => i.zero.bind fun z => if i.size = 1 ∧ i.bytes = 1 ∧ z.cells.size = 1 then some (.app 1 1 (px s) (px x)) else none
   | _, _ => none)
  | .builtin .copy, [d, s], t :: u :: _ =>
   (match P.underlying t, P.underlying u with
   | some (.slice e), some (.slice _) => (P.info? e).bind fun i => some (.cpy i.size (px d) (px s))
   | some (.slice e), some .string => (P.info? e).bind fun i => if i.size = 1 then some (.cpy 1 (px d) (px s)) else none
   | _, _ => none)
  | .builtin .clear, [x], t :: _ =>
   (match P.underlying t with
   | some (.slice e) => (P.info? e).bind fun i => i.zero.bind fun z => if z.cells.size ≠ i.size ∨ i.size = 0 then none else some (.clr i.size z.cells.toList (px x))
   | _ => none)
  | .value f, args, _ => some (.call (px f) (args.map px))
  | _, _, _ => none
 | _ => none
def prepOB (P : Program) (o : Oper) : O := (prepO P o).getD .bad
end Go.KH
namespace Go.KH
open Go.RowKit

section
variable {P : Program}

theorem Rel.lt {w0 w : World} {h : H} (r : Rel w0 h w) {b : Nat} {ob : Ob} (hb : h.get b = some ob) : b < w.heap.size := by
 obtain ⟨c, T, fz, h1, _⟩ := r.obs b ob hb
 rcases Nat.lt_or_ge b w.heap.size with h | h
 ·exact h
 ·rw [Array.getElem?_eq_none h] at h1; cases h1

theorem Rel.ltm {w0 w : World} {h : H} (r : Rel w0 h w) {b : Nat} {l : List (Value × Value)} (hb : h.mp b = some l) : b < w.heap.size := by
 obtain ⟨es, clock, h1, _⟩ := r.maps b l hb
 rcases Nat.lt_or_ge b w.heap.size with h | h
 ·exact h
 ·rw [Array.getElem?_eq_none h] at h1; cases h1

theorem Rel.freshm {w0 w : World} {h : H} (r : Rel w0 h w) : h.mp w.heap.size = none := by
 cases hg : h.mp w.heap.size with
 | none => rfl
 | some ob => exact absurd (r.ltm hg) (Nat.lt_irrefl _)

theorem Rel.fresh {w0 w : World} {h : H} (r : Rel w0 h w) : h.base ≤ w.heap.size ∧ h.get w.heap.size = none := by
 refine ⟨Nat.le_trans r.baseLe r.below.size, ?_⟩
 cases hg : h.get w.heap.size with
 | none => rfl
 | some ob => exact absurd (r.lt hg) (Nat.lt_irrefl _)

theorem Rel.push {w0 w : World} {h : H} (r : Rel w0 h w) (c : Array Value) (T : TypeId) (fz : Nat × Nat) (hf : ∀ i, i < c.size → ¬ (fz.1 ≤ i ∧ i < fz.2)) (cs : List Value) (hc : cs <+: c.toList) :
  Rel w0 (h.set w.heap.size ⟨cs, c.size⟩) { w with heap := w.heap.push (.cells c T fz) } := by
 refine ⟨r.below.trans ⟨rfl, rfl, rfl, by simp, fun k hk => ?_⟩, r.baseLe, ?_, ?_, r.own⟩
 ·show (w.heap.push _)[k]? = _
  have := r.fresh.1
  have hk : k < h.base := hk
  rw [Array.getElem?_push, if_neg (by omega)]
 rotate_left
 ·intro b l hb
  have hlt := r.ltm hb
  obtain ⟨es, clock, h1, h2⟩ := r.maps b l hb
  refine ⟨es, clock, ?_, h2⟩
  show (w.heap.push _)[b]? = _
  rw [Array.getElem?_push, if_neg (by omega)]; exact h1
 ·intro b ob hb
  rw [H.set_get] at hb
  show ∃ c' T' fz', (w.heap.push _)[b]? = _ ∧ _
  split at hb
  ·rename_i e; subst e
   simp only [Option.some.injEq] at hb; subst hb
   exact ⟨c, T, fz, by simp, hc, fun _ => ⟨rfl, hf⟩⟩
  ·obtain ⟨c', T', fz', h1, h2⟩ := r.obs b ob hb
   refine ⟨c', T', fz', ?_, h2⟩
   rw [Array.getElem?_push, if_neg (by have := r.lt hb; omega)]
   exact h1

theorem Rel.newRow {w0 w : World} {h : H} (r : Rel w0 h w) (c : Array Value) (T : TypeId) :
  (newRow T c).run P w = .ok ⟨w.heap.size, 0, none⟩ { w with heap := w.heap.push (.cells c T (0, 0)) } := by
 simp [Go.newRow]

theorem Rel.drew {w0 w : World} {h : H} (r : Rel w0 h w) : Rel w0 h { w with drawn := w.drawn + 1 } :=
 ⟨r.below.trans ⟨rfl, rfl, rfl, Nat.le_refl _, fun _ _ => rfl⟩, r.baseLe, r.obs, r.maps, r.own⟩

theorem splice_cons (l : List Value) (o : Nat) (v : Value) (vs : List Value) (ho : o ≤ l.length) : splice (splice l o [v]) (o + 1) vs = splice l o (v :: vs) := by
 unfold splice
 have e1 : (List.take o l ++ [v] ++ List.drop (o + [v].length) l).take (o + 1) = List.take o l ++ [v] := by
  rw [List.take_append_of_le_length (by simp; omega), List.take_of_length_le (by simp; omega)]
 have e2 : (List.take o l ++ [v] ++ List.drop (o + [v].length) l).drop (o + 1 + vs.length) = List.drop (o + (v :: vs).length) l := by
  have hl : (List.take o l ++ [v]).length = o + 1 := by simp; omega
  rw [List.drop_append, List.drop_of_length_le (by rw [hl]; omega), hl]
  simp only [List.nil_append, List.length_singleton, List.drop_drop, List.length_cons, List.length_nil]
  congr 1; omega
 rw [e1, e2]; simp

theorem splice_nil (l : List Value) (o : Nat) : splice l o [] = l := by simp [splice]
theorem splice_length (l cs : List Value) (o : Nat) (h : o ≤ l.length) : (splice l o cs).length = Nat.max l.length (o + cs.length) := by
 simp only [splice, List.length_append, List.length_take, List.length_drop]; have : Nat.max l.length (o + cs.length) = max l.length (o + cs.length) := rfl
 rw [this, Nat.max_def]; split <;> omega

theorem Rel.set1 {w0 w : World} {h : H} (r : Rel w0 h w) {b o : Nat} {ob : Ob} (hg : h.get b = some ob) (hb : h.base ≤ b) (ho : o ≤ ob.cells.length) (hs : o < ob.size) {v : Value} (hv : v.oneCell' = true) :
  (store ⟨b, o, none⟩ v).run P w = .ok () (w.setCell ⟨b, o, none⟩ v) ∧ Rel w0 (h.set b ⟨splice ob.cells o [v], ob.size⟩) (w.setCell ⟨b, o, none⟩ v) := by
 obtain ⟨c, T, fz, h1, ⟨t, h2⟩, h3⟩ := r.obs b ob hg
 obtain ⟨hsz, hfz⟩ := h3 hb
 constructor
 ·rw [run_store P w _ v _ hv]
  have hc : w.cell? ⟨b, o, none⟩ = some c[o] := by simp [World.cell?, h1, hsz, hs]
  have hf : w.frozen? ⟨b, o, none⟩ = false := by
   simp only [World.frozen?, h1]
   have := hfz o hs
   simpa using this
  simp [hc, hf]
 ·have hheap : ∀ k, (w.setCell ⟨b, o, none⟩ v).heap[k]? = if k = b then some (.cells (c.setIfInBounds o v) T fz) else w.heap[k]? := by
   intro k
   simp only [World.setCell, Array.getElem?_modify]
   by_cases hk : k = b
   ·subst hk; simp [h1]
   ·have : ¬ b = k := fun e => hk e.symm
    simp [hk, this]
  refine ⟨r.below.setCell hb v, r.baseLe, ?_, ?_, r.own⟩
  rotate_left
  ·intro k l hk
   obtain ⟨es, clock, g1, g2⟩ := r.maps k l hk
   refine ⟨es, clock, ?_, g2⟩
   rw [hheap, if_neg (fun e => by subst e; rw [h1] at g1; cases g1)]; exact g1
  intro k oc hk
  rw [H.set_get] at hk
  rw [hheap]
  split at hk
  ·rename_i e; subst e
   simp only [Option.some.injEq] at hk; subst hk
   refine ⟨c.setIfInBounds o v, T, fz, by simp, ?_, fun _ => ⟨by simpa using hsz, hfz⟩⟩
   rw [Array.toList_setIfInBounds, ← h2]
   unfold splice
   refine ⟨?_, ?_⟩
   ·exact if o < ob.cells.length then t else t.drop 1
   ·have hlen : ob.cells.length + t.length = ob.size := by rw [← hsz, ← Array.length_toList, ← h2]; simp
    by_cases hlt : o < ob.cells.length
    ·rw [if_pos hlt, List.set_append_left _ _ hlt, List.set_eq_take_append_cons_drop, if_pos hlt]; simp
    ·have : o = ob.cells.length := by omega
     subst this
     rw [if_neg hlt, List.set_append_right _ _ (Nat.le_refl _), Nat.sub_self]
     cases t with
     | nil => simp at hlen; omega
     | cons x t => simp
  ·rename_i e
   obtain ⟨c', T', fz', g1, g2⟩ := r.obs k oc hk
   refine ⟨c', T', fz', ?_, g2⟩
   rw [if_neg e]; exact g1

theorem Rel.pushm {w0 w : World} {h : H} (r : Rel w0 h w) : Rel w0 (h.setm w.heap.size []) { w with heap := w.heap.push (.map #[] 0) } := by
 have hp : ∀ k, k < w.heap.size → (w.heap.push (.map #[] 0))[k]? = w.heap[k]? := fun k hk => by rw [Array.getElem?_push, if_neg (by omega)]
 refine ⟨r.below.trans ⟨rfl, rfl, rfl, by simp, fun k hk => hp k (Nat.lt_of_lt_of_le hk r.fresh.1)⟩, r.baseLe, ?_, ?_, ?_⟩
 ·intro b ob hb
  obtain ⟨c, T, fz, h1, h2⟩ := r.obs b ob hb
  exact ⟨c, T, fz, by show (w.heap.push _)[b]? = _; rw [hp b (r.lt hb)]; exact h1, h2⟩
 ·intro b l hb
  rw [H.setm_mp] at hb
  show ∃ es clock, (w.heap.push _)[b]? = _ ∧ _
  split at hb
  ·rename_i e; subst e; simp only [Option.some.injEq] at hb; subst hb
   exact ⟨#[], 0, by simp, rfl⟩
  ·obtain ⟨es, clock, g1, g2⟩ := r.maps b l hb
   exact ⟨es, clock, by rw [hp b (r.ltm hb)]; exact g1, g2⟩
 ·intro b l hb
  rw [H.setm_mp] at hb
  split at hb
  ·rename_i e; subst e; exact r.fresh.1
  ·exact r.own b l hb

theorem Rel.setm {w0 w : World} {h : H} (r : Rel w0 h w) {b : Nat} {l : List (Value × Value)} (hb : h.mp b = some l) {es' : Array MapEntry} {clock' : Nat} :
  Rel w0 (h.setm b (es'.toList.map fun e => (e.key, e.val))) { w with heap := w.heap.setIfInBounds b (.map es' clock') } := by
 have hp : ∀ k, k ≠ b → (w.heap.setIfInBounds b (.map es' clock'))[k]? = w.heap[k]? := fun k hk => by rw [Array.getElem?_setIfInBounds_ne (Ne.symm hk)]
 obtain ⟨es, clock, g1, g2⟩ := r.maps b l hb
 refine ⟨r.below.trans ⟨rfl, rfl, rfl, by simp, fun k hk => hp k (fun e => by subst e; exact absurd (r.own _ _ hb) (Nat.not_le_of_lt hk))⟩, r.baseLe, ?_, ?_, ?_⟩
 ·intro k ob hk
  obtain ⟨c, T, fz, h1, h2⟩ := r.obs k ob hk
  refine ⟨c, T, fz, ?_, h2⟩
  show (w.heap.setIfInBounds b _)[k]? = _
  rw [hp k (fun e => by subst e; rw [g1] at h1; cases h1)]; exact h1
 ·intro k m hk
  rw [H.setm_mp] at hk
  show ∃ es clock, (w.heap.setIfInBounds b _)[k]? = _ ∧ _
  split at hk
  ·rename_i e; subst e; simp only [Option.some.injEq] at hk; subst hk
   exact ⟨es', clock', by simp [r.ltm hb], rfl⟩
  ·rename_i e
   obtain ⟨es2, clock2, k1, k2⟩ := r.maps k m hk
   exact ⟨es2, clock2, by rw [hp k e]; exact k1, k2⟩
 ·intro k m hk
  rw [H.setm_mp] at hk
  split at hk
  ·rename_i e; subst e; exact r.own _ _ hb
  ·exact r.own k m hk

theorem H.set_set (h : H) (b : Nat) (o o' : Ob) : (h.set b o).set b o' = h.set b o' := by
 unfold H.set; congr 1; funext c; split <;> simp_all

theorem H.set_self (h : H) (b : Nat) (o : Ob) (hg : h.get b = some o) : h.set b o = h := by
 unfold H.set; cases h; congr 1; funext c; split <;> simp_all

theorem Rel.setN {w0 : World} {b : Nat} : ∀ (vs : List Value) (o i : Nat) (w : World) (h : H) (ob : Ob), Rel w0 h w → h.get b = some ob → h.base ≤ b → o + i ≤ ob.cells.length → o + i + vs.length ≤ ob.size → vs.all Value.oneCell' = true →
  ∃ w', (storeCells ⟨b, o, none⟩ vs i).run P w = .ok () w' ∧ Rel w0 (h.set b ⟨splice ob.cells (o + i) vs, ob.size⟩) w'
 | [], o, i, w, h, ob, r, hg, hb, ho, hs, hv => ⟨w, by simp [storeCells], by rw [splice_nil, H.set_self h b ob hg]; exact r⟩
 | v :: vs, o, i, w, h, ob, r, hg, hb, ho, hs, hv => by
  simp only [List.all_cons, Bool.and_eq_true] at hv
  simp only [List.length_cons] at hs
  obtain ⟨h1, h2⟩ := r.set1 (P := P) hg hb ho (by omega) hv.1
  obtain ⟨w', h3, h4⟩ := Rel.setN vs o (i + 1) _ _ ⟨splice ob.cells (o + i) [v], ob.size⟩ h2 (by simp) hb (by
   simp only [splice_length _ _ _ ho, List.length_singleton]; have := Nat.le_max_right ob.cells.length (o + i + 1); omega) (by simp only; omega) hv.2
  refine ⟨w', ?_, ?_⟩
  ·simp only [storeCells, Sem.run_bind, addr_add, h1, Result.andThen_ok]; exact h3
  ·rw [H.set_set] at h4
   have := splice_cons ob.cells (o + i) v vs ho
   rw [show o + (i + 1) = o + i + 1 by omega, this] at h4
   exact h4

theorem run_srcOf {h : H} {w : World} (hh : Has h w) {wd : Nat} {x : Value} {n : Nat} {cs : List Value} (hx : srcOf h wd x = some (n, cs)) :
  (Builtin.lenOf x).run P w = .ok n w ∧ (Builtin.firstCells wd n x).run P w = .ok cs.toArray w := by
 unfold srcOf at hx
 split at hx
 ·rename_i s
  simp only [Option.some.injEq, Prod.mk.injEq] at hx
  obtain ⟨rfl, rfl⟩ := hx
  refine ⟨by simp [Builtin.lenOf, bl_length], ?_⟩
  simp only [Builtin.firstCells, bl_length, Sem.run_pure]
  congr 1
  rw [← Array.toList_inj]
  have : s.extract 0 s.size = s := by simp
  rw [this]
  simp [u8s, bl]
 ·simp only [Option.some.injEq, Prod.mk.injEq] at hx
  obtain ⟨rfl, rfl⟩ := hx
  rename_i a c
  exact ⟨by simp [Builtin.lenOf], by cases a <;> simp [Builtin.firstCells, loadCells, loadCellsFrom]⟩
 ·simp only [Option.bind_eq_some_iff, Option.some.injEq, Prod.mk.injEq] at hx
  obtain ⟨cs', hc, rfl, rfl⟩ := hx
  exact ⟨by simp [Builtin.lenOf], by simp only [Builtin.firstCells]; exact run_ldc hh hc⟩
 ·cases hx
end
end Go.KH
namespace Go.KH
open Go.RowKit

section
variable {P : Program}

theorem wrap_i64 {n : Int} (h1 : -9223372036854775808 ≤ n) (h2 : n < 9223372036854775808) : IntKind.i64.wrap n = n := IntWalk.i64_in n ⟨h1, by omega⟩

theorem modify_push (xs : Array Obj) (a : Obj) (f : Obj → Obj) : (xs.push a).modify xs.size f = xs.push (f a) := by
 apply Array.ext_getElem?
 intro i
 simp only [Array.getElem?_modify, Array.getElem?_push]
 by_cases h : i = xs.size
 ·subst h; simp
 ·have h' : ¬ xs.size = i := fun e => h e.symm
  simp only [h, h', if_false]

theorem prepO_cases {o : Oper} {oo : O} (hp : prepO P o = some oo) : (∃ po, prepP P o = some po ∧ oo = .p po) ∨ (prepP P o = none ∧ prepO P o = some oo) := by
 cases h : prepP P o with
 | some po => left; unfold prepO at hp; rw [h] at hp; exact ⟨po, rfl, (Option.some.inj hp).symm⟩
 | none => exact .inr ⟨rfl, hp⟩

theorem zeroCells_size (z : Array Value) (n : Nat) : (Builtin.zeroCells z n).size = n * z.size := by simp [Builtin.zeroCells]

theorem range_zero (z : List Value) (n : Nat) (hz : z ≠ []) : ((Array.range (n * z.length)).map fun i => z.toArray[i % z.toArray.size]!) = (List.replicate n z).flatten.toArray := by
 rw [← Array.toList_inj]
 have hl : 0 < z.length := List.length_pos_iff.2 hz
 apply List.ext_getElem
 ·simp
 ·intro i h1 h2
  simp only [Array.toList_map, Array.toList_range, List.getElem_map, List.getElem_range, List.size_toArray]
  have hi : i < n * z.length := by simpa using h1
  have hm : i % z.length < z.length := Nat.mod_lt _ hl
  have e1 : z.toArray[i % z.length]! = z[i % z.length] := by simp [hm]
  have key : ∀ (n i : Nat) (h : i < (List.replicate n z).flatten.length), (List.replicate n z).flatten[i] = z[i % z.length]'(Nat.mod_lt _ hl) := by
   intro n
   induction n with
   | zero => intro i h; simp at h
   | succ n ih =>
    intro i h
    simp only [List.replicate_succ, List.flatten_cons]
    by_cases hlt : i < z.length
    ·rw [List.getElem_append_left hlt]; simp [Nat.mod_eq_of_lt hlt]
    ·rw [List.getElem_append_right (by omega), ih]
     congr 1
     exact (Nat.mod_eq_sub_mod (by omega)).symm
  rw [key n i (by simpa using h2)]
  simpa using e1

theorem run_buildSlice {w0 w : World} {h : H} (r : Rel w0 h w) {t e : TypeId} {i : TypeInfo} {z : Value} (hu : P.underlying t = some (.slice e)) (hi : P.info? e = some i) (hz : i.zero = some z)
  (len : Nat) (hc : ¬ (len * i.size > 16777216 ∨ z.cells.size ≠ i.size ∨ i.size = 0)) (ps : Array (Nat × Value)) (cs : List Value)
  (hf : fillL (List.replicate len z.cells.toList).flatten (ps.toList.map fun p => (p.1 * i.size, i.size, p.2)) = some cs) :
  (Instr.buildSlice t len ps).run P w = .ok (sl w.heap.size 0 len len) { w with heap := w.heap.push (.cells cs.toArray e (0, 0)) } := by
 have h1 : ¬ len * i.size > 2 ^ 24 := by omega
 have hsz : z.cells.size = i.size := by omega
 have hz0 : i.size ≠ 0 := by omega
 have hfill : Instr.fill (fun k => some (k * i.size, i.size)) (List.replicate len z.cells.toList).flatten.toArray ps.toList = some cs.toArray := by
  refine fill_of _ _ _ _ hf (by simp) ?_
  intro j p q hj hq
  simp only [List.getElem?_map, Option.map_eq_some_iff] at hq
  obtain ⟨q0, hq0, rfl⟩ := hq
  rw [hj] at hq0; obtain rfl := Option.some.inj hq0
  exact ⟨rfl, rfl⟩
 unfold Instr.buildSlice
 simp only [Sem.run_bind, run_underlying hu, Result.andThen_ok, run_sizeOf' hi, h1, if_false]
 by_cases hl : len * i.size = 0
 ·have hl0 : len = 0 := by rcases Nat.mul_eq_zero.1 hl with h | h; exact h; exact absurd h hz0
  subst hl0
  simp only [hl, if_true, Sem.run_pure, Result.andThen_ok]
  have : (Array.map (fun x => (#[] : Array Value)[x % (#[] : Array Value).size]!) (Array.range 0)) = (List.replicate 0 z.cells.toList).flatten.toArray := by simp
  simp only [Sem.run_bind, Sem.run_pure, Result.andThen_ok, this, hfill]
  simp [newRow]
 ·simp only [hl, if_false, Sem.run_bind, run_zeroValue' hi hz, Result.andThen_ok, Sem.run_pure]
  have hne : z.cells.toList ≠ [] := by
   intro h0; have : z.cells.size = 0 := by rw [← Array.length_toList, h0]; rfl
   omega
  have := range_zero z.cells.toList len hne
  simp only [Array.length_toList, hsz] at this
  rw [show z.cells.toList.toArray = z.cells from by simp] at this
  have e : (Array.map (fun x => z.cells[x % z.cells.size]!) (Array.range (len * i.size))) = (List.replicate len z.cells.toList).flatten.toArray := by rw [← this, hsz]
  rw [e, hfill]
  simp [newRow]

theorem run_newVar {w : World} (t : TypeId) (v : Value) : (newVar t v).run P w = .ok ⟨w.heap.size, 0, none⟩ { w with heap := w.heap.push (.cells v.cells t (0, 0)) } := by
 simp [newVar, newRow]

theorem resolve_value {ρ : Operand → Value} {c : Call} {f : Operand} (ty : TypeId) (h : c.callee = .value f) {n : Nat} {a b : List Value} (hf : asFn (ρ f) = some (n, a, b)) :
  resolve ρ c ty = pure { target := .fn (.func n) b.toArray, args := a.toArray ++ c.args.map ρ } := by
 have : ρ f = .func (.func n) a.toArray b.toArray := by
  unfold asFn at hf; split at hf
  ·rename_i e; simp only [Option.some.injEq, Prod.mk.injEq] at hf; obtain ⟨rfl, rfl, rfl⟩ := hf; rw [e]
  ·cases hf
 unfold resolve; rw [h]; simp only [this, Deferred.ofValue]

theorem mfind_le (k : IntKind) (n : Int) : ∀ (l : List (Value × Value)) (s i : Nat) (v : Value), mfind k n l s = some (some (i, v)) → s ≤ i
 | [], s, i, v, h => by simp [mfind] at h
 | (key, val) :: l, s, i, v, h => by
  cases key with
  | int k' m =>
   simp only [mfind] at h
   split at h
   ·split at h
    ·simp only [Option.some.injEq, Prod.mk.injEq] at h; omega
    ·have := mfind_le k n l (s + 1) i v h; omega
   ·cases h
  | _ => simp [mfind] at h

theorem mfind_get (k : IntKind) (n : Int) : ∀ (es : List MapEntry) (s i : Nat) (v : Value), mfind k n (es.map fun e => (e.key, e.val)) s = some (some (i, v)) → ∃ e, es[i - s]? = some e ∧ e.key = .int k n
 | [], s, i, v, h => by simp [mfind] at h
 | ⟨key, val, born⟩ :: es, s, i, v, h => by
  simp only [List.map_cons] at h
  cases key with
  | int k' m =>
   simp only [mfind] at h
   split at h
   ·rename_i hk; subst hk
    split at h
    ·rename_i hm; subst hm
     simp only [Option.some.injEq, Prod.mk.injEq] at h
     obtain ⟨rfl, _⟩ := h
     exact ⟨⟨.int k' m, val, born⟩, by simp, rfl⟩
    ·obtain ⟨e, he, hk⟩ := mfind_get k' n es (s + 1) i v h
     have hle : s + 1 ≤ i := mfind_le k' n _ _ _ _ h
     refine ⟨e, ?_, hk⟩
     rw [show i - s = (i - (s + 1)) + 1 by omega, List.getElem?_cons_succ]; exact he
   ·cases h
  | _ => simp [mfind] at h

theorem ldc_take {h : H} {b o n m : Nat} {cs : List Value} (hl : ldc h b o n = some cs) (hm : m ≤ n) : ldc h b o m = some (cs.take m) := by
 unfold ldc at hl ⊢
 split at hl
 ·split at hl
  ·simp only [Option.some.injEq] at hl; subst hl
   rw [if_pos (by omega), List.take_take, Nat.min_eq_left hm]
  ·cases hl
 ·cases hl

theorem run_srcOf_take {h : H} {w : World} (hh : Has h w) {wd : Nat} {x : Value} {n : Nat} {cs : List Value} (hx : srcOf h wd x = some (n, cs)) (hl : cs.length = n * wd) {m : Nat} (hm : m ≤ n) :
  (Builtin.firstCells wd m x).run P w = .ok (cs.take (m * wd)).toArray w := by
 unfold srcOf at hx
 split at hx
 ·rename_i s
  simp only [Option.some.injEq, Prod.mk.injEq] at hx
  obtain ⟨rfl, rfl⟩ := hx
  simp only [u8s, List.length_map] at hl
  have hmw : m * wd = m ∨ (bl s).length = 0 := by
   rcases Nat.eq_zero_or_pos (bl s).length with h0 | h0
   ·exact .inr h0
   ·left
    have : wd = 1 := by
     have := Nat.eq_of_mul_eq_mul_left h0 (show (bl s).length * 1 = (bl s).length * wd by omega)
     exact this.symm
    rw [this, Nat.mul_one]
  simp only [Builtin.firstCells, Sem.run_pure]
  congr 1
  rw [← Array.toList_inj]
  have e : (s.extract 0 m).data.toList = (bl s).take m := by simp [bl, ByteArray.data_extract, List.extract_eq_take_drop]
  simp only [Array.toList_map, e, u8s]
  rcases hmw with h0 | h0
  ·rw [h0, List.map_take]
  ·have : bl s = [] := List.length_eq_zero_iff.1 h0
   simp [this]
 ·simp only [Option.some.injEq, Prod.mk.injEq] at hx
  obtain ⟨rfl, rfl⟩ := hx
  rename_i a c
  obtain rfl : m = 0 := by omega
  cases a <;> simp [Builtin.firstCells, loadCells, loadCellsFrom]
 ·simp only [Option.bind_eq_some_iff, Option.some.injEq, Prod.mk.injEq] at hx
  obtain ⟨cs', hc, rfl, rfl⟩ := hx
  simp only [Builtin.firstCells]
  exact run_ldc hh (ldc_take hc (Nat.mul_le_mul_right _ hm))
 ·cases hx

theorem owp_sound {o : Oper} {oo : O} (hp : prepO P o = some oo) {a : Act} {N : Nat} {f : Fr} (hf : FrR N f a.tmps) {w0 w : World} {h : H} (r : Rel w0 h w)
  {K : Value → H → Prop} (hK : owp P (ev f) h K oo) {next : Act → World → Prop} {Q : Exit → Act → World → Prop}
  (hn : ∀ v h' w', h'.base = h.base → Rel w0 h' w' → K v h' → next (a.put o.dst v) w') : o.wp P a w next Q := by
 have hρ : ∀ x, a.eval x = ev f (px x) := fun x => hf.eval x
 have hmap : ∀ (l : List Operand), (l.map px).map (ev f) = l.map a.eval := fun l => by simp [hρ]
 rcases prepO_cases hp with ⟨po, hpo, rfl⟩ | ⟨hnone, hp⟩
 ·obtain ⟨v, hv, hk⟩ := hK
  have := run_prepP hpo hρ r.has hv
  unfold Oper.wp
  rw [this]
  exact hn v h w rfl r hk
 unfold prepO at hp
 rw [hnone] at hp
 simp only at hp
 have push : ∀ (c : Array Value) (T : TypeId) (v : Value), K v (h.set w.heap.size ⟨c.toList, c.size⟩) → next (a.put o.dst v) { w with heap := w.heap.push (.cells c T (0, 0)) } := fun c T v hk =>
  hn v (h.set w.heap.size ⟨c.toList, c.size⟩) _ rfl (r.push c T (0, 0) (fun i _ => by simp) c.toList (List.prefix_refl _)) hk
 unfold Oper.wp
 split at hp
 case h_1 t x hop => -- box
  simp only [Option.some.injEq] at hp; subst hp
  have hk := hK w.heap.size r.fresh.1 r.fresh.2
  simp only [vcl] at hk
  simp only [execOp, hop, Instr.box, hρ, Sem.run_bind, run_newVar, Result.andThen_ok, Sem.run_pure, Oper.upon_value]
  exact push _ _ _ (by simpa using hk)
 case h_2 t hop => -- alloc
  simp only [Option.bind_eq_some_iff, Option.some.injEq] at hp
  obtain ⟨i, hi, z, hz, rfl⟩ := hp
  have hk := hK w.heap.size r.fresh.1 r.fresh.2
  simp only [execOp, hop, Instr.alloc, Sem.run_bind, run_zeroValue' hi hz, run_newVar, Result.andThen_ok, Sem.run_pure, Oper.upon_value]
  exact push _ _ _ (by simpa using hk)
 case h_3 t len parts hop => -- buildSlice
  split at hp
  ·rename_i e hu
   simp only [Option.bind_eq_some_iff] at hp
   obtain ⟨i, hi, z, hz, hp⟩ := hp
   split at hp
   ·cases hp
   ·rename_i hc
    simp only [Option.some.injEq] at hp; subst hp
    obtain ⟨cs, hcs, hk⟩ := hK
    have hk := hk w.heap.size r.fresh.1 r.fresh.2
    have hb := run_buildSlice r hu hi hz len hc (parts.map fun (i, x) => (i, a.eval x)) cs (by
     rw [← hcs]; congr 1; simp [hρ])
    simp only [execOp, hop, Sem.run_bind, hb, Result.andThen_ok, Sem.run_pure, Oper.upon_value]
    exact push _ _ _ (by simpa using hk)
  ·cases hp
 case h_4 t x y hop => -- store
  simp only [Option.bind_eq_some_iff, Option.some.injEq] at hp
  obtain ⟨i, hi, rfl⟩ := hp
  obtain ⟨p, hp, hb, h', hst, hk⟩ := hK
  simp only [stc, Option.bind_eq_some_iff] at hst
  obtain ⟨ob, hob, hst⟩ := hst
  split at hst
  ·rename_i hc
   have hc : (ev f (px y)).cells.toList.length = i.size ∧ p.snd + i.size ≤ ob.cells.length ∧ (ev f (px y)).cells.toList.all Value.oneCell' = true := hc
   simp only [Option.some.injEq] at hst; subst hst
   have hsz : ob.cells.length ≤ ob.size := by
    obtain ⟨c, T, fz, g1, ⟨t', g2⟩, g3⟩ := r.obs p.1 ob hob
    rw [← (g3 hb).1, ← Array.length_toList, ← g2]; simp
   obtain ⟨w', h1, h2⟩ := Rel.setN (P := P) (ev f (px y)).cells.toList p.2 0 w h ob r hob hb (by omega) (by omega) hc.2.2
   simp only [Nat.add_zero] at h2
   have hsc : (ev f (px y)).cells.size = i.size := by rw [← Array.length_toList]; exact hc.1
   simp only [execOp, hop, Instr.storeAt, hρ, asP_some hp, Instr.sureAddr, Sem.run_bind, Sem.run_pure, Result.andThen_ok, storeVar, run_sizeOf' hi, hsc, ne_eq, not_true, if_false, ptr, h1, Oper.upon_skip]
   exact hn undef (h.set p.1 ⟨splice ob.cells p.2 (ev f (px y)).cells.toList, ob.size⟩) w' rfl h2 hk
  ·cases hst
 case h_5 t l c hop => -- makeSlice
  split at hp
  ·rename_i e hu
   simp only [Option.bind_eq_some_iff] at hp
   obtain ⟨i, hi, z, hz, hp⟩ := hp
   split at hp
   ·cases hp
   ·rename_i hc
    simp only [Option.some.injEq] at hp; subst hp
    obtain ⟨l', hl', c', hc', h0, hlc, hcb, hby, hk⟩ := hK
    have hk := hk w.heap.size r.fresh.1 r.fresh.2
    have hl0 : l'.2 < 9223372036854775808 := by omega
    have wr : ∀ n : Int, 0 ≤ n → n < 1099511627776 → IntKind.i64.wrap n = n := fun n h1 h2 => wrap_i64 (by omega) (by omega)
    have e1 := wr l'.2 h0 (by omega)
    have e2 := wr c'.2 (by omega) hcb
    have hsz : z.cells.size = i.size := by omega
    have hne : z.cells.toList ≠ [] := by
     intro h0; have : z.cells.size = 0 := by rw [← Array.length_toList, h0]; rfl
     omega
    have hb : ¬ ((i.bytes : Int) * c'.2 > 2 ^ 48) := by omega
    have g1 : (decide (c'.2 < 0) || decide ((i.bytes : Int) * c'.2 > 2 ^ 48) || decide (l'.2 < 0) || decide (l'.2 > c'.2)) = false := by
     simp only [Bool.or_eq_false_iff, decide_eq_false_iff_not]; refine ⟨⟨⟨?_, ?_⟩, ?_⟩, ?_⟩ <;> omega
    have hcells : ((Array.range (c'.2.toNat * i.size)).map fun j => z.cells[j % z.cells.size]!) = (List.replicate c'.2.toNat z.cells.toList).flatten.toArray := by
     have := range_zero z.cells.toList c'.2.toNat hne
     simp only [Array.length_toList, hsz] at this
     rw [show z.cells.toList.toArray = z.cells from by simp] at this
     rw [← this, hsz]
    have hrun : (Instr.makeSlice t (a.eval l) (a.eval c)).run P w = .ok (sl w.heap.size 0 l'.2.toNat c'.2.toNat) { w with heap := w.heap.push (.cells (List.replicate c'.2.toNat z.cells.toList).flatten.toArray e (0, 0)) } := by
     unfold Instr.makeSlice
     simp only [hρ, asI_some hl', asI_some hc', Sem.run_bind, run_underlying hu, Result.andThen_ok, run_asInt, run_typeInfo' hi, e1, e2, g1, Bool.false_eq_true, if_false, run_askRoom, run_sizeOf' hi, Sem.run_pure]
     by_cases hn0 : c'.2.toNat * i.size = 0
     ·have hc0 : c'.2.toNat = 0 := by rcases Nat.mul_eq_zero.1 hn0 with h | h; exact h; omega
      have e0 : (Array.map (fun j => (#[] : Array Value)[j % (#[] : Array Value).size]!) (Array.range 0)) = (List.replicate 0 z.cells.toList).flatten.toArray := by simp
      simp only [hn0, if_true, Sem.run_pure, Result.andThen_ok, hc0, e0]
      simp [newRow, show Array.range 0 = #[] from rfl]
     ·simp only [hn0, if_false, Sem.run_bind, run_zeroValue' hi hz, Result.andThen_ok, Sem.run_pure, hcells]
      simp [newRow]
    simp only [execOp, hop, Sem.run_bind, hrun, Result.andThen_ok, Sem.run_pure, Oper.upon_value]
    refine push (List.replicate c'.2.toNat z.cells.toList).flatten.toArray e _ ?_
    have hlen : ∀ (n : Nat) (l : List Value), (List.replicate n l).flatten.length = n * l.length := fun n l => by induction n <;> simp_all [List.replicate_succ, Nat.succ_mul, Nat.add_comm]
    have e5 : (List.replicate c'.2.toNat z.cells.toList).flatten.toArray.size = c'.2.toNat * i.size := by
     have : (List.replicate c'.2.toNat z.cells.toList).flatten.toArray.size = (List.replicate c'.2.toNat z.cells.toList).flatten.length := rfl
     rw [this, hlen, Array.length_toList, hsz]
    rw [e5]
    exact hk
  ·cases hp
 case h_6 t hop => -- make a map
  split at hp
  ·rename_i kt et hu
   simp only [Option.some.injEq] at hp; subst hp
   have hk := hK w.heap.size r.fresh.1 r.fresh.2 r.freshm
   simp only [execOp, hop, Option.map_none, Instr.makeMap, Sem.run_bind, run_newObj, Result.andThen_ok, Sem.run_pure, Oper.upon_value]
   exact hn _ (h.setm w.heap.size []) _ rfl r.pushm hk
  ·cases hp
 case h_7 t m k x hop => -- write into a map
  split at hp
  ·rename_i kt et hu
   split at hp
   ·rename_i kk hkk
    simp only [Option.some.injEq] at hp; subst hp
    obtain ⟨b, hb, l, hl, q, hq, rr, hrr, hk⟩ := hK
    obtain ⟨es, clock, hes, hel⟩ := r.maps b l hl
    have hobj : (getObj b).run P w = .ok (.map es clock) w := by simp only [getObj, Sem.run, hes]
    have hfind := findNow_mfind (kk := kk) q.1 q.2 es.toList 0 rr (by rw [hel]; exact hrr)
    have hck : (Instr.checkKey false 10000 kt (.int q.1 q.2)).run P w = .ok () w := by
     show (Instr.checkKey false (9999 + 1) kt (.int q.1 q.2)).run P w = .ok () w
     unfold Instr.checkKey
     simp only [Sem.run_bind, run_underlying hkk, Result.andThen_ok]
     rfl
    have hset : ∀ es' clock', (setObj b (.map es' clock')).run P w = .ok () { w with heap := w.heap.setIfInBounds b (.map es' clock') } := fun es' clock' => by simp only [setObj, Sem.run, hes]
    simp only [execOp, hop, hρ, asM_some hb, asI_some hq, Instr.mapUpdate, Sem.run_bind, run_underlying hu, Result.andThen_ok, hobj, Sem.run_pure, hck, Instr.findKey, run_underlying hkk, hfind]
    cases rr with
    | none =>
     simp only [hset, Result.andThen_ok, Sem.run_pure, Oper.upon_skip]
     have := r.setm hl (es' := es.push { key := .int q.1 q.2, val := ev f (px x), born := clock }) (clock' := clock + 1)
     simp only [Array.toList_push, List.map_append, List.map_cons, List.map_nil, hel] at this
     exact hn undef (h.setm b (l ++ [(.int q.1 q.2, ev f (px x))])) _ rfl this hk
    | some iv =>
     obtain ⟨i, v'⟩ := iv
     obtain ⟨e, he, hkey⟩ := mfind_get q.1 q.2 es.toList 0 i v' (by rw [hel]; exact hrr)
     simp only [Nat.sub_zero] at he
     have he' : es[i]? = some e := by simpa using he
     have hkeep : (Instr.keyThatStays (((es[i]?).map (·.key)).getD (.int q.1 q.2)) (.int q.1 q.2)).run P w = .ok (.int q.1 q.2) w := by
      rw [he']; simp [Instr.keyThatStays, hkey, Instr.sameBits]
     simp only [Sem.run_bind, hkeep, hset, Result.andThen_ok, Sem.run_pure, Oper.upon_skip]
     have := r.setm hl (es' := es.modify i fun e => { e with key := .int q.1 q.2, val := ev f (px x) }) (clock' := clock)
     have e2 : (es.modify i fun e => { e with key := .int q.1 q.2, val := ev f (px x) }).toList.map (fun e => (e.key, e.val)) = l.set i (.int q.1 q.2, ev f (px x)) := by
      rw [← hel]
      apply List.ext_getElem?
      intro j
      simp only [List.getElem?_map, Array.getElem?_toList, Array.getElem?_modify, List.getElem?_set]
      by_cases hj : i = j
      ·subst hj
       have : i < es.size := (Array.getElem?_eq_some_iff.1 he').1
       simp [he', this]
      ·simp [hj]
     rw [e2] at this
     exact hn undef (h.setm b (l.set i (.int q.1 q.2, ev f (px x)))) _ rfl this hk
   ·cases hp
  ·cases hp
 case h_8 s d x hop => -- string to bytes
  split at hp
  ·rename_i e hs hd
   split at hp
   ·rename_i he
    simp only [Option.some.injEq] at hp; subst hp
    obtain ⟨s, hs', hk⟩ := hK
    obtain ⟨s', hs'', rfl⟩ := asS_some hs'
    have hk := hk w.heap.size r.fresh.1 r.fresh.2
    let cap := (Question.appendCap s'.size 0 e).cut (w.tape w.drawn (.appendCap s'.size 0 e))
    have hcap : s'.size ≤ cap := by simp only [cap, Question.cut]; omega
    let cells : Array Value := (s'.data.map fun b => (.int .u8 b.toNat : Value)) ++ Array.replicate (cap - s'.size) (.int .u8 0)
    have hcs : cells.size = cap := by
     simp only [cells, Array.size_append, Array.size_map, Array.size_replicate]
     have : s'.data.size = s'.size := rfl
     omega
    have hpre : u8s (bl s') <+: cells.toList := by
     refine ⟨List.replicate (cap - s'.size) (.int .u8 0), ?_⟩
     simp [cells, u8s, bl]
    have hrun : (Conv.stringToBytes e s').run P w = .ok (sl w.heap.size 0 s'.size cap) { w with heap := w.heap.push (.cells cells e (cap, cap + 1)), drawn := w.drawn + 1 } := by
     unfold Conv.stringToBytes
     simp only [Sem.run_bind, run_choose, Question.forced, Bool.false_eq_true, if_false, Result.andThen_ok, newRow, run_newObj, Sem.run_pure, markStringish, run_shape]
     have hsh : ({ w with heap := w.heap.push (.cells cells e (0, 0)), drawn := w.drawn + 1 } : World).shape? w.heap.size = some (e, cap) := by
      simp [World.shape?, hcs]
     have hgoal : (World.shape? _ w.heap.size) = some (e, cap) := hsh
     simp only [cells, cap] at hsh ⊢
     rw [hsh]
     simp only [run_freeze, Result.andThen_ok, Sem.run_pure, World.freeze]
     simp only [Nat.one_ne_zero, if_false]
     rw [modify_push]
     simp
    simp only [execOp, hop, hρ, hs'', convert, Sem.run_bind, run_underlying hs, run_underlying hd, run_underlying he, Result.andThen_ok, hrun, Sem.run_pure, Oper.upon_value]
    have r' := (r.push cells e (cap, cap + 1) (fun i hi => by omega) (u8s (bl s')) hpre).drew
    rw [hcs] at r'
    exact hn _ (h.set w.heap.size ⟨u8s (bl s'), cap⟩) _ rfl r' (hk cap hcap)
   ·cases hp
  ·cases hp
 case h_9 c hop =>
  split at hp
  ·rename_i s x t u ts hcal hargs htys -- append
   have ha : c.args = #[s, x] := by rw [← Array.toList_inj, hargs]
   have ht : c.argTypes[0]? = some t := by rw [← Array.getElem?_toList, htys]; rfl
   have hu' : c.argTypes[1]? = some u := by rw [← Array.getElem?_toList, htys]; rfl
   obtain ⟨kc, hr⟩ := resolve_builtin (ρ := a.eval) o.type hcal
   rw [ha] at hr
   have fin : ∀ (e : TypeId) (i : TypeInfo) (z : Value) (du : TypeDesc), P.underlying t = some (.slice e) → P.underlying u = some du → (∀ k, du ≠ .int k) → P.info? e = some i → i.zero = some z → i.size ≠ 0 → i.bytes ≠ 0 → z.cells.size = i.size →
     oo = .app i.size i.bytes (px s) (px x) → o.upon P a next Q ((execOp a.eval o).run P w) := by
    intro e i z du hte hue hni hi hz hs0 hb0 hzs hoo
    subst hoo
    obtain ⟨p, hp, q, hq, hbound, hone, hql, hk⟩ := hK
    obtain ⟨base, sLen, sCap⟩ := p
    obtain ⟨n, news⟩ := q
    simp only at hbound hone hql hk
    have hsx := asL_some hp
    simp only at hsx
    have hsrc : ∀ w', Has h w' → (Builtin.lenOf (ev f (px x))).run P w' = .ok n w' ∧ (Builtin.firstCells i.size n (ev f (px x))).run P w' = .ok news.toArray w' := fun w' hw => run_srcOf (P := P) hw hq
    have hzeros : (match du with | .int _ => true | _ => false) = false := by cases du <;> first | rfl | exact absurd rfl (hni _)
    have hb1 : (sLen + n) * i.bytes ≤ 140737488355328 := by omega
    have head : ∀ (v : Value) (W : World), (Builtin.append_ c.argTypes o.type #[a.eval s, a.eval x]).run P w = .ok v W → (execOp a.eval o).run P w = .ok (.value v) W := by
     intro v W hres
     simp only [execOp, hop, Sem.run_bind, hr, Sem.run_pure, Result.andThen_ok, invoke, builtin, List.map_toArray, List.map_cons, List.map_nil, hres]
    have e0 : (#[Value.slice base sLen sCap, ev f (px x)] : Array Value)[0]? = some (.slice base sLen sCap) := rfl
    have e1 : (#[Value.slice base sLen sCap, ev f (px x)] : Array Value)[1]? = some (ev f (px x)) := rfl
    have hinPlace : ∀ (W : World), sLen + n ≤ sCap → (match base with | some b => (storeCells (b.add (sLen * i.size)) news : Sem Unit) | none => pure ()).run P w = .ok () W →
      (Builtin.append_ c.argTypes o.type #[a.eval s, a.eval x]).run P w = .ok (.slice base (sLen + n) sCap) W := by
     intro W hle hst
     unfold Builtin.append_
     simp only [ht, hu', hρ, hsx, e0, e1, Sem.run_bind, run_underlying hte, run_underlying hue, Result.andThen_ok, run_sizeOf' hi, Sem.run_pure, hzeros, Bool.false_eq_true, if_false, (hsrc w r.has).1, hle, if_true, Bool.not_false, (hsrc w r.has).2]
     cases base with
     | none => simp only [Sem.run_pure] at hst ⊢; injection hst with _ h2; subst h2; rfl
     | some b => simp only at hst ⊢; simp only [Sem.run_bind, hst, Result.andThen_ok, Sem.run_pure]
    have hgrow : ∀ (olds : List Value), ¬ sLen + n ≤ sCap → olds.length = sLen * i.size → (∀ w', Has h w' → (Builtin.firstCells i.size sLen (.slice base sLen sCap)).run P w' = .ok olds.toArray w') →
      ∃ cap, sLen + n ≤ cap ∧ ∃ cs : Array Value, cs.size = cap * i.size ∧ (olds ++ news) <+: cs.toList ∧
      (Builtin.append_ c.argTypes o.type #[a.eval s, a.eval x]).run P w = .ok (sl w.heap.size 0 (sLen + n) cap) { w with heap := w.heap.push (.cells cs e (0, 0)), drawn := w.drawn + 1 } := by
     intro olds hle hol hof
     let cap := (Question.appendCap (sLen + n) sCap e).cut (w.tape w.drawn (.appendCap (sLen + n) sCap e))
     have hcap : sLen + n ≤ cap := by simp only [cap, Question.cut]; omega
     have h63 : ¬ (((sLen + n : Nat) : Int) > IntKind.i64.max ∧ (False ∨ i.bytes = 0)) := by simp [hb0]
     have h48 : ¬ (Builtin.nextslicecap (sLen + n) sCap * i.bytes > 2 ^ 48) := by
      have := growslice_fits (need := sLen + n) (old := sCap) (bytes := i.bytes) (by omega) hb1
      omega
     have hdrew : Has h { w with drawn := w.drawn + 1 } := r.drew.has
     refine ⟨cap, hcap, olds.toArray ++ news.toArray ++ Builtin.zeroCells z.cells (cap - (sLen + n)), ?_, ?_, ?_⟩
     ·simp only [Array.size_append, zeroCells_size, List.size_toArray, hol, hql, hzs]
      rw [← Nat.add_mul, ← Nat.add_mul]; congr 1; omega
     ·simp
     ·unfold Builtin.append_
      simp only [ht, hu', hρ, hsx, e0, e1, Sem.run_bind, run_underlying hte, run_underlying hue, Result.andThen_ok, run_sizeOf' hi, Sem.run_pure, hzeros, Bool.false_eq_true, if_false, (hsrc w r.has).1, hle, h63, run_typeInfo' hi, h48, Bool.not_false, if_true, run_choose, Question.forced, run_askRoom, hof _ hdrew, (hsrc _ hdrew).2, run_zeroValue' hi hz, Go.newRow, run_newObj]
      rfl
    by_cases hle : sLen + n ≤ sCap
    ·cases base with
     | none =>
      simp only at hk
      obtain ⟨h0, hk⟩ := hk
      simp only [Prod.mk.injEq] at h0
      obtain ⟨rfl, rfl⟩ := h0
      have hn0 : n = 0 := by omega
      subst hn0
      simp only [if_true] at hk
      rw [head _ w (hinPlace w hle (by simp)), Oper.upon_value]
      exact hn nils h w rfl r hk
     | some b =>
      obtain ⟨blk, off, spot⟩ := b
      cases spot with
      | some sp => simp only at hk
      | none =>
       simp only at hk
       obtain ⟨rfl, hb, ob, hob, hl2, hk⟩ := hk
       have hmul : (sLen + n) * i.size ≤ sCap * i.size := Nat.mul_le_mul_right _ hle
       have hadd : (sLen + n) * i.size = sLen * i.size + n * i.size := Nat.add_mul _ _ _
       rcases hk with ⟨hl1, hk⟩ | ⟨-, hl3, hk⟩
       rotate_left
       ·obtain ⟨W, h1, h2⟩ := Rel.setN (P := P) news (0 + sLen * i.size) 0 w h ob r hob hb (by omega) (by omega) hone
        have h1' : (match (some ⟨blk, 0, none⟩ : Option Addr) with | some b => (storeCells (b.add (sLen * i.size)) news : Sem Unit) | none => pure ()).run P w = .ok () W := by
         simp only [addr_add]; exact h1
        rw [head _ W (hinPlace W hle h1'), Oper.upon_value]
        rw [show 0 + sLen * i.size + 0 = sLen * i.size by omega] at h2
        exact hn _ (h.set blk ⟨splice ob.cells (sLen * i.size) news, ob.size⟩) W rfl h2 hk
       obtain ⟨W, h1, h2⟩ := Rel.setN (P := P) news (0 + sLen * i.size) 0 w h ob r hob hb (by omega) (by omega) hone
       have h1' : (match (some ⟨blk, 0, none⟩ : Option Addr) with | some b => (storeCells (b.add (sLen * i.size)) news : Sem Unit) | none => pure ()).run P w = .ok () W := by
        simp only [addr_add]; exact h1
       rw [head _ W (hinPlace W hle h1'), Oper.upon_value]
       have hsp : splice ob.cells (0 + sLen * i.size + 0) news = ob.cells ++ news := by
        unfold splice
        rw [show 0 + sLen * i.size + 0 = ob.cells.length by omega, List.take_of_length_le (Nat.le_refl _), List.drop_of_length_le (by omega)]; simp
       rw [hsp] at h2
       exact hn _ (h.set blk ⟨ob.cells ++ news, ob.size⟩) W rfl h2 (hk blk sCap ob.size (.inl rfl) hb hle (by omega))
    ·have relPush : ∀ (cap : Nat) (cs : Array Value) (olds : List Value), cs.size = cap * i.size → (olds ++ news) <+: cs.toList →
       Rel w0 (h.set w.heap.size ⟨olds ++ news, cap * i.size⟩) { w with heap := w.heap.push (.cells cs e (0, 0)), drawn := w.drawn + 1 } := by
      intro cap cs olds hcs hpre
      have := (r.push cs e (0, 0) (fun i _ => by simp) (olds ++ news) hpre).drew
      rw [hcs] at this
      exact this
     cases base with
     | none =>
      simp only at hk
      obtain ⟨h0, hk⟩ := hk
      simp only [Prod.mk.injEq] at h0
      obtain ⟨rfl, rfl⟩ := h0
      have hn0 : n ≠ 0 := by omega
      simp only [hn0, if_false] at hk
      obtain ⟨cap, hcap, cs, hcs, hpre, hrun⟩ := hgrow [] hle (by simp) (fun w' _ => by simp [Builtin.firstCells])
      rw [head _ _ hrun, Oper.upon_value]
      simp only [Nat.zero_add, List.nil_append] at *
      exact hn _ (h.set w.heap.size ⟨news, cap * i.size⟩) _ rfl (by simpa using relPush cap cs [] hcs (by simpa using hpre)) (hk w.heap.size r.fresh.1 r.fresh.2 cap hcap)
     | some b =>
      obtain ⟨blk, off, spot⟩ := b
      cases spot with
      | some sp => simp only at hk
      | none =>
       simp only at hk
       obtain ⟨rfl, hb, ob, hob, hl2, hk⟩ := hk
       rcases hk with ⟨hl1, hk⟩ | ⟨hl3, -, -⟩
       rotate_left
       ·exact absurd hl3 hle
       have hld : ldc h blk 0 (sLen * i.size) = some ob.cells := by
        unfold ldc; rw [hob]; simp [hl1]
       obtain ⟨cap, hcap, cs, hcs, hpre, hrun⟩ := hgrow ob.cells hle hl1.symm (fun w' hw => by simp only [Builtin.firstCells]; exact run_ldc hw hld)
       rw [head _ _ hrun, Oper.upon_value]
       exact hn _ (h.set w.heap.size ⟨ob.cells ++ news, cap * i.size⟩) _ rfl (relPush cap cs ob.cells hcs hpre) (hk w.heap.size cap (cap * i.size) (.inr r.fresh.2) r.fresh.1 hcap (Nat.le_refl _))
   split at hp
   ·rename_i e e' hte hue
    simp only [Option.bind_eq_some_iff] at hp
    obtain ⟨i, hi, z, hz, hp⟩ := hp
    split at hp
    ·cases hp
    ·rename_i hc
     have hc : i.size ≠ 0 ∧ i.bytes ≠ 0 ∧ z.cells.size = i.size := by omega
     exact fin e i z _ hte hue (by simp) hi hz hc.1 hc.2.1 hc.2.2 (Option.some.inj hp).symm
   ·rename_i e hte hue
    simp only [Option.bind_eq_some_iff] at hp
    obtain ⟨i, hi, z, hz, hp⟩ := hp
    split at hp
    ·rename_i hc
     refine fin e i z _ hte hue (by simp) hi hz (by omega) (by omega) (by omega) ?_
     rw [hc.1, hc.2.1]; exact (Option.some.inj hp).symm
    ·cases hp
   ·cases hp
  ·rename_i d s t u ts hcal hargs htys -- copy
   have ha : c.args = #[d, s] := by rw [← Array.toList_inj, hargs]
   have ht : c.argTypes[0]? = some t := by rw [← Array.getElem?_toList, htys]; rfl
   obtain ⟨kc, hr⟩ := resolve_builtin (ρ := a.eval) o.type hcal
   rw [ha] at hr
   have fin : ∀ (e : TypeId) (i : TypeInfo), P.underlying t = some (.slice e) → P.info? e = some i → oo = .cpy i.size (px d) (px s) → o.upon P a next Q ((execOp a.eval o).run P w) := by
    intro e i hte hi hoo
    subst hoo
    obtain ⟨p, hp, q, hq, hql, hk⟩ := hK
    obtain ⟨base, dLen, dCap⟩ := p
    obtain ⟨n, cs⟩ := q
    have hsx := asL_some hp
    simp only at hsx hql hk
    obtain ⟨hlen, _⟩ := run_srcOf (P := P) r.has hq
    have hfirst := run_srcOf_take (P := P) r.has hq hql (m := Nat.min n dLen) (Nat.min_le_left _ _)
    have e0 : (#[Value.slice base dLen dCap, ev f (px s)] : Array Value)[0]? = some (.slice base dLen dCap) := rfl
    have e1 : (#[Value.slice base dLen dCap, ev f (px s)] : Array Value)[1]? = some (ev f (px s)) := rfl
    have hrun : ∀ W, (match base with | some b => (storeCells b (cs.take (Nat.min n dLen * i.size)) : Sem Unit) | none => pure ()).run P w = .ok () W →
      (execOp a.eval o).run P w = .ok (.value (i64 (Nat.min n dLen : Nat))) W := by
     intro W hst
     have : (Builtin.copy_ c.argTypes o.type #[a.eval d, a.eval s]).run P w = .ok (i64 (Nat.min n dLen : Nat)) W := by
      unfold Builtin.copy_
      simp only [ht, hρ, hsx, e0, e1, Sem.run_bind, run_underlying hte, Result.andThen_ok, hlen, run_sizeOf' hi, hfirst, Sem.run_pure]
      cases base with
      | none => simp only [Sem.run_pure] at hst ⊢; injection hst with _ h2; subst h2; rfl
      | some b => simp only at hst ⊢; simp only [Sem.run_bind, hst, Result.andThen_ok, Sem.run_pure]; rfl
     simp only [execOp, hop, Sem.run_bind, hr, Sem.run_pure, Result.andThen_ok, invoke, builtin, List.map_toArray, List.map_cons, List.map_nil, this]
    cases base with
    | none =>
     rw [hrun w (by simp), Oper.upon_value]
     exact hn _ h w rfl r hk
    | some b =>
     obtain ⟨blk, off, spot⟩ := b
     cases spot with
     | some sp => simp only at hk
     | none =>
      simp only at hk
      obtain ⟨hb, h', hst, hk⟩ := hk
      simp only [stc, Option.bind_eq_some_iff] at hst
      obtain ⟨ob, hob, hst⟩ := hst
      split at hst
      ·rename_i hc
       simp only [Option.some.injEq] at hst; subst hst
       have hsz : ob.cells.length ≤ ob.size := by
        obtain ⟨c, T, fz, g1, ⟨t', g2⟩, g3⟩ := r.obs blk ob hob
        rw [← (g3 hb).1, ← Array.length_toList, ← g2]; simp
       obtain ⟨W, h1, h2⟩ := Rel.setN (P := P) (cs.take (Nat.min n dLen * i.size)) off 0 w h ob r hob hb (by omega) (by omega) hc.2.2
       rw [hrun W h1, Oper.upon_value]
       exact hn _ (h.set blk ⟨splice ob.cells off (cs.take (Nat.min n dLen * i.size)), ob.size⟩) W rfl (by simpa using h2) hk
      ·cases hst
   split at hp
   ·rename_i e e' hte hue
    simp only [Option.bind_eq_some_iff, Option.some.injEq] at hp
    obtain ⟨i, hi, hp⟩ := hp
    exact fin e i hte hi hp.symm
   ·rename_i e hte hue
    simp only [Option.bind_eq_some_iff] at hp
    obtain ⟨i, hi, hp⟩ := hp
    split at hp
    ·rename_i hc
     refine fin e i hte hi ?_
     rw [hc]; exact (Option.some.inj hp).symm
    ·cases hp
   ·cases hp
  ·rename_i x t ts hcal hargs htys -- clear
   have ha : c.args = #[x] := by rw [← Array.toList_inj, hargs]
   have ht : c.argTypes[0]? = some t := by rw [← Array.getElem?_toList, htys]; rfl
   obtain ⟨kc, hr⟩ := resolve_builtin (ρ := a.eval) o.type hcal
   rw [ha] at hr
   split at hp
   ·rename_i e hte
    simp only [Option.bind_eq_some_iff] at hp
    obtain ⟨i, hi, z, hz, hp⟩ := hp
    split at hp
    ·cases hp
    ·rename_i hc
     simp only [Option.some.injEq] at hp; subst hp
     obtain ⟨p, hp, hk⟩ := hK
     obtain ⟨base, n, cap⟩ := p
     have hsx := asL_some hp
     simp only at hsx hk
     have e0 : (#[Value.slice base n cap] : Array Value)[0]? = some (.slice base n cap) := rfl
     have head : ∀ (W : World), (Builtin.clear_ c.argTypes o.type #[a.eval x]).run P w = .ok (.tuple #[]) W → (execOp a.eval o).run P w = .ok (.value (.tuple #[])) W := by
      intro W hres
      simp only [execOp, hop, Sem.run_bind, hr, Sem.run_pure, Result.andThen_ok, invoke, builtin, List.map_toArray, List.map_cons, List.map_nil, hres]
     cases base with
     | none =>
      simp only at hk
      rw [head w (by unfold Builtin.clear_; simp [ht, hρ, hsx, run_underlying hte]), Oper.upon_value]
      exact hn _ h w rfl r hk
     | some b =>
      cases n with
      | zero =>
       simp only at hk
       rw [head w (by unfold Builtin.clear_; simp [ht, hρ, hsx, run_underlying hte]), Oper.upon_value]
       exact hn _ h w rfl r hk
      | succ n =>
       obtain ⟨blk, off, spot⟩ := b
       cases spot with
       | some sp => simp only at hk
       | none =>
        simp only at hk
        obtain ⟨hb, h', hst, hk⟩ := hk
        simp only [stc, Option.bind_eq_some_iff] at hst
        obtain ⟨ob, hob, hst⟩ := hst
        split at hst
        ·rename_i hcc
         simp only [Option.some.injEq] at hst; subst hst
         have hsz : ob.cells.length ≤ ob.size := by
          obtain ⟨c, T, fz, g1, ⟨t', g2⟩, g3⟩ := r.obs blk ob hob
          rw [← (g3 hb).1, ← Array.length_toList, ← g2]; simp
         obtain ⟨W, h1, h2⟩ := Rel.setN (P := P) (List.replicate (n + 1) z.cells.toList).flatten off 0 w h ob r hob hb (by omega) (by omega) hcc.2.2
         have hzc : (Builtin.zeroCells z.cells (n + 1)).toList = (List.replicate (n + 1) z.cells.toList).flatten := by
          have hne : z.cells.toList ≠ [] := by
           intro h0; have : z.cells.size = 0 := by rw [← Array.length_toList, h0]; rfl
           omega
          have := range_zero z.cells.toList (n + 1) hne
          simp only [Array.length_toList] at this
          unfold Builtin.zeroCells
          rw [show z.cells.toList.toArray = z.cells from by simp] at this
          rw [this]
         have hrun : (Builtin.clear_ c.argTypes o.type #[a.eval x]).run P w = .ok (.tuple #[]) W := by
          unfold Builtin.clear_
          simp only [ht, hρ, hsx, e0, Sem.run_bind, run_underlying hte, Result.andThen_ok, run_zeroValue' hi hz, hzc, h1, Sem.run_pure]
         rw [head W hrun, Oper.upon_value]
         exact hn _ (h.set blk ⟨splice ob.cells off (List.replicate (n + 1) z.cells.toList).flatten, ob.size⟩) W rfl (by simpa using h2) hk
        ·cases hst
   ·cases hp
  ·rename_i fo hcal -- call
   simp only [Option.some.injEq] at hp; subst hp
   obtain ⟨p, hp, hk⟩ := hK
   obtain ⟨n, fa, fb⟩ := p
   obtain ⟨⟨fn, hfn, hname, hbody⟩, hcalls⟩ := hk
   have hr := resolve_value (ρ := a.eval) (c := c) o.type hcal (by rw [hρ]; exact hp)
   have hargs' : fa.toArray ++ Array.map a.eval c.args ++ fb.toArray = (fa ++ List.map (ev f) (List.map px c.args.toList) ++ fb).toArray := by
    rw [← Array.toList_inj]; simp [hmap]
   have hrun : (execOp a.eval o).run P w = .ok (.enter n (fa ++ List.map (ev f) (List.map px c.args.toList) ++ fb).toArray) w := by
    simp only [execOp, hop, Sem.run_bind, hr, Sem.run_pure, Result.andThen_ok, invoke, callFunc, run_program, hfn, hname, hbody, Bool.false_eq_true, if_false, hargs']
   rw [hrun, Oper.upon_enter]
   refine (hcalls w0 w r).mono ?_
   rintro e w' ⟨v, h', rfl, hb, hr', hk'⟩
   exact hn v h' w' hb hr' hk'
  ·cases hp
 case h_10 => cases hp
end
end Go.KH