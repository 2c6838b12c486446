/- A helper of this seat's claims (the logic of the walks): what it shows is shown for every input that its statements name, on no other condition. -/
import Derived.Test.YtpponffjeilhmaaK0
import Derived.ChangeKeysEq
set_option linter.unusedVariables false
set_option linter.unusedSimpArgs false
namespace Go.KH
open Go.RowKit

/-! ## Pure operations: what they come to -/
/-- A string out of its bytes. -/
def str (l : List UInt8) : Value := .string ⟨l.toArray⟩
def bl (s : ByteArray) : List UInt8 := s.data.toList
theorem str_bl (s : ByteArray) : str (bl s) = .string s := by simp [str, bl]
@[simp] theorem bl_mk (l : List UInt8) : bl ⟨l.toArray⟩ = l := by simp [bl]

def asB : Value → Option Bool | .bool t => some t | _ => none
def asI : Value → Option (IntKind × Int) | .int k n => some (k, n) | _ => none
def asP : Value → Option (Nat × Nat) | .pointer (some ⟨b, o, none⟩) => some (b, o) | _ => none
def asS : Value → Option (List UInt8) | .string s => some (bl s) | _ => none
def asA : Value → Option (List Value) | .agg cs => some cs.toList | _ => none
def asT : Value → Option (List Value) | .tuple cs => some cs.toList | _ => none
def asL : Value → Option (Option Addr × Nat × Nat) | .slice a n c => some (a, n, c) | _ => none
/-- A slice whose cells are somewhere. -/
def asR : Value → Option (Nat × Nat × Nat) | .slice (some ⟨b, o, none⟩) n _ => some (b, o, n) | .slice _ 0 _ => some (0, 0, 0) | _ => none
@[simp] theorem asB_mk (t : Bool) : asB (.bool t) = some t := rfl
@[simp] theorem asI_mk (k : IntKind) (n : Int) : asI (.int k n) = some (k, n) := rfl
@[simp] theorem asP_mk (b o : Nat) : asP (ptr b o) = some (b, o) := rfl
@[simp] theorem asS_mk (l : List UInt8) : asS (str l) = some l := by simp [asS, str]
@[simp] theorem asA_mk (l : List Value) : asA (.agg l.toArray) = some l := by simp [asA]
@[simp] theorem asT_mk (l : List Value) : asT (.tuple l.toArray) = some l := by simp [asT]
@[simp] theorem asL_mk (a : Option Addr) (n c : Nat) : asL (.slice a n c) = some (a, n, c) := rfl
@[simp] theorem asR_mk (b o n c : Nat) : asR (sl b o n c) = some (b, o, n) := rfl

/-- The kind of a plain cell. -/
inductive LK where
  | i | s | b

inductive PO where
  | mv (x : X)
  | pick (c a b : X)
  | ld (agg : Bool) (n : Nat) (x : X)
  | fld (off : Nat) (x : X)
  | idx (w : Nat) (x i : X)
  | aidx (len w : Nat) (x i : X)
  | ix (agg : Bool) (len w : Nat) (x i : X)
  | bin (op : BinOp) (x y : X)
  | eqb (neg : Bool) (x y : X)
  | eqs (neg : Bool) (x y : X)
  | eqa (neg : Bool) (pl : List LK) (x y : X)
  | un (op : UnOp) (x : X)
  | cv (k : IntKind) (x : X)
  | sidx (x i : X)
  | ssl (x : X) (lo hi : Option X)
  | lsl (w : Nat) (x : X) (lo hi : Option X)
  | len (x : X)
  | slen (x : X)
  | alen (n : Nat)
  | part (agg : Bool) (off n : Nat) (x : X)
  | ext (k : Nat) (x : X)
  | build (z : List Value) (ps : List (Nat × Nat × X))
  | mkf (fn : Nat) (caps : List X)
  | mn (x y : X)
  | mx (x y : X)
  | b2s (x : X)
  | nck (x : X)
  | lsl3 (w : Nat) (x : X) (lo hi mx : X)
  | mlk (z : Value) (x k : X)
  | mln (x : X)

def ibin (op : BinOp) (k : IntKind) (a b : Int) : Option Value :=
  match op with
  | .add => some (.int k (k.wrap (a + b)))
  | .sub => some (.int k (k.wrap (a - b)))
  | .mul => some (.int k (k.wrap (a * b)))
  | .quo => if b = 0 then none else some (.int k (k.wrap (a.tdiv b)))
  | .rem => if b = 0 then none else some (.int k (a.tmod b))
  | .and => some (.int k (k.wrap (BitVec.ofInt k.bits a &&& BitVec.ofInt k.bits b).toNat))
  | .or => some (.int k (k.wrap (BitVec.ofInt k.bits a ||| BitVec.ofInt k.bits b).toNat))
  | .xor => some (.int k (k.wrap (BitVec.ofInt k.bits a ^^^ BitVec.ofInt k.bits b).toNat))
  | .andNot => some (.int k (k.wrap (BitVec.ofInt k.bits a &&& ~~~(BitVec.ofInt k.bits b)).toNat))
  | .eql => some (.bool (decide (a = b)))
  | .neq => some (.bool (decide (¬ a = b)))
  | .lss => some (.bool (decide (a < b)))
  | .leq => some (.bool (decide (a ≤ b)))
  | .gtr => some (.bool (decide (b < a)))
  | .geq => some (.bool (decide (b ≤ a)))
  | _ => none

def shiftv (op : BinOp) (k : IntKind) (a b : Int) : Option Value :=
  if b < 0 then none else match op with
  | .shl => some (.int k (k.wrap (a * 2 ^ (min b.toNat k.bits))))
  | .shr => some (.int k (a.fdiv (2 ^ (min b.toNat k.bits))))
  | _ => none

def sbin (op : BinOp) (a b : List UInt8) : Option Value :=
  match op with
  | .add => if a.length + b.length ≤ 4611686018427387904 then some (str (a ++ b)) else none
  | .eql => some (.bool (decide (a = b)))
  | .neq => some (.bool (decide (¬ a = b)))
  | _ => none

def obin : BinOp → Value → Value → Option Value
  | .shl, .int k a, .int _ b => shiftv .shl k a b
  | .shr, .int k a, .int _ b => shiftv .shr k a b
  | op, .int k a, .int k' b => if k = k' then ibin op k a b else none
  | op, .string a, .string b => sbin op (bl a) (bl b)
  | _, _, _ => none

/-- '==' of slices with nil. -/
def oeqs : Value → Value → Option Bool
  | .slice none _ _, .slice b _ _ => some b.isNone
  | .slice (some _) _ _, .slice none _ _ => some false
  | _, _ => none

def leafEq : LK → Value → Value → Option Bool
  | .i, .int k a, .int k' b => if k = k' then some (decide (a = b)) else none
  | .s, .string a, .string b => some (decide (bl a = bl b))
  | .b, .bool a, .bool b => some (decide (a = b))
  | _, _, _ => none
/-- '==' of structs of plain fields, cell by cell. -/
def cellsEq : List LK → List Value → List Value → Option Bool
  | [], [], [] => some true
  | k :: p, a :: l, b :: m => (leafEq k a b).bind fun t => if t then cellsEq p l m else some false
  | _, _, _ => none
def negv (neg t : Bool) : Value := .bool (if neg then !t else t)

def oun : UnOp → Value → Option Value
  | .not, .bool b => some (.bool (!b))
  | .neg, .int k n => some (.int k (k.wrap (0 - n)))
  | .xor, .int k n => some (.int k (k.wrap (BitVec.ofInt k.bits (if k.signed then -1 else k.max) ^^^ BitVec.ofInt k.bits n).toNat))
  | _, _ => none

def bnd (x : Option Value) (d y : Nat) : Option Nat :=
  match x with
  | none => some d
  | some v => (asI v).bind fun p => if 0 ≤ p.2 ∧ p.2 ≤ y then some p.2.toNat else none

def splice (l : List Value) (o : Nat) (cs : List Value) : List Value := l.take o ++ cs ++ l.drop (o + cs.length)
def fillL : List Value → List (Nat × Nat × Value) → Option (List Value)
  | cells, [] => some cells
  | cells, (off, size, v) :: rest =>
    if v.cells.toList.length = size ∧ off + size ≤ cells.length then fillL (splice cells off v.cells.toList) rest else none

def bytesOf : List Value → Option (List UInt8)
  | [] => some []
  | .int .u8 n :: l => (bytesOf l).map fun r => UInt8.ofNat n.toNat :: r
  | _ :: _ => none

/-- A number among a map's keys: the entry's place and value; nothing where a key is no such number. -/
def mfind (k : IntKind) (n : Int) : List (Value × Value) → Nat → Option (Option (Nat × Value))
  | [], _ => some none
  | (.int k' m, v) :: l, i => if k' = k then (if m = n then some (some (i, v)) else mfind k n l (i + 1)) else none
  | _ :: _, _ => none
def asM : Value → Option Nat | .map (some b) => some b | _ => none
def nckv : Value → Bool | .pointer (some _) => true | .func (.func _) _ _ => true | _ => false
def one : List Value → Option Value | [c] => some c | _ => none

def pval (ρ : X → Value) (h : H) : PO → Option Value
  | .mv x => some (ρ x)
  | .pick c a b => (asB (ρ c)).bind fun t => some (if t then ρ a else ρ b)
  | .ld true n x => (asP (ρ x)).bind fun p => (ldc h p.1 p.2 n).bind fun cs => some (.agg cs.toArray)
  | .ld false _ x => (asP (ρ x)).bind fun p => (ldc h p.1 p.2 1).bind one
  | .fld off x => (asP (ρ x)).bind fun p => some (ptr p.1 (p.2 + off))
  | .idx w x i => (asR (ρ x)).bind fun p => (asI (ρ i)).bind fun q => if 0 ≤ q.2 ∧ q.2 < p.2.2 then some (ptr p.1 (p.2.1 + q.2.toNat * w)) else none
  | .aidx len w x i => (asP (ρ x)).bind fun p => (asI (ρ i)).bind fun q => if 0 ≤ q.2 ∧ q.2 < len then some (ptr p.1 (p.2 + q.2.toNat * w)) else none
  | .ix agg len w x i => (asA (ρ x)).bind fun cs => (asI (ρ i)).bind fun q => if 0 ≤ q.2 ∧ q.2 < len then (if agg then some (.agg ((cs.drop (q.2.toNat * w)).take w).toArray) else cs[q.2.toNat * w]?) else none
  | .bin op x y => obin op (ρ x) (ρ y)
  | .eqb neg x y => (asB (ρ x)).bind fun a => (asB (ρ y)).bind fun b => some (negv neg (decide (a = b)))
  | .eqs neg x y => (oeqs (ρ x) (ρ y)).bind fun t => some (negv neg t)
  | .eqa neg pl x y => (asA (ρ x)).bind fun a => (asA (ρ y)).bind fun b => if a.length = pl.length ∧ b.length = pl.length ∧ (a ++ b).all Value.oneCell' then (cellsEq pl a b).bind fun t => some (negv neg t) else none
  | .un op x => oun op (ρ x)
  | .cv k x => (asI (ρ x)).bind fun q => some (.int k (k.wrap q.2))
  | .sidx x i => (asS (ρ x)).bind fun s => (asI (ρ i)).bind fun q => if 0 ≤ q.2 then (s[q.2.toNat]?).bind fun b => some (.int .u8 b.toNat) else none
  | .ssl x lo hi => (asS (ρ x)).bind fun s => (bnd (hi.map ρ) s.length s.length).bind fun hh => (bnd (lo.map ρ) 0 hh).bind fun l => some (str ((s.take hh).drop l))
  | .lsl w x lo hi => (asL (ρ x)).bind fun p => (bnd (hi.map ρ) p.2.1 p.2.2).bind fun hh => (bnd (lo.map ρ) 0 hh).bind fun l =>
      some (.slice (if p.2.2 = l then p.1 else p.1.map (·.add (l * w))) (hh - l) (p.2.2 - l))
  | .len x => (asL (ρ x)).bind fun p => some (.int .i64 p.2.1)
  | .slen x => (asS (ρ x)).bind fun s => some (.int .i64 s.length)
  | .alen n => some (.int .i64 n)
  | .part agg off n x => (asA (ρ x)).bind fun cs => if agg then some (.agg ((cs.drop off).take n).toArray) else cs[off]?
  | .ext k x => (asT (ρ x)).bind fun cs => cs[k]?
  | .build z ps => (fillL z (ps.map fun p => (p.1, p.2.1, ρ p.2.2))).bind fun cs => some (.agg cs.toArray)
  | .mkf fn caps => some (.func (.func fn) #[] (caps.map ρ).toArray)
  | .mn x y => (asI (ρ x)).bind fun a => (asI (ρ y)).bind fun b => some (.int a.1 (if b.2 < a.2 then b.2 else a.2))
  | .mx x y => (asI (ρ x)).bind fun a => (asI (ρ y)).bind fun b => some (.int a.1 (if b.2 > a.2 then b.2 else a.2))
  | .b2s x => (asR (ρ x)).bind fun p => if p.2.2 = 0 then some (str []) else (ldc h p.1 p.2.1 p.2.2).bind fun cs => (bytesOf cs).bind fun r => some (str r)
  | .nck x => if nckv (ρ x) then some (ρ x) else none
  | .lsl3 w x lo hi mx => (asL (ρ x)).bind fun p => (bnd (some (ρ mx)) 0 p.2.2).bind fun m => (bnd (some (ρ hi)) 0 m).bind fun hh => (bnd (some (ρ lo)) 0 hh).bind fun l =>
      some (.slice (if m = l then p.1 else p.1.map (·.add (l * w))) (hh - l) (m - l))
  | .mlk z x k => (asM (ρ x)).bind fun b => (h.mp b).bind fun l => (asI (ρ k)).bind fun q => (mfind q.1 q.2 l 0).bind fun r => some (match r with | some (_, v) => v | none => z)
  | .mln x => (asM (ρ x)).bind fun b => (h.mp b).bind fun l => some (.int .i64 l.length)

/-! ## Getting them out of the program -/
def isAggD : TypeDesc → Bool | .struct _ | .array _ _ => true | _ => false

def eqFields (P : Program) (g : TypeId → Option (List LK)) : List Field → Nat → Option (List LK)
  | [], _ => some []
  | f :: fs, off => if f.name ≠ "_" ∧ f.offset = off ∧ (P.info? f.type).isSome then (g f.type).bind fun m => (eqFields P g fs (off + m.length)).map (m ++ ·) else none
/-- A struct (or what it holds) of plain fields, one behind the other: the kinds of its cells. -/
def flatEq (P : Program) : Nat → TypeId → Option (List LK)
  | 0, _ => none
  | d + 1, t =>
    match P.underlying t with
    | some (.int _) => if P.cellsOf t = 1 then some [.i] else none
    | some .string => if P.cellsOf t = 1 then some [.s] else none
    | some .bool => if P.cellsOf t = 1 then some [.b] else none
    | some (.struct fs) => if P.stoodInHeld t then none else (eqFields P (flatEq P d) fs.toList 0).bind fun pl => if P.cellsOf t = pl.length then some pl else none
    | _ => none

def prepP (P : Program) (o : Oper) : Option PO :=
  match o.op with
  | .move x | .assign x => some (.mv (px x))
  | .pick c a b => some (.pick (px c) (px a) (px b))
  | .load t x => (P.underlying t).bind fun d => (P.info? t).bind fun i => some (.ld (isAggD d) (if isAggD d then i.size else 1) (px x))
  | .fieldAddr s x f =>
    match P.underlying s with
    | some (.struct fs) => (fs[f]?).bind fun fd => (P.info? fd.type).bind fun i => if i.size = 0 then none else some (.fld fd.offset (px x))
    | _ => none
  | .field s x f =>
    match P.underlying s with
    | some (.struct fs) => (fs[f]?).bind fun fd => (P.info? fd.type).bind fun i => (P.underlying fd.type).bind fun d => some (.part (isAggD d) fd.offset i.size (px x))
    | _ => none
  | .indexAddr t x i =>
    match P.underlying t with
    | some (.slice e) => (P.info? e).bind fun j => some (.idx j.size (px x) (px i))
    | some (.array n e) => (P.info? e).bind fun j => some (.aidx n j.size (px x) (px i))
    | _ => none
  | .index t x i =>
    match P.underlying t with
    | some .string => some (.sidx (px x) (px i))
    | some (.array n e) => (P.info? e).bind fun j => (P.underlying e).bind fun d => some (.ix (isAggD d) n j.size (px x) (px i))
    | _ => none
  | .binOp op t x y _ =>
    match P.underlying t with
    | some (.int _) | some .string => some (.bin op (px x) (px y))
    | some .bool => (match op with | .eql => some (.eqb false (px x) (px y)) | .neq => some (.eqb true (px x) (px y)) | _ => none)
    | some (.slice _) => (match op with | .eql => some (.eqs false (px x) (px y)) | .neq => some (.eqs true (px x) (px y)) | _ => none)
    | some (.struct _) => if P.eqGuardType P.depth t then none else (flatEq P 10 t).bind fun pl =>
        (match op with | .eql => some (.eqa false pl (px x) (px y)) | .neq => some (.eqa true pl (px x) (px y)) | _ => none)
    | _ => none
  | .unOp op _ x => some (.un op (px x))
  | .convert s d x =>
    match P.underlying s, P.underlying d with
    | some (.int _), some (.int k) => some (.cv k (px x))
    | some (.slice e), some .string => (match P.underlying e with | some (.int .u8) => some (.b2s (px x)) | _ => none)
    | _, _ => none
  | .slice t x lo hi none =>
    match P.underlying t with
    | some .string => some (.ssl (px x) (lo.map px) (hi.map px))
    | some (.slice e) => (P.info? e).bind fun j => some (.lsl j.size (px x) (lo.map px) (hi.map px))
    | _ => none
  | .slice t x (some lo) (some hi) (some mx) =>
    match P.underlying t with
    | some (.slice e) => (P.info? e).bind fun j => some (.lsl3 j.size (px x) (px lo) (px hi) (px mx))
    | _ => none
  | .lookup t x i false =>
    match P.underlying t with
    | some (.map k e) => (match P.underlying k with | some (.int _) => (P.info? e).bind fun i' => i'.zero.bind fun z => some (.mlk z (px x) (px i)) | _ => none)
    | _ => none
  | .extract x k => some (.ext k (px x))
  | .makeFunc (.func f) first caps => if first.isEmpty then some (.mkf f (caps.toList.map px)) else none
  | .build t parts =>
    match P.underlying t, (P.info? t).bind (·.zero) with
    | some (.struct fs), some z =>
      (parts.toList.mapM fun (p : Nat × Operand) => (fs[p.1]?).bind fun fd => (P.info? fd.type).map fun i => (fd.offset, i.size, px p.2)).bind fun ps =>
        if fs.toList.all fun fd => (P.info? fd.type).isSome then some (.build z.cells.toList ps) else none
    | some (.array _ e), some z => (P.info? e).bind fun i => some (.build z.cells.toList (parts.toList.map fun (p : Nat × Operand) => (p.1 * i.size, i.size, px p.2)))
    | _, _ => none
  | .call c =>
    match c.callee, c.args.toList, c.argTypes.toList with
    | .builtin .len, [x], t :: _ =>
      (match P.underlying t with
      | some .string => some (.slen (px x))
      | some (.slice _) => some (.len (px x))
      | some (.array n _) => some (.alen n)
      | some (.map _ _) => some (.mln (px x))
      | _ => none)
    | .builtin .min, [x, y], _ => some (.mn (px x) (px y))
    | .builtin .max, [x, y], _ => some (.mx (px x) (px y))
    | _, _, _ => none
  | .nilCheck x => some (.nck (px x))
  | _ => none
end Go.KH
