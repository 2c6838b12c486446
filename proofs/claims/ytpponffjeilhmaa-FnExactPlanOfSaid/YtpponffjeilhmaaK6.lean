/- A helper of this seat's claims (the logic of the walks): what it shows is shown for every input that its statements name, on no other condition. -/
import Derived.Test.YtpponffjeilhmaaK5
import Derived.Laws.CopyRow
set_option linter.unusedVariables false
set_option linter.unusedSimpArgs false
namespace Go.KH
open Go.RowKit

/-! ## Operations that make or write memory, and calls -/
inductive O where
  | p (o : PO)
  | box (x : X)
  | alloc (z : List Value)
  | bsl (n : Nat) (z : List Value) (ps : List (Nat × Nat × X))
  | st (n : Nat) (a x : X)
  | app (w by_ : Nat) (s x : X)
  | cpy (w : Nat) (d s : X)
  | mks (w by_ : Nat) (z : List Value) (l c : X)
  | s2b (x : X)
  | call (f : X) (args : List X)
  | mkm
  | mup (m k v : X)
  | clr (w : Nat) (z : List Value) (x : X)

/-- A call of function n: a contract. -/
def AC (P : Program) (n : FuncId) (args : List Value) (h : H) (Q : Value → H → Prop) : Prop :=
  (∃ fn, P.funcs[n]? = some fn ∧ (fn.name == "runtime.NumGoroutine") = false ∧ fn.body.isNone = false) ∧
  ∀ w0 w, Rel w0 h w → Calls P n args.toArray w fun e w' => ∃ v h', e = .returned v ∧ h'.base = h.base ∧ Rel w0 h' w' ∧ Q v h'

theorem AC.mono {P : Program} {n : FuncId} {args : List Value} {h : H} {Q Q' : Value → H → Prop} (c : AC P n args h Q) (hq : ∀ v h', h'.base = h.base → Q v h' → Q' v h') : AC P n args h Q' :=
  ⟨c.1, fun w0 w r => (c.2 w0 w r).mono fun e w' ⟨v, h', he, hb, hr, q⟩ => ⟨v, h', he, hb, hr, hq v h' hb q⟩⟩

def u8s (l : List UInt8) : List Value := l.map fun b => .int .u8 b.toNat
/-- What append and copy read. -/
def srcOf (h : H) (w : Nat) : Value → Option (Nat × List Value)
  | .string s => some ((bl s).length, u8s (bl s))
  | .slice _ 0 _ => some (0, [])
  | .slice (some ⟨b, o, none⟩) n _ => (ldc h b o (n * w)).bind fun cs => some (n, cs)
  | _ => none
def stc (h : H) (b o : Nat) (cs : List Value) (n : Nat) : Option H :=
  (h.get b).bind fun ob => if cs.length = n ∧ o + n ≤ ob.cells.length ∧ cs.all Value.oneCell' then some (h.set b ⟨splice ob.cells o cs, ob.size⟩) else none

def asFn : Value → Option (Nat × List Value × List Value) | .func (.func n) a b => some (n, a.toList, b.toList) | _ => none
@[simp] theorem asFn_mk (n : Nat) (a b : List Value) : asFn (.func (.func n) a.toArray b.toArray) = some (n, a, b) := by simp [asFn]
@[simp] theorem asFn_mk0 (n : Nat) : asFn (.func (.func n) #[] #[]) = some (n, [], []) := by simp [asFn]
@[simp] theorem asFn_mk1 (n : Nat) (b : List Value) : asFn (.func (.func n) #[] b.toArray) = some (n, [], b) := by simp [asFn]

def freshM (h : H) (K : Nat → Prop) : Prop := ∀ b, h.base ≤ b → h.get b = none → h.mp b = none → K b
def freshK (h : H) (K : Nat → Prop) : Prop := ∀ b, h.base ≤ b → h.get b = none → K b

/-- The cells of a value. -/
def vcl (v : Value) : List Value := v.cells.toList

def owp (P : Program) (ρ : X → Value) (h : H) (K : Value → H → Prop) : O → Prop
  | .p o => withO (pval ρ h o) fun v => K v h
  | .box x => freshK h fun b => K (ptr b 0) (h.set b ⟨vcl (ρ x), (vcl (ρ x)).length⟩)
  | .alloc z => freshK h fun b => K (ptr b 0) (h.set b ⟨z, z.length⟩)
  | .bsl n z ps => withO (fillL z (ps.map fun p => (p.1, p.2.1, ρ p.2.2))) fun cs => freshK h fun b => K (sl b 0 n n) (h.set b ⟨cs, cs.length⟩)
  | .st n a x => withO (asP (ρ a)) fun p => h.base ≤ p.1 ∧ withO (stc h p.1 p.2 (vcl (ρ x)) n) fun h' => K undef h'
  | .app w by_ s x => withO (asL (ρ s)) fun p => withO (srcOf h w (ρ x)) fun q => (p.2.1 + q.1) * by_ ≤ 70368744177664 ∧ q.2.all Value.oneCell' = true ∧ q.2.length = q.1 * w ∧
      match p.1 with
      | none => p.2 = (0, 0) ∧ if q.1 = 0 then K nils h else freshK h fun b => ∀ c, q.1 ≤ c → K (sl b 0 q.1 c) (h.set b ⟨q.2, c * w⟩)
      | some ⟨b, o, none⟩ => o = 0 ∧ h.base ≤ b ∧ withO (h.get b) fun ob => p.2.2 * w ≤ ob.size ∧
          ((p.2.1 * w = ob.cells.length ∧ ∀ b' c z, (b' = b ∨ h.get b' = none) → h.base ≤ b' → p.2.1 + q.1 ≤ c → c * w ≤ z → K (sl b' 0 (p.2.1 + q.1) c) (h.set b' ⟨ob.cells ++ q.2, z⟩)) ∨
          (p.2.1 + q.1 ≤ p.2.2 ∧ (p.2.1 + q.1) * w ≤ ob.cells.length ∧ K (sl b 0 (p.2.1 + q.1) p.2.2) (h.set b ⟨splice ob.cells (p.2.1 * w) q.2, ob.size⟩)))
      | _ => False
  | .cpy w d s => withO (asL (ρ d)) fun p => withO (srcOf h w (ρ s)) fun q => q.2.length = q.1 * w ∧
      match p.1 with
      | none => K (i64 (Nat.min q.1 p.2.1 : Nat)) h
      | some ⟨b, o, none⟩ => h.base ≤ b ∧ withO (stc h b o (q.2.take (Nat.min q.1 p.2.1 * w)) (Nat.min q.1 p.2.1 * w)) fun h' => K (i64 (Nat.min q.1 p.2.1 : Nat)) h'
      | _ => False
  | .mks w by_ z l c => withO (asI (ρ l)) fun l => withO (asI (ρ c)) fun c => 0 ≤ l.2 ∧ l.2 ≤ c.2 ∧ c.2 < 1099511627776 ∧ by_ * c.2 ≤ 140737488355328 ∧
      freshK h fun b => K (sl b 0 l.2.toNat c.2.toNat) (h.set b ⟨(List.replicate c.2.toNat z).flatten, c.2.toNat * w⟩)
  | .s2b x => withO (asS (ρ x)) fun s => freshK h fun b => ∀ c, s.length ≤ c → K (sl b 0 s.length c) (h.set b ⟨u8s s, c⟩)
  | .call f args => withO (asFn (ρ f)) fun p => AC P p.1 (p.2.1 ++ args.map ρ ++ p.2.2) h K
  | .mkm => freshM h fun b => K (.map (some b)) (h.setm b [])
  | .mup m k v => withO (asM (ρ m)) fun b => withO (h.mp b) fun l => withO (asI (ρ k)) fun q => withO (mfind q.1 q.2 l 0) fun r =>
      K undef (h.setm b (match r with | some (i, _) => l.set i (.int q.1 q.2, ρ v) | none => l ++ [(.int q.1 q.2, ρ v)]))
  | .clr w z x => withO (asL (ρ x)) fun p =>
      match p.1, p.2.1 with
      | none, _ => K (.tuple #[]) h
      | _, 0 => K (.tuple #[]) h
      | some ⟨b, o, none⟩, n => h.base ≤ b ∧ withO (stc h b o (List.replicate n z).flatten (n * w)) fun h' => K (.tuple #[]) h'
      | _, _ => False

def prepO (P : Program) (o : Oper) : Option O :=
  match prepP P o with
  | some po => some (.p po)
  | none =>
  match o.op with
  | .box _ x => some (.box (px x))
  | .alloc t => (P.info? t).bind fun i => i.zero.bind fun z => some (.alloc z.cells.toList)
  | .buildSlice t len parts =>
    match P.underlying t with
    | some (.slice e) => (P.info? e).bind fun i => i.zero.bind fun z =>
        if len * i.size > 16777216 ∨ z.cells.size ≠ i.size ∨ i.size = 0 then none else
        some (.bsl len (List.replicate len z.cells.toList).flatten (parts.toList.map fun (p : Nat × Operand) => (p.1 * i.size, i.size, px p.2)))
    | _ => none
  | .store t a x => (P.info? t).bind fun i => some (.st i.size (px a) (px x))
  | .makeSlice t l c =>
    match P.underlying t with
    | some (.slice e) => (P.info? e).bind fun i => i.zero.bind fun z => if z.cells.size ≠ i.size ∨ i.size = 0 then none else some (.mks i.size i.bytes z.cells.toList (px l) (px c))
    | _ => none
  | .makeMap t none => (match P.underlying t with | some (.map _ _) => some .mkm | _ => none)
  | .mapUpdate t m k x =>
    match P.underlying t with
    | some (.map kt _) => (match P.underlying kt with | some (.int _) => some (.mup (px m) (px k) (px x)) | _ => none)
    | _ => none
  | .convert s d x =>
    match P.underlying s, P.underlying d with
    | some .string, some (.slice e) => (match P.underlying e with | some (.int .u8) => some (.s2b (px x)) | _ => none)
    | _, _ => none
  | .call c =>
    match c.callee, c.args.toList, c.argTypes.toList with
    | .builtin .append, [s, x], t :: u :: _ =>
      (match P.underlying t, P.underlying u with
      | some (.slice e), some (.slice _) => (P.info? e).bind fun i => i.zero.bind fun z => if i.size = 0 ∨ i.bytes = 0 ∨ z.cells.size ≠ i.size then none else some (.app i.size i.bytes (px s) (px x))
      | some (.slice e), some .string => (P.info? e).bind fun i => i.zero.bind fun z => if i.size = 1 ∧ i.bytes = 1 ∧ z.cells.size = 1 then some (.app 1 1 (px s) (px x)) else none
      | _, _ => none)
    | .builtin .copy, [d, s], t :: u :: _ =>
      (match P.underlying t, P.underlying u with
      | some (.slice e), some (.slice _) => (P.info? e).bind fun i => some (.cpy i.size (px d) (px s))
      | some (.slice e), some .string => (P.info? e).bind fun i => if i.size = 1 then some (.cpy 1 (px d) (px s)) else none
      | _, _ => none)
    | .builtin .clear, [x], t :: _ =>
      (match P.underlying t with
      | some (.slice e) => (P.info? e).bind fun i => i.zero.bind fun z => if z.cells.size ≠ i.size ∨ i.size = 0 then none else some (.clr i.size z.cells.toList (px x))
      | _ => none)
    | .value f, args, _ => some (.call (px f) (args.map px))
    | _, _, _ => none
  | _ => none
end Go.KH
