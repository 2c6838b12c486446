/- A helper of this seat's claims (the logic of the walks): what it shows is shown for every input that its statements name, on no other condition. -/
import Derived.Test.YtpponffjeilhmaaK8
set_option linter.unusedVariables false
set_option linter.unusedSimpArgs false
namespace Go.KH
open Go.RowKit

/-! ## Code -/
structure GO where
  dst : Option Nat
  g : Option (Nat × Bool)
  op : O

/-- How a region that draws its order is looked at: taken first (tk), alone ready (sq), alone ready and behind all that was loaded (lt), one of two ready (alt). -/
inductive DP where
  | nil
  | tk (g : GO) (r : DP)
  | sq (g : GO) (r : DP)
  | lt (g : GO) (r : DP)
  | alt (g : GO) (r : DP) (g' : GO) (r' : DP)

inductive C where
  | skip
  | ops (l : List GO)
  | dops (ld : Bool) (p : DP)
  | seq (a b : C)
  | cond (x : X) (a b : C)
  | block (id : Nat) (c : C)
  | loop (c : C)
  | exit (id : Nat)
  | ret

inductive Ex where
  | nor
  | exit (id : Nat)
  | ret

def putf (f : Fr) (d : Option Nat) (v : Value) : Fr := match d with | some d => upd f d v | none => f

/-- Is a guarded operation performed? -/
def gob (v : Value) (want : Bool) : Bool := match v with | .bool b => b == want | _ => false
def goes (f : Fr) : Option (Nat × Bool) → Bool
  | none => true
  | some (t, want) => gob (f t) want

def gow (P : Program) (g : GO) (f : Fr) (h : H) (K : Fr → H → Prop) : Prop :=
  if goes f g.g = true then owp P (ev f) h (fun v h' => K (putf f g.dst v) h') g.op else K (putf f g.dst undef) h

def opsw (P : Program) : List GO → Fr → H → (Fr → H → Prop) → Prop
  | [], f, h, K => K f h
  | g :: l, f, h, K => gow P g f h fun f' h' => opsw P l f' h' K

def pvalO (ρ : X → Value) (h : H) : O → Option Value | .p o => pval ρ h o | _ => none

def dopw (P : Program) (hS : H) : DP → Fr → H → (Fr → H → Prop) → Prop
  | .nil, f, h, K => K f h
  | .tk g r, f, h, K => if goes f g.g = true then withO (pvalO (ev f) hS g.op) fun v => dopw P hS r (putf f g.dst v) h K else dopw P hS r (putf f g.dst undef) h K
  | .sq g r, f, h, K => gow P g f h fun f' h' => Sub hS h' ∧ dopw P hS r f' h' K
  | .lt g r, f, h, K => gow P g f h fun f' h' => dopw P h'.none r f' h' K
  | .alt g r g' r', f, h, K => (gow P g f h fun f' h' => Sub hS h' ∧ dopw P hS r f' h' K) ∧ (gow P g' f h fun f' h' => Sub hS h' ∧ dopw P hS r' f' h' K)

def wpc (P : Program) : C → (Ex → Fr → H → Prop) → Fr → H → Prop
  | .skip, Q, f, h => Q .nor f h
  | .ops l, Q, f, h => opsw P l f h (Q .nor)
  | .dops ld l, Q, f, h => dopw P (if ld then h else h.none) l f h (Q .nor)
  | .seq a b, Q, f, h => wpc P a (fun e f' h' => match e with | .nor => wpc P b Q f' h' | e => Q e f' h') f h
  | .cond x a b, Q, f, h => withO (asB (ev f x)) fun t => if t = true then wpc P a Q f h else wpc P b Q f h
  | .block id c, Q, f, h => wpc P c (fun e f' h' => match e with | .exit i => if i = id then Q .nor f' h' else Q (.exit i) f' h' | e => Q e f' h') f h
  | .loop c, Q, f, h => ∃ I : Nat → Fr → H → Prop, (∃ m, I m f h) ∧ ∀ m f h, I m f h →
      wpc P c (fun e f' h' => match e with | .nor => ∃ m', m' < m ∧ ∃ h'', Ext h'' h' ∧ I m' f' h'' | e => Q e f' h') f h
  | .exit id, Q, f, h => Q (.exit id) f h
  | .ret, Q, f, h => Q .ret f h

/-! ## Out of the program -/
def dstOk (N : Nat) : Option Nat → Bool | some d => decide (d < N) | none => true

def prepI (P : Program) (N : Nat) (ops : Array Oper) (i : Nat) : Option GO :=
  (ops[i]?).bind fun o => (prepO P o).bind fun oo =>
    if dstOk N o.dst = true then
      match o.guard with
      | none => some ⟨o.dst, none, oo⟩
      | some (j, want) => ((ops[j]?).bind (·.dst)).bind fun t => some ⟨o.dst, some (t, want), oo⟩
    else none

def isLd : O → Bool | .p (.ld ..) => true | .p (.b2s ..) => true | _ => false
def isP : O → Bool | .p _ => true | _ => false
def isSt : O → Bool | .st .. => true | .app .. => true | .mup .. => true | _ => false
/-- What looks at the memory. -/
def isMem : O → Bool | .p (.ld ..) => true | .p (.b2s ..) => true | .p (.mlk ..) => true | .p (.mln ..) => true | .p _ => false | _ => true

inductive IP where
  | nil
  | tk (i : Nat) (r : IP)
  | sq (i : Nat) (r : IP)
  | lt (i : Nat) (r : IP)
  | alt (i : Nat) (r : IP) (j : Nat) (s : IP)

def aft (ops : Array Oper) (i : Nat) : List Nat := match ops[i]? with | some o => (o.after.toList.filter fun e => Region.binds .any e).map (·.on) | none => []
/-- What some operations wait for, and they themselves. -/
def ups (ops : Array Oper) : Nat → List Nat → List Nat
  | 0, s => s
  | n + 1, s => let t := (s.flatMap (aft ops)).filter fun i => !s.contains i; if t.isEmpty then s else ups ops n (s ++ t.eraseDups)
/-- The writes of a region that wait for all that the region loads. -/
def lates (P : Program) (ops : Array Oper) : List Nat :=
  match (List.range ops.size).filter (fun i => ((ops[i]?).bind (prepO P)).any isSt) with
  | [] => []
  | sts =>
    let lds := (List.range ops.size).filter fun i => ((ops[i]?).bind (prepO P)).any fun oo => isP oo && isMem oo
    sts.filter fun z => let u := ups ops ops.size [z]; lds.all fun k => u.contains k
def noZ (Z : List Nat) (listed : Array Bool) : Bool := Z.all fun z => !listed.getD z false

/-- The order in which a region that draws is looked at: what may be taken first, and what comes up alone. -/
def ordD (P : Program) (ops : Array Oper) (Z : List Nat) : Nat → Array Bool → List Nat → Option IP
  | 0, _, _ => some .nil
  | n + 1, listed, taint =>
    let rs := Region.ready .any ops listed
    let tainted (i : Nat) : Bool := ((ops[i]?).map fun o => o.op.operands.any fun | .tmp t => taint.contains t | _ => false).getD true
    let dst (i : Nat) : List Nat := ((ops[i]?).bind (·.dst)).toList
    match rs.find? (fun i => ((ops[i]?).bind (prepO P)).any (fun oo => isP oo && !(isLd oo && tainted i)) && Region.free .any ops listed i) with
    | some i => (ordD P ops Z n (listed.setIfInBounds i true) (if tainted i then dst i ++ taint else taint)).map (.tk i)
    | none =>
      match rs with
      | [i] => (ordD P ops Z n (listed.setIfInBounds i true) (dst i ++ taint)).map (if Z.contains i then .lt i else .sq i)
      | [i, j] => (ordD P ops Z n (listed.setIfInBounds i true) (dst i ++ taint)).bind fun r => (ordD P ops Z n (listed.setIfInBounds j true) (dst j ++ taint)).map fun s => .alt i r j s
      | _ => none

def IP.len : IP → Nat
  | .nil => 0
  | .tk _ r | .sq _ r | .lt _ r => r.len + 1
  | .alt _ r _ _ => r.len + 1

def chkD (P : Program) (ops : Array Oper) (Z : List Nat) : IP → Array Bool → Bool
  | .nil, listed => (Region.ready .any ops listed).isEmpty
  | .tk i r, listed => (Region.free .any ops listed i && (Region.ready .any ops listed).contains i) && (!Z.contains i && (((ops[i]?).bind (prepO P)).any (fun oo => !isMem oo) || Z.all fun z => (ups ops ops.size [z]).contains i)) && chkD P ops Z r (listed.setIfInBounds i true)
  | .sq i r, listed => Region.ready .any ops listed == [i] && chkD P ops Z r (listed.setIfInBounds i true)
  | .lt i r, listed => (Region.ready .any ops listed == [i] && Z.contains i) && chkD P ops Z r (listed.setIfInBounds i true)
  | .alt i r j s, listed => Region.ready .any ops listed == [i, j] && r.len == s.len && chkD P ops Z r (listed.setIfInBounds i true) && chkD P ops Z s (listed.setIfInBounds j true)

def prepDP (P : Program) (N : Nat) (ops : Array Oper) : IP → Option DP
  | .nil => some .nil
  | .tk i r => (prepI P N ops i).bind fun g => (prepDP P N ops r).map (.tk g)
  | .sq i r => (prepI P N ops i).bind fun g => (prepDP P N ops r).map (.sq g)
  | .lt i r => (prepI P N ops i).bind fun g => (prepDP P N ops r).map (.lt g)
  | .alt i r j s => (prepI P N ops i).bind fun g => (prepDP P N ops r).bind fun p => (prepI P N ops j).bind fun g' => (prepDP P N ops s).map fun p' => .alt g p g' p'

def prepD (P : Program) (N : Nat) (ops : Array Oper) (σ : IP) : Option DP :=
  if Region.noSelect ops = true ∧ σ.len = ops.size ∧ chkD P ops (lates P ops) σ (Array.replicate ops.size false) = true then prepDP P N ops σ else none

def hasLd : DP → Bool
  | .nil => false
  | .tk g r => isLd g.op || hasLd r
  | .sq _ r => hasLd r
  | .lt _ r => hasLd r
  | .alt _ r _ r' => hasLd r || hasLd r'

def prepC (P : Program) (N : Nat) : Code → Option C
  | .skip => some .skip
  | .region _ ops false => ((List.range ops.size).mapM (prepI P N ops)).map .ops
  | .region _ ops true => (ordD P ops (lates P ops) ops.size (Array.replicate ops.size false) []).bind fun σ => (prepD P N ops σ).map fun l => .dops (hasLd l) l
  | .seq a b => (prepC P N a).bind fun a => (prepC P N b).bind fun b => some (.seq a b)
  | .cond x a b => (prepC P N a).bind fun a => (prepC P N b).bind fun b => some (.cond (px x) a b)
  | .block id c => (prepC P N c).map (.block id)
  | .loop c => (prepC P N c).map .loop
  | .exit id => some (.exit id)
  | .ret => some .ret
  | _ => none

inductive R where
  | tmp (t : Nat)
  | cell (t : Nat) (agg : Bool) (n : Nat)

structure F where
  N : Nat
  res : List R
  body : C

def prepR (P : Program) : ResultVar → Option R
  | .tmp t => some (.tmp t)
  | .cell t ty => (P.underlying ty).bind fun d => (P.info? ty).bind fun i => some (.cell t (isAggD d) (if isAggD d then i.size else 1))

def prepF (P : Program) (fn : Func) : Option F :=
  fn.body.bind fun c => (prepC P fn.ntmps c).bind fun b => (fn.results.toList.mapM (prepR P)).bind fun rs => some ⟨fn.ntmps, rs, b⟩

def rv (f : Fr) (h : H) : R → Option Value
  | .tmp t => some (f t)
  | .cell t agg n => pval (ev f) h (.ld agg n (.t t))
def rvs (f : Fr) (h : H) : List R → Option (List Value)
  | [] => some []
  | r :: l => (rv f h r).bind fun v => (rvs f h l).bind fun vs => some (v :: vs)
def tup : List Value → Value | [v] => v | vs => .tuple vs.toArray
def retw (rs : List R) (Q : Value → H → Prop) : Ex → Fr → H → Prop
  | .exit _, _, _ => False
  | _, f, h => withO (rvs f h rs) fun vs => Q (tup vs) h
end Go.KH
