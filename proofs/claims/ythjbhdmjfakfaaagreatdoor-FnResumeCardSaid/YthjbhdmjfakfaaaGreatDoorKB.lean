/- A helper of this seat's claims (the logic of the walks): what it shows is shown for every input that its statements name, on no other condition. -/
import Derived.Test.YthjbhdmjfakfaaaGreatDoorKA
set_option linter.unusedVariables false
set_option linter.unusedSimpArgs false
namespace Go.KH
open Go.RowKit

structure GO where
 dst : Option Nat
 g : Option (Nat × Bool)
 op : O

inductive DP where
 | nil
 | tk (g : GO) (r : DP)
 | sq (g : GO) (r : DP)
 | lt (g : GO) (r : DP)
 | alt (g : GO) (r : DP) (g' : GO) (r' : DP)
 | alt3 (g : GO) (r : DP) (g' : GO) (r' : DP) (g2 : GO) (r2 : DP)

inductive C where
 | skip
 | ops (l : List GO)
 | dops (ld : Bool) (p : DP)
 | dopx (p : DP)
 | seq (a b : C)
 | cond (x : X) (a b : C)
 | block (id : Nat) (c : C)
 | loop (c : C)
 | exit (id : Nat)
 | ret

inductive Ex where
 | nor
 | exit (id : Nat)
 | ret

def putf (f : Fr) (d : Option Nat) (v : Value) : Fr := match d with | some d => upd f d v | none => f

def gob (v : Value) (want : Bool) : Bool := match v with | .bool b => b == want | _ => false
def goes (f : Fr) : Option (Nat × Bool) → Bool
 | none => true
 | some (t, want) => gob (f t) want

def gow (P : Program) (g : GO) (f : Fr) (h : H) (K : Fr → H → Prop) : Prop :=
 if goes f g.g = true then owp P (ev f) h (fun v h' => K (putf f g.dst v) h') g.op else K (putf f g.dst undef) h

def opsw (P : Program) : List GO → Fr → H → (Fr → H → Prop) → Prop
 | [], f, h, K => K f h
 | g :: l, f, h, K => gow P g f h fun f' h' => opsw P l f' h' K

def pvalO (ρ : X → Value) (h : H) : O → Option Value | .p o => pval ρ h o | _ => none

def dopw (P : Program) (hS : H) : DP → Fr → H → (Fr → H → Prop) → Prop
 | .nil, f, h, K => K f h
 | .tk g r, f, h, K => if goes f g.g = true then withO (pvalO (ev f) hS g.op) fun v => dopw P hS r (putf f g.dst v) h K else dopw P hS r (putf f g.dst undef) h K
 | .sq g r, f, h, K => gow P g f h fun f' h' => Sub hS h' ∧ dopw P hS r f' h' K
 | .lt g r, f, h, K => gow P g f h fun f' h' => dopw P h'.none r f' h' K
 | .alt g r g' r', f, h, K => (gow P g f h fun f' h' => Sub hS h' ∧ dopw P hS r f' h' K) ∧ (gow P g' f h fun f' h' => Sub hS h' ∧ dopw P hS r' f' h' K)
 | .alt3 g r g' r' g2 r2, f, h, K => (gow P g f h fun f' h' => Sub hS h' ∧ dopw P hS r f' h' K) ∧ (gow P g' f h fun f' h' => Sub hS h' ∧ dopw P hS r' f' h' K) ∧ (gow P g2 f h fun f' h' => Sub hS h' ∧ dopw P hS r2 f' h' K)

def wpc (P : Program) : C → (Ex → Fr → H → Prop) → Fr → H → Prop
 | .skip, Q, f, h => Q .nor f h
 | .ops l, Q, f, h => opsw P l f h (Q .nor)
 | .dops ld l, Q, f, h => dopw P (if ld then h else h.none) l f h (Q .nor)
 | .dopx l, Q, f, h => ∃ hS, Sub hS h ∧ dopw P hS l f h (Q .nor)
 | .seq a b, Q, f, h => wpc P a (fun e f' h' => match e with | .nor => wpc P b Q f' h' | e => Q e f' h') f h
 | .cond x a b, Q, f, h => withO (asB (ev f x)) fun t => if t = true then wpc P a Q f h else wpc P b Q f h
 | .block id c, Q, f, h => wpc P c (fun e f' h' => match e with | .exit i => if i = id then Q .nor f' h' else Q (.exit i) f' h' | e => Q e f' h') f h
 | .loop c, Q, f, h => ∃ I : Nat → Fr → H → Prop, (∃ m, I m f h) ∧ ∀ m f h, I m f h →
   wpc P c (fun e f' h' => match e with | .nor => ∃ m', m' < m ∧ ∃ h'', Ext h'' h' ∧ I m' f' h'' | e => Q e f' h') f h
 | .exit id, Q, f, h => Q (.exit id) f h
 | .ret, Q, f, h => Q .ret f h

def dstOk (N : Nat) : Option Nat → Bool | some d => decide (d < N) | none => true

def prepI (P : Program) (N : Nat) (ops : Array Oper) (i : Nat) : Option GO :=
 (ops[i]?).bind fun o =>
  if dstOk N o.dst = true then
   match o.guard with
   | none => some ⟨o.dst, none, prepOB P o⟩
   | some (j, want) => ((ops[j]?).bind (·.dst)).bind fun t => some ⟨o.dst, some (t, want), prepOB P o⟩
  else none

def isLd : O → Bool | .p (.ld ..) => true | .p (.b2s ..) => true | _ => false
def isP : O → Bool | .p _ => true | _ => false
def isSt : O → Bool | .st .. => true | .app .. => true | .mup .. => true | _ => false
def isMem : O → Bool | .p (.ld ..) => true | .p (.b2s ..) => true | .p (.mlk ..) => true | .p (.mln ..) => true | .p _ => false | _ => true

inductive IP where
 | nil
 | tk (i : Nat) (r : IP)
 | sq (i : Nat) (r : IP)
 | lt (i : Nat) (r : IP)
 | alt (i : Nat) (r : IP) (j : Nat) (s : IP)
 | alt3 (i : Nat) (r : IP) (j : Nat) (s : IP) (k : Nat) (t : IP)

def aft (ops : Array Oper) (i : Nat) : List Nat := match ops[i]? with | some o => (o.after.toList.filter fun e => Region.binds .any e).map (·.on) | none => []
def ups (ops : Array Oper) : Nat → List Nat → List Nat
 | 0, s => s
 | n + 1, s => let t := (s.flatMap (aft ops)).filter fun i => !s.contains i; if t.isEmpty then s else ups ops n (s ++ t.eraseDups)
def lates (P : Program) (ops : Array Oper) : List Nat :=
 match (List.range ops.size).filter (fun i => ((ops[i]?).bind (prepO P)).any isSt) with
 | [] => []
 | sts =>
  let lds := (List.range ops.size).filter fun i => ((ops[i]?).bind (prepO P)).any fun oo => isP oo && isMem oo
  sts.filter fun z => let u := ups ops ops.size [z]; lds.all fun k => u.contains k
def noZ (Z : List Nat) (listed : Array Bool) : Bool := Z.all fun z => !listed.getD z false

def ordD (P : Program) (ops : Array Oper) (Z : List Nat) : Nat → Array Bool → List Nat → Option IP
 | 0, _, _ => some .nil
 | n + 1, listed, taint =>
  let rs := Region.ready .any ops listed
  let tainted (i : Nat) : Bool := ((ops[i]?).map fun o => o.op.operands.any fun | .tmp t => taint.contains t | _ => false).getD true
  let dst (i : Nat) : List Nat := ((ops[i]?).bind (·.dst)).toList
  match rs.find? (fun i => ((ops[i]?).bind (prepO P)).any (fun oo => isP oo && !(isLd oo && tainted i)) && Region.free .any ops listed i) with
  | some i => (ordD P ops Z n (listed.setIfInBounds i true) (if tainted i then dst i ++ taint else taint)).map (.tk i)
  | none =>
   match rs with
   | [i] => (ordD P ops Z n (listed.setIfInBounds i true) (dst i ++ taint)).map (if Z.contains i then .lt i else .sq i)
   | [i, j] => (ordD P ops Z n (listed.setIfInBounds i true) (dst i ++ taint)).bind fun r => (ordD P ops Z n (listed.setIfInBounds j true) (dst j ++ taint)).map fun s => .alt i r j s
   | [i, j, k] => (ordD P ops Z n (listed.setIfInBounds i true) (dst i ++ taint)).bind fun r => (ordD P ops Z n (listed.setIfInBounds j true) (dst j ++ taint)).bind fun s => (ordD P ops Z n (listed.setIfInBounds k true) (dst k ++ taint)).map fun t => .alt3 i r j s k t
   | _ => none

def IP.len : IP → Nat
 | .nil => 0
 | .tk _ r | .sq _ r | .lt _ r => r.len + 1
 | .alt _ r _ _ => r.len + 1
 | .alt3 _ r _ _ _ _ => r.len + 1

def chkD (P : Program) (ops : Array Oper) (Z : List Nat) : IP → Array Bool → Bool
 | .nil, listed => (Region.ready .any ops listed).isEmpty
 | .tk i r, listed => (Region.free .any ops listed i && (Region.ready .any ops listed).contains i) && (!Z.contains i && (((ops[i]?).bind (prepO P)).any (fun oo => !isMem oo) || Z.all fun z => (ups ops ops.size [z]).contains i)) && chkD P ops Z r (listed.setIfInBounds i true)
 | .sq i r, listed => Region.ready .any ops listed == [i] && chkD P ops Z r (listed.setIfInBounds i true)
 | .lt i r, listed => (Region.ready .any ops listed == [i] && Z.contains i) && chkD P ops Z r (listed.setIfInBounds i true)
 | .alt i r j s, listed => Region.ready .any ops listed == [i, j] && r.len == s.len && chkD P ops Z r (listed.setIfInBounds i true) && chkD P ops Z s (listed.setIfInBounds j true)
 | .alt3 i r j s k t, listed => Region.ready .any ops listed == [i, j, k] && r.len == s.len && r.len == t.len && chkD P ops Z r (listed.setIfInBounds i true) && chkD P ops Z s (listed.setIfInBounds j true) && chkD P ops Z t (listed.setIfInBounds k true)

def prepDP (P : Program) (N : Nat) (ops : Array Oper) : IP → Option DP
 | .nil => some .nil
 | .tk i r => (prepI P N ops i).bind fun g => (prepDP P N ops r).map (.tk g)
 | .sq i r => (prepI P N ops i).bind fun g => (prepDP P N ops r).map (.sq g)
 | .lt i r => (prepI P N ops i).bind fun g => (prepDP P N ops r).map (.lt g)
 | .alt i r j s => (prepI P N ops i).bind fun g => (prepDP P N ops r).bind fun p => (prepI P N ops j).bind fun g' => (prepDP P N ops s).map fun p' => .alt g p g' p'
 | .alt3 i r j s k t => (prepI P N ops i).bind fun g => (prepDP P N ops r).bind fun p => (prepI P N ops j).bind fun g' => (prepDP P N ops s).bind fun p' => (prepI P N ops k).bind fun g2 => (prepDP P N ops t).map fun p2 => .alt3 g p g' p' g2 p2

def prepD (P : Program) (N : Nat) (ops : Array Oper) (σ : IP) : Option DP :=
 if Region.noSelect ops = true ∧ σ.len = ops.size ∧ chkD P ops (lates P ops) σ (Array.replicate ops.size false) = true then prepDP P N ops σ else none

def hasLd : DP → Bool
 | .nil => false
 | .tk g r => isLd g.op || hasLd r
 | .sq _ r => hasLd r
 | .lt _ r => hasLd r
 | .alt _ r _ r' => hasLd r || hasLd r'
 | .alt3 _ r _ r' _ r2 => hasLd r || hasLd r' || hasLd r2

def lz (x : Bool) : C → C
 | .dops ld l => if x then .dopx l else .dops ld l
 | .seq a b => .seq (lz x a) (lz x b)
 | .cond c a b => .cond c (lz x a) (lz x b)
 | .block id c => .block id (lz x c)
 | .loop c => .loop (lz x c)
 | .skip => .skip
 | .ops l => .ops l
 | .dopx l => .dopx l
 | .exit id => .exit id
 | .ret => .ret

def prepC (P : Program) (N : Nat) : Code → Option C
 | .skip => some .skip
 | .region _ ops false => ((List.range ops.size).mapM (prepI P N ops)).map .ops
 | .region _ ops true => (ordD P ops (lates P ops) ops.size (Array.replicate ops.size false) []).bind fun σ => (prepD P N ops σ).map fun l => .dops (hasLd l) l
 | .seq a b => (prepC P N a).bind fun a => (prepC P N b).bind fun b => some (.seq a b)
 | .cond x a b => (prepC P N a).bind fun a => (prepC P N b).bind fun b => some (.cond (px x) a b)
 | .block id c => (prepC P N c).map (.block id)
 | .loop c => (prepC P N c).map .loop
 | .exit id => some (.exit id)
 | .ret => some .ret
 | _ => none

inductive R where
 | tmp (t : Nat)
 | cell (t : Nat) (agg : Bool) (n : Nat)

structure F where
 N : Nat
 res : List R
 body : C

def prepR (P : Program) : ResultVar → Option R
 | .tmp t => some (.tmp t)
 | .cell t ty => (P.underlying ty).bind fun d => (P.info? ty).bind fun i => some (.cell t (isAggD d) (if isAggD d then i.size else 1))

def prepF (P : Program) (fn : Func) : Option F :=
 fn.body.bind fun c => (prepC P fn.ntmps c).bind fun b => (fn.results.toList.mapM (prepR P)).bind fun rs => some ⟨fn.ntmps, rs, b⟩

def prepFx (P : Program) (fn : Func) : Option F := (prepF P fn).map fun F => ⟨F.N, F.res, lz true F.body⟩
theorem lz_false : ∀ c : C, lz false c = c
 | .dops ld l => rfl
 | .seq a b => by simp only [lz, lz_false a, lz_false b]
 | .cond c a b => by simp only [lz, lz_false a, lz_false b]
 | .block id c => by simp only [lz, lz_false c]
 | .loop c => by simp only [lz, lz_false c]
 | .skip => rfl
 | .ops l => rfl
 | .dopx l => rfl
 | .exit id => rfl
 | .ret => rfl

def rv (f : Fr) (h : H) : R → Option Value
 | .tmp t => some (f t)
 | .cell t agg n => pval (ev f) h (.ld agg n (.t t))
def rvs (f : Fr) (h : H) : List R → Option (List Value)
 | [] => some []
 | r :: l => (rv f h r).bind fun v => (rvs f h l).bind fun vs => some (v :: vs)
def tup : List Value → Value | [v] => v | vs => .tuple vs.toArray
def retw (rs : List R) (Q : Value → H → Prop) : Ex → Fr → H → Prop
 | .exit _, _, _ => False
 | _, f, h => withO (rvs f h rs) fun vs => Q (tup vs) h
end Go.KH
namespace Go.KH
open Go.RowKit

section
variable {P : Program}

def postC (w0 : World) (B N : Nat) (Q : Ex → Fr → H → Prop) : Exit → Act → World → Prop
 | .normal, a, w => ∃ f h, FrR N f a.tmps ∧ a.defers = [] ∧ Rel w0 h w ∧ h.base = B ∧ Q .nor f h
 | .exit i, a, w => ∃ f h, FrR N f a.tmps ∧ a.defers = [] ∧ Rel w0 h w ∧ h.base = B ∧ Q (.exit i) f h
 | .ret, a, w => ∃ f h, FrR N f a.tmps ∧ a.defers = [] ∧ Rel w0 h w ∧ h.base = B ∧ Q .ret f h
 | _, _, _ => False

theorem FrR.putf {N : Nat} {f : Fr} {a : Act} (hf : FrR N f a.tmps) (d : Option Nat) (v : Value) (hd : dstOk N d = true) :
  FrR N (putf f d v) (a.put d v).tmps ∧ (a.put d v).defers = a.defers := by
 cases d with
 | none => exact ⟨hf, rfl⟩
 | some d => exact ⟨hf.put d v (by simpa [dstOk] using hd), rfl⟩

theorem prepI_spec {N : Nat} {ops : Array Oper} {i : Nat} {g : GO} (h : prepI P N ops i = some g) : ∃ o, ops[i]? = some o ∧ (prepO P o = some g.op ∨ g.op = .bad) ∧ g.dst = o.dst ∧ dstOk N o.dst = true ∧
  ∀ (f : Fr) (a : Act), FrR N f a.tmps → Region.wanted o (yielded ops a.tmps) = goes f g.g := by
 unfold prepI at h
 simp only [Option.bind_eq_some_iff] at h
 obtain ⟨o, ho, h⟩ := h
 obtain ⟨oo, hoo'⟩ : ∃ oo, prepOB P o = oo := ⟨_, rfl⟩
 have hoo : prepO P o = some oo ∨ oo = .bad := by
  unfold prepOB at hoo'
  cases hq : prepO P o with
  | none => rw [hq] at hoo'; exact .inr hoo'.symm
  | some x => rw [hq] at hoo'; exact .inl (by rw [← hoo']; rfl)
 rw [hoo'] at h
 refine ⟨o, ho, ?_⟩
 split at h
 ·rename_i hd
  cases hg : o.guard with
  | none =>
   rw [hg] at h; simp only [Option.some.injEq] at h; subst h
   exact ⟨hoo, rfl, hd, fun f a _ => by simp [Region.wanted, hg, goes]⟩
  | some jw =>
   obtain ⟨j, want⟩ := jw
   rw [hg] at h; simp only [Option.bind_eq_some_iff, Option.some.injEq] at h
   obtain ⟨t, ht, rfl⟩ := h
   refine ⟨hoo, rfl, hd, fun f a hf => ?_⟩
   simp only [Region.wanted, hg, goes, gob, yielded]
   have ht' : (ops[j]?).bind (·.dst) = some t := by rw [Option.bind_eq_some_iff]; exact ht
   rw [ht']
   simp only [Option.bind_some]
   have h2 := hf.2 t
   rcases Nat.lt_or_ge t a.tmps.size with hlt | hge
   ·have e : a.tmps[t]? = some (f t) := by
     rw [← h2]; simp [hlt]
    rw [e]
    cases f t <;> simp
   ·have e : a.tmps[t]? = none := Array.getElem?_eq_none hge
    have e2 : f t = undef := by rw [← h2]; simp [hge]
    rw [e, e2]; simp [undef]
 ·cases h

theorem wpOp_of_gow {N : Nat} {ops : Array Oper} {i : Nat} {g : GO} (hp : prepI P N ops i = some g) {a : Act} {f : Fr} (hf : FrR N f a.tmps) (hd : a.defers = []) {w0 w : World} {h : H} (r : Rel w0 h w)
  {K : Fr → H → Prop} (hK : gow P g f h K) {next : Act → World → Prop} {Q : Exit → Act → World → Prop}
  (hn : ∀ f' h' a' w', FrR N f' a'.tmps → a'.defers = [] → h'.base = h.base → Rel w0 h' w' → K f' h' → next a' w') : wpOp P ops Q i next a w := by
 obtain ⟨o, ho, hoo, hdst, hdn, hw⟩ := prepI_spec hp
 unfold wpOp
 simp only [ho]
 rw [hw f a hf]
 unfold gow at hK
 split
 ·rename_i hg
  rw [if_pos hg] at hK
  have hoo := hoo.resolve_right fun e => by rw [e] at hK; exact hK
  refine .inl (owp_sound hoo hf r hK fun v h' w' hb hr hk => ?_)
  obtain ⟨h1, h2⟩ := hf.putf o.dst v hdn
  rw [hdst] at hk
  exact hn _ h' _ w' h1 (by rw [h2]; exact hd) hb hr hk
 ·rename_i hg
  rw [if_neg hg] at hK
  obtain ⟨h1, h2⟩ := hf.putf o.dst undef hdn
  rw [hdst] at hK
  exact hn _ h _ w h1 (by rw [h2]; exact hd) rfl r hK

theorem opsw_sound {N : Nat} {ops : Array Oper} {w0 : World} {B : Nat} {Q : Ex → Fr → H → Prop} : ∀ (l : List Nat) (gs : List GO) (a : Act) (f : Fr) (w : World) (h : H), l.mapM (prepI P N ops) = some gs → FrR N f a.tmps → a.defers = [] → Rel w0 h w → h.base = B →
  opsw P gs f h (Q .nor) → wpOps P ops (postC w0 B N Q) l a w
 | [], gs, a, f, w, h, hg, hf, hd, r, hb, hk => by
  simp at hg; subst hg
  simp only [wpOps, postC]
  exact ⟨f, h, hf, hd, r, hb, hk⟩
 | i :: l, gs, a, f, w, h, hg, hf, hd, r, hb, hk => by
  simp only [List.mapM_cons, Option.bind_eq_bind, Option.bind_eq_some_iff, Option.pure_def, Option.some.injEq] at hg
  obtain ⟨g, hg1, gs', hg2, rfl⟩ := hg
  rw [wpOps_cons]
  simp only [opsw] at hk
  exact wpOp_of_gow hg1 hf hd r hk fun f' h' a' w' hf' hd' hb' hr' hk' => opsw_sound l gs' a' f' w' h' hg2 hf' hd' hr' (by rw [hb', hb]) hk'

theorem prepP_of_p {o : Oper} {po : PO} (hoo : prepO P o = some (.p po)) : prepP P o = some po := by
 rcases prepO_cases hoo with ⟨po', hpo, he⟩ | ⟨hnone, _⟩
 ·injection he with he; rw [he]; exact hpo
 ·exfalso
  unfold prepO at hoo
  rw [hnone] at hoo
  simp only at hoo
  split at hoo <;> first | (cases hoo; done) | skip
  all_goals (repeat' split at hoo) <;> simp_all [Option.bind_eq_some_iff]

def Closed (ops : Array Oper) (l : Array Bool) : Prop := ∀ k ok, ops[k]? = some ok → l.getD k false = true → ∀ e ∈ ok.after, Region.binds .any e = true → l.getD e.on false = true
theorem closed_zero (ops : Array Oper) (n : Nat) : Closed ops (Array.replicate n false) := fun k ok _ h => by
 rcases Nat.lt_or_ge k n with h' | h'
 ·simp [h'] at h
 ·simp [Nat.not_lt.2 h'] at h
theorem closed_set {ops : Array Oper} {l : Array Bool} (c : Closed ops l) {j : Nat} (hj : j ∈ Region.ready .any ops l) : Closed ops (l.setIfInBounds j true) := fun k ok hk hl e he hb => by
 by_cases hjk : j = k
 ·subst hjk
  obtain ⟨_, o, ho, hall⟩ := mem_ready.1 hj
  rw [hk] at ho; simp only [Option.some.injEq] at ho; subst ho
  exact getD_set_true (hall e he hb)
 ·rw [getD_set_ne false hjk] at hl
  exact getD_set_true (c k ok hk hl e he hb)
theorem aft_listed {ops : Array Oper} {l : Array Bool} (c : Closed ops l) {i k : Nat} (hi : l.getD i false = true) (hk : k ∈ aft ops i) : l.getD k false = true := by
 unfold aft at hk
 split at hk
 ·rename_i o ho
  simp only [List.mem_map, List.mem_filter, Array.mem_toList_iff] at hk
  obtain ⟨e, ⟨he, hb⟩, rfl⟩ := hk
  exact c i o ho hi e he hb
 ·cases hk
theorem ups_listed {ops : Array Oper} {l : Array Bool} (c : Closed ops l) : ∀ (n : Nat) (s : List Nat), (∀ i ∈ s, l.getD i false = true) → ∀ i ∈ ups ops n s, l.getD i false = true
 | 0, s, h => h
 | n + 1, s, h => by
  unfold ups
  simp only
  split
  ·exact h
  ·refine ups_listed c n _ fun i hi => ?_
   rcases List.mem_append.1 hi with hi | hi
   ·exact h i hi
   ·have hi := List.mem_eraseDups.1 hi
    obtain ⟨hi, _⟩ := List.mem_filter.1 hi
    obtain ⟨j, hj, hij⟩ := List.mem_flatMap.1 hi
    exact aft_listed c (h j hj) hij
theorem noZ_of {ops : Array Oper} {l : Array Bool} (c : Closed ops l) {Z : List Nat} {i : Nat} (hi : l.getD i false = false) (hz : (Z.all fun z => (ups ops ops.size [z]).contains i) = true) : noZ Z l = true := by
 unfold noZ
 rw [List.all_eq_true]
 intro z hzz
 have h1 := List.all_eq_true.1 hz z hzz
 cases hl : l.getD z false with
 | false => rfl
 | true =>
  have := ups_listed c ops.size [z] (by simpa using hl) i (by simpa using h1)
  rw [hi] at this; cases this
theorem noZ_back {Z : List Nat} {l : Array Bool} {i : Nat} (h : noZ Z (l.setIfInBounds i true) = true) : noZ Z l = true := by
 unfold noZ at h ⊢
 rw [List.all_eq_true] at h ⊢
 intro z hz
 have := h z hz
 cases hl : l.getD z false with
 | false => rfl
 | true => rw [getD_set_true hl] at this; cases this
theorem noZ_fwd {Z : List Nat} {l : Array Bool} {i : Nat} (hi : i ∉ Z) (h : noZ Z l = true) : noZ Z (l.setIfInBounds i true) = true := by
 unfold noZ at h ⊢
 rw [List.all_eq_true] at h ⊢
 intro z hz
 have hne : i ≠ z := fun e => hi (by rw [e]; exact hz)
 rw [getD_set_ne false hne]
 exact h z hz
theorem unlisted {l : Array Bool} {i : Nat} (h : l.getD i true = false) : l.getD i false = false := by
 rcases Nat.lt_or_ge i l.size with h' | h'
 ·simp [h'] at h ⊢; exact h
 ·simp [Nat.not_lt.2 h']
def wpAnyZ (P : Program) (ops : Array Oper) (Q : Exit → Act → World → Prop) (S : World → Prop) (Z : List Nat) : Nat → Array Bool → Act → World → Prop
 | 0, listed, a, w => Region.ready .any ops listed = [] ∧ Q .normal a w
 | fuel + 1, listed, a, w => (Region.ready .any ops listed = [] → Q .normal a w) ∧
  ∀ i ∈ Region.ready .any ops listed, wpOp P ops Q i (fun a' w' => (noZ Z (listed.setIfInBounds i true) = true → S w') ∧ wpAnyZ P ops Q S Z fuel (listed.setIfInBounds i true) a' w') a w
section
variable {ops : Array Oper} {Q : Exit → Act → World → Prop} {S : World → Prop} {Z : List Nat}
theorem wpAny_of_Z : ∀ (fuel : Nat) (listed : Array Bool) (a : Act) (w : World), wpAnyZ P ops Q S Z fuel listed a w → wpAny P .any ops Q fuel listed a w
 | 0, _, _, _, h => h
 | fuel + 1, _, _, _, h => ⟨h.1, fun i hi => wpOp_mono (fun a' w' h' => wpAny_of_Z fuel _ a' w' h'.2) (h.2 i hi)⟩
theorem wpAnyZ_first {i : Nat} {oi : Oper} {v : Value} {S0 : World → Prop} (hi : ops[i]? = some oi) (hsel : ∀ (j : Nat) (o : Oper) cs b, ops[j]? = some o → o.op ≠ .select cs b)
  (hQ : ∀ c a w, Q (.panic c) (a.put oi.dst v) w → Q (.panic c) a w) (hiZ : i ∉ Z) (h0 : ∀ l w, Closed ops l → l.getD i false = false → (noZ Z l = true → S w) → S0 w) :
  ∀ (fuel : Nat) (listed : Array Bool) (a : Act) (w : World), Closed ops listed →
   (∀ j oj, ops[j]? = some oj → j ≠ i → listed.getD j true = false → (∀ e ∈ oj.after, Region.binds .any e = true → e.on ≠ i) → oi.apart ops oj = true) →
   i ∈ Region.ready .any ops listed → YieldsIf P ops S0 oi v a → (noZ Z listed = true → S w) →
   wpAnyZ P ops Q S Z fuel (listed.setIfInBounds i true) (a.put oi.dst v) w → wpAnyZ P ops Q S Z (fuel + 1) listed a w := by
 intro fuel
 induction fuel with
 | zero =>
  intro listed a w hcl _ hr hy hS H
  refine ⟨fun h => (by rw [h] at hr; cases hr), fun j hj => ?_⟩
  by_cases hji : j = i
  ·subst hji; exact hy.wpOp hi (h0 listed w hcl (unlisted (mem_ready.1 hr).1) hS) ⟨fun h => hS (noZ_back h), H⟩
  ·have := ready_mono hj hji
   rw [H.1] at this
   cases this
 | succ fuel ih =>
  intro listed a w hcl hfree hr hy hS H
  refine ⟨fun h => (by rw [h] at hr; cases hr), fun j hj => ?_⟩
  by_cases hji : j = i
  ·subst hji; exact hy.wpOp hi (h0 listed w hcl (unlisted (mem_ready.1 hr).1) hS) ⟨fun h => hS (noZ_back h), H⟩
  ·have h1 := H.2 j (ready_mono hj hji)
   obtain ⟨hjun, oj, hoj, hall⟩ := mem_ready.1 hj
   have hnot : ∀ e ∈ oj.after, Region.binds .any e = true → e.on ≠ i := fun e he hb heq => by
    have h1 := hall e he hb
    have h0 := (mem_ready.1 hr).1
    rw [heq] at h1
    rw [unlisted h0] at h1; cases h1
   have h2 := wpOp_putIf hoj (hfree j oj hoj hji hjun hnot) (fun cs b => hsel i oi cs b hi) (fun cs b => hsel j oj cs b hoj) hQ hy h1
   have hfree' : ∀ k ok, ops[k]? = some ok → k ≠ i → (listed.setIfInBounds j true).getD k true = false →
     (∀ e ∈ ok.after, Region.binds .any e = true → e.on ≠ i) → oi.apart ops ok = true := fun k ok hk hki hun hno => by
    refine hfree k ok hk hki ?_ hno
    by_cases hjk : j = k
    ·subst hjk; exact hjun
    ·rw [getD_set_ne true hjk] at hun; exact hun
   have hcl' := closed_set hcl hj
   refine wpOp_mono (fun a' w' h3 => ?_) h2
   have hSj : noZ Z (listed.setIfInBounds j true) = true → S w' := fun hz => h3.2.1 (by rw [Array.setIfInBounds_comm _ _ (Ne.symm hji)]; exact noZ_fwd hiZ hz)
   refine ⟨hSj, ih (listed.setIfInBounds j true) a' w' hcl' hfree' (ready_mono hr (Ne.symm hji)) h3.1 hSj ?_⟩
   rw [Array.setIfInBounds_comm _ _ hji]
   exact h3.2.2
theorem wpAnyZ_take {i : Nat} {oi : Oper} {v : Value} {S0 : World → Prop} {fuel : Nat} {listed : Array Bool} {a : Act} {w : World} (hi : ops[i]? = some oi) (hs : Region.noSelect ops = true)
  (hcl : Closed ops listed) (hf : Region.free .any ops listed i = true) (hr : (Region.ready .any ops listed).contains i = true)
  (hQ : ∀ c a w, Q (.panic c) (a.put oi.dst v) w → Q (.panic c) a w) (hiZ : i ∉ Z) (h0 : ∀ l w, Closed ops l → l.getD i false = false → (noZ Z l = true → S w) → S0 w)
  (hy : YieldsIf P ops S0 oi v a) (hS : noZ Z listed = true → S w)
  (h : wpAnyZ P ops Q S Z fuel (listed.setIfInBounds i true) (a.put oi.dst v) w) : wpAnyZ P ops Q S Z (fuel + 1) listed a w :=
 wpAnyZ_first hi (Region.noSelect_spec hs) hQ hiZ h0 fuel listed a w hcl (Region.free_spec hi hf) (by simpa using hr) hy hS h
theorem wpAnyZ_all {rs : List Nat} {fuel : Nat} {listed : Array Bool} {a : Act} {w : World} (hr : Region.ready .any ops listed = rs) (hne : rs ≠ [])
  (h : ∀ i ∈ rs, wpOp P ops Q i (fun a' w' => (noZ Z (listed.setIfInBounds i true) = true → S w') ∧ wpAnyZ P ops Q S Z fuel (listed.setIfInBounds i true) a' w') a w) : wpAnyZ P ops Q S Z (fuel + 1) listed a w :=
 ⟨fun h0 => absurd (hr ▸ h0) hne, hr ▸ h⟩
theorem wpAnyZ_done {listed : Array Bool} {a : Act} {w : World} (hr : Region.ready .any ops listed = []) (h : Q .normal a w) : ∀ fuel, wpAnyZ P ops Q S Z fuel listed a w
 | 0 => ⟨hr, h⟩
 | _ + 1 => ⟨fun _ => h, by rw [hr]; simp⟩
end
theorem pure_any {ρ : X → Value} {h h' : H} {po : PO} (hp : isMem (.p po) = false) : pval ρ h po = pval ρ h' po := by
 cases po <;> first | (simp [isMem] at hp; done) | simp only [pval]
theorem has_none (h : H) (w : World) : Has h.none w := Has.mk (fun b ob hb => by cases hb) (fun b l hb => by cases hb)

theorem dopw_sound {N : Nat} {ops : Array Oper} {w0 : World} {B : Nat} {Q : Ex → Fr → H → Prop} {hS : H} {Z : List Nat} (hns : Region.noSelect ops = true) : ∀ (σ : IP) (listed : Array Bool) (gs : DP) (a : Act) (f : Fr) (w : World) (h hC : H),
  prepDP P N ops σ = some gs → chkD P ops Z σ listed = true → Closed ops listed → FrR N f a.tmps → a.defers = [] → Rel w0 h w → h.base = B → (noZ Z listed = true → hC = hS ∧ Has hS w) →
  dopw P hC gs f h (Q .nor) → wpAnyZ P ops (postC w0 B N Q) (Has hS) Z σ.len listed a w
 | .nil, listed, gs, a, f, w, h, hC, hg, hc, hcl, hf, hd, r, hb, hs, hk => by
  simp only [prepDP, Option.some.injEq] at hg; subst hg
  simp only [chkD, List.isEmpty_iff] at hc
  refine wpAnyZ_done hc ?_ 0
  exact ⟨f, h, hf, hd, r, hb, hk⟩
 | .tk i σ, listed, gs, a, f, w, h, hC, hg, hc, hcl, hf, hd, r, hb, hs, hk => by
  simp only [prepDP, Option.bind_eq_some_iff, Option.map_eq_some_iff] at hg
  obtain ⟨g, hg1, gs', hg2, rfl⟩ := hg
  simp only [chkD, Bool.and_eq_true] at hc
  obtain ⟨⟨hc1, hcz, hcm⟩, hc2⟩ := hc
  obtain ⟨o, ho, hoo, hdst, hdn, hw⟩ := prepI_spec hg1
  have hiZ : i ∉ Z := by simpa using hcz
  have hir : i ∈ Region.ready .any ops listed := by simpa using hc1.2
  simp only [IP.len]
  simp only [dopw] at hk
  have fin : ∀ (S0 : World → Prop) v, (∀ l w, Closed ops l → l.getD i false = false → (noZ Z l = true → Has hS w) → S0 w) → YieldsIf P ops S0 o v a → dopw P hC gs' (putf f o.dst v) h (Q .nor) →
    wpAnyZ P ops (postC w0 B N Q) (Has hS) Z (σ.len + 1) listed a w := by
   intro S0 v h0 hy hk'
   obtain ⟨h1, h2⟩ := hf.putf o.dst v hdn
   exact wpAnyZ_take ho hns hcl hc1.1 hc1.2 (fun c a w hq => hq.elim) hiZ h0 hy (fun hz => (hs hz).2)
    (dopw_sound hns σ _ gs' _ _ w h hC hg2 hc2 (closed_set hcl hir) h1 (by rw [h2]; exact hd) r hb (fun hz => hs (noZ_back hz)) hk')
  rw [hdst] at hk
  split at hk
  ·rename_i hgo
   obtain ⟨v, hv, hk⟩ := hk
   cases hgop : g.op with
   | p po =>
    rw [hgop] at hoo hv
    have hoo := hoo.resolve_right (by intro e; cases e)
    simp only [pvalO] at hv
    rw [ho] at hcm
    simp only [Option.bind_some, hoo, Option.any_some, Bool.or_eq_true] at hcm
    by_cases hm : isMem (.p po) = false
    ·refine fin (Has hC.none) v (fun l w _ _ _ => has_none hC w) (.inl ⟨by rw [hw f a hf]; exact hgo, fun w' hw' => ?_⟩) hk
     exact run_prepP (prepP_of_p hoo) (fun x => hf.eval x) hw' (by rw [← hv]; exact pure_any hm)
    ·have hz := hcm.resolve_left (by simpa using hm)
     have hn := noZ_of hcl (unlisted (mem_ready.1 hir).1) hz
     obtain ⟨rfl, hh⟩ := hs hn
     refine fin (Has hC) v (fun l w hl hi hS => hS (noZ_of hl hi hz)) (.inl ⟨by rw [hw f a hf]; exact hgo, fun w' hw' => ?_⟩) hk
     exact run_prepP (prepP_of_p hoo) (fun x => hf.eval x) hw' hv
   | _ => rw [hgop] at hv; simp [pvalO] at hv
  ·rename_i hgo
   refine fin (fun _ => True) undef (fun _ _ _ _ _ => trivial) (.inr ⟨?_, rfl⟩) hk
   rw [hw f a hf]; simpa using hgo
 | .sq i σ, listed, gs, a, f, w, h, hC, hg, hc, hcl, hf, hd, r, hb, hs, hk => by
  simp only [prepDP, Option.bind_eq_some_iff, Option.map_eq_some_iff] at hg
  obtain ⟨g, hg1, gs', hg2, rfl⟩ := hg
  simp only [chkD, Bool.and_eq_true, beq_iff_eq] at hc
  obtain ⟨hc1, hc2⟩ := hc
  simp only [IP.len]
  simp only [dopw] at hk
  refine wpAnyZ_all hc1 (by simp) ?_
  intro j hj
  obtain rfl : j = i := by simpa using hj
  refine wpOp_of_gow hg1 hf hd r hk ?_
  rintro f' h' a' w' hf' hd' hb' hr' ⟨hsub, hk'⟩
  have hs' : noZ Z (listed.setIfInBounds j true) = true → hC = hS ∧ Has hS w' := fun hz => by
   have := (hs (noZ_back hz)).1
   exact ⟨this, this ▸ hsub.has hr'.has⟩
  exact ⟨fun hz => (hs' hz).2, dopw_sound hns σ _ gs' a' f' w' h' hC hg2 hc2 (closed_set hcl (by rw [hc1]; simp)) hf' hd' hr' (by rw [hb', hb]) hs' hk'⟩
 | .lt i σ, listed, gs, a, f, w, h, hC, hg, hc, hcl, hf, hd, r, hb, hs, hk => by
  simp only [prepDP, Option.bind_eq_some_iff, Option.map_eq_some_iff] at hg
  obtain ⟨g, hg1, gs', hg2, rfl⟩ := hg
  simp only [chkD, Bool.and_eq_true, beq_iff_eq] at hc
  obtain ⟨⟨hc1, hcz⟩, hc2⟩ := hc
  simp only [IP.len]
  simp only [dopw] at hk
  refine wpAnyZ_all hc1 (by simp) ?_
  intro j hj
  obtain rfl : j = i := by simpa using hj
  refine wpOp_of_gow hg1 hf hd r hk ?_
  intro f' h' a' w' hf' hd' hb' hr' hk'
  have hno : noZ Z (listed.setIfInBounds j true) = false := by
   cases hz : noZ Z (listed.setIfInBounds j true) with
   | false => rfl
   | true =>
    have h1 := List.all_eq_true.1 hz j (by simpa using hcz)
    have h2 := (mem_ready.1 (show j ∈ Region.ready .any ops listed by rw [hc1]; simp)).1
    have h3 : j < listed.size := by
     rcases Nat.lt_or_ge j listed.size with h' | h'
     ·exact h'
     ·simp [Nat.not_lt.2 h'] at h2
    simp [h3] at h1
  exact ⟨fun hz => (by rw [hno] at hz; cases hz), dopw_sound hns σ _ gs' a' f' w' h' h'.none hg2 hc2 (closed_set hcl (by rw [hc1]; simp)) hf' hd' hr' (by rw [hb', hb]) (fun hz => by rw [hno] at hz; cases hz) hk'⟩
 | .alt i σ j τ, listed, gs, a, f, w, h, hC, hg, hc, hcl, hf, hd, r, hb, hs, hk => by
  simp only [prepDP, Option.bind_eq_some_iff, Option.map_eq_some_iff] at hg
  obtain ⟨g, hg1, gs1, hg2, g', hg3, gs2, hg4, rfl⟩ := hg
  simp only [chkD, Bool.and_eq_true, beq_iff_eq] at hc
  obtain ⟨⟨⟨hc1, hl⟩, hc2⟩, hc3⟩ := hc
  simp only [IP.len]
  simp only [dopw] at hk
  refine wpAnyZ_all hc1 (by simp) ?_
  intro k hj
  simp only [List.mem_cons, List.not_mem_nil, or_false] at hj
  have hS' : ∀ (k : Nat) (h' : H) (w' : World), Rel w0 h' w' → Sub hC h' → noZ Z (listed.setIfInBounds k true) = true → hC = hS ∧ Has hS w' := fun k h' w' hr' hsub hz => by
   have := (hs (noZ_back hz)).1
   exact ⟨this, this ▸ hsub.has hr'.has⟩
  rcases hj with rfl | rfl
  ·refine wpOp_of_gow hg1 hf hd r hk.1 ?_
   rintro f' h' a' w' hf' hd' hb' hr' ⟨hsub, hk'⟩
   exact ⟨fun hz => (hS' _ _ _ hr' hsub hz).2, dopw_sound hns σ _ gs1 a' f' w' h' hC hg2 hc2 (closed_set hcl (by rw [hc1]; simp)) hf' hd' hr' (by rw [hb', hb]) (hS' _ _ _ hr' hsub) hk'⟩
  ·refine wpOp_of_gow hg3 hf hd r hk.2 ?_
   rintro f' h' a' w' hf' hd' hb' hr' ⟨hsub, hk'⟩
   rw [hl]
   exact ⟨fun hz => (hS' _ _ _ hr' hsub hz).2, dopw_sound hns τ _ gs2 a' f' w' h' hC hg4 hc3 (closed_set hcl (by rw [hc1]; simp)) hf' hd' hr' (by rw [hb', hb]) (hS' _ _ _ hr' hsub) hk'⟩
 | .alt3 i σ j τ l υ, listed, gs, a, f, w, h, hC, hg, hc, hcl, hf, hd, r, hb, hs, hk => by
  simp only [prepDP, Option.bind_eq_some_iff, Option.map_eq_some_iff] at hg
  obtain ⟨g, hg1, gs1, hg2, g', hg3, gs2, hg4, g2, hg5, gs3, hg6, rfl⟩ := hg
  simp only [chkD, Bool.and_eq_true, beq_iff_eq] at hc
  obtain ⟨⟨⟨⟨⟨hc1, hl⟩, hl2⟩, hc2⟩, hc3⟩, hc4⟩ := hc
  simp only [IP.len]
  simp only [dopw] at hk
  refine wpAnyZ_all hc1 (by simp) ?_
  intro k hj
  simp only [List.mem_cons, List.not_mem_nil, or_false] at hj
  have hS' : ∀ (k : Nat) (h' : H) (w' : World), Rel w0 h' w' → Sub hC h' → noZ Z (listed.setIfInBounds k true) = true → hC = hS ∧ Has hS w' := fun k h' w' hr' hsub hz => by
   have := (hs (noZ_back hz)).1
   exact ⟨this, this ▸ hsub.has hr'.has⟩
  rcases hj with rfl | rfl | rfl
  ·refine wpOp_of_gow hg1 hf hd r hk.1 ?_
   rintro f' h' a' w' hf' hd' hb' hr' ⟨hsub, hk'⟩
   exact ⟨fun hz => (hS' _ _ _ hr' hsub hz).2, dopw_sound hns σ _ gs1 a' f' w' h' hC hg2 hc2 (closed_set hcl (by rw [hc1]; simp)) hf' hd' hr' (by rw [hb', hb]) (hS' _ _ _ hr' hsub) hk'⟩
  ·refine wpOp_of_gow hg3 hf hd r hk.2.1 ?_
   rintro f' h' a' w' hf' hd' hb' hr' ⟨hsub, hk'⟩
   rw [hl]
   exact ⟨fun hz => (hS' _ _ _ hr' hsub hz).2, dopw_sound hns τ _ gs2 a' f' w' h' hC hg4 hc3 (closed_set hcl (by rw [hc1]; simp)) hf' hd' hr' (by rw [hb', hb]) (hS' _ _ _ hr' hsub) hk'⟩
  ·refine wpOp_of_gow hg5 hf hd r hk.2.2 ?_
   rintro f' h' a' w' hf' hd' hb' hr' ⟨hsub, hk'⟩
   rw [hl2]
   exact ⟨fun hz => (hS' _ _ _ hr' hsub hz).2, dopw_sound hns υ _ gs3 a' f' w' h' hC hg6 hc4 (closed_set hcl (by rw [hc1]; simp)) hf' hd' hr' (by rw [hb', hb]) (hS' _ _ _ hr' hsub) hk'⟩
end
end Go.KH
namespace Go.KH
open Go.RowKit

section
variable {P : Program}

theorem wp_loop_num {c : Code} {Q : Exit → Act → World → Prop} {a : Act} {w : World} (J : Nat → Act → World → Prop) (m : Nat) (h₀ : J m a w)
  (round : ∀ m a w, J m a w → c.wp P (Exit.then (fun a' w' => ∃ m', m' < m ∧ J m' a' w') Q) a w) : (Code.loop c).wp P Q a w := by
 classical
 have least : ∀ (p : Nat → Prop) (m : Nat), p m → ∃ k, p k ∧ ∀ j, p j → k ≤ j := by
  intro p m
  induction m using Nat.strongRecOn with
  | _ m ih =>
   intro hm
   by_cases h : ∃ j, j < m ∧ p j
   ·obtain ⟨j, hj, hp⟩ := h; exact ih j hj hp
   ·exact ⟨m, hm, fun j hj => Nat.le_of_not_lt fun hlt => h ⟨j, hlt, hj⟩⟩
 have least' : ∀ a w, (∃ m, J m a w) → ∃ k, J k a w ∧ ∀ j, J j a w → k ≤ j := fun a w ⟨m, hm⟩ => least (fun m => J m a w) m hm
 let μ : Act → World → Nat := fun a w => if h : ∃ m, J m a w then (least' a w h).choose else 0
 have hμ : ∀ a w m, J m a w → μ a w ≤ m ∧ J (μ a w) a w := by
  intro a w m h
  have hex : ∃ m, J m a w := ⟨m, h⟩
  have e : μ a w = (least' a w hex).choose := by simp only [μ]; rw [dif_pos hex]
  have := (least' a w hex).choose_spec
  rw [e]
  exact ⟨this.2 m h, this.1⟩
 refine wp_loop (fun a w => ∃ m, J m a w) μ ⟨m, h₀⟩ ?_
 rintro a w ⟨m, hm⟩
 have h1 := (hμ a w m hm).2
 refine wp_mono (round _ a w h1) ?_
 intro e a' w' hq
 cases e <;> simp only [Exit.then] at hq ⊢
 case normal =>
  obtain ⟨m', hlt, hj⟩ := hq
  exact ⟨⟨m', hj⟩, Nat.lt_of_le_of_lt (hμ a' w' m' hj).1 hlt⟩
 all_goals exact hq

theorem asB_of_withO {v : Value} {K : Bool → Prop} (h : withO (asB v) K) : ∃ t, v = .bool t ∧ K t := by
 obtain ⟨t, ht, hk⟩ := h; exact ⟨t, asB_some ht, hk⟩

theorem wpc_sound {N : Nat} (x : Bool) (hm : P.follows .mixedOrders = true) {w0 : World} {B : Nat} : ∀ (code : Code) (c : C), prepC P N code = some c → ∀ (Q : Ex → Fr → H → Prop) (f : Fr) (h : H) (a : Act) (w : World),
  FrR N f a.tmps → a.defers = [] → Rel w0 h w → h.base = B → wpc P (lz x c) Q f h → code.wp P (postC w0 B N Q) a w := by
 intro code
 induction code with
 | skip =>
  intro c hc Q f h a w hf hd r hb hk
  simp only [prepC, Option.some.injEq] at hc; subst hc
  exact wp_skip ⟨f, h, hf, hd, r, hb, hk⟩
 | region id ops draw =>
  intro c hc Q f h a w hf hd r hb hk
  cases draw with
  | false =>
   simp only [prepC, Option.map_eq_some_iff] at hc
   obtain ⟨gs, hg, rfl⟩ := hc
   exact wp_region (opsw_sound _ gs a f w h hg hf hd r hb hk)
  | true =>
   simp only [prepC, Option.bind_eq_some_iff, Option.map_eq_some_iff] at hc
   obtain ⟨σ, hσ, l, hl, rfl⟩ := hc
   unfold prepD at hl
   split at hl
   ·rename_i hcond
    obtain ⟨h1, h2, h3⟩ := hcond
    cases x with
    | false =>
     replace hk : wpc P (.dops (hasLd l) l) Q f h := hk
     simp only [wpc] at hk
     have hs : Has (if hasLd l = true then h else h.none) w := by
      split
      ·exact r.has
      ·exact Has.mk (fun b ob hb => by cases hb) (fun b l hb => by cases hb)
     have := dopw_sound (P := P) (w0 := w0) (B := B) (Q := Q) h1 σ _ l a f { w with drawn := w.drawn + 1 } h _ hl h3 (closed_zero _ _) hf hd r.drew hb (fun _ => ⟨rfl, ⟨fun b ob hb => hs.cells b ob hb, fun b l hb => hs.maps b l hb⟩⟩) hk
     rw [h2] at this
     exact wp_region_any hm (wpAny_of_Z _ _ _ _ this)
    | true =>
     replace hk : wpc P (.dopx l) Q f h := hk
     simp only [wpc] at hk
     obtain ⟨hS, hsub, hk⟩ := hk
     have hs : Has hS w := hsub.has r.has
     have := dopw_sound (P := P) (w0 := w0) (B := B) (Q := Q) h1 σ _ l a f { w with drawn := w.drawn + 1 } h hS hl h3 (closed_zero _ _) hf hd r.drew hb (fun _ => ⟨rfl, ⟨fun b ob hb => hs.cells b ob hb, fun b l hb => hs.maps b l hb⟩⟩) hk
     rw [h2] at this
     exact wp_region_any hm (wpAny_of_Z _ _ _ _ this)
   ·cases hl
 | seq y1 y ihx ihy =>
  intro c hc Q f h a w hf hd r hb hk
  simp only [prepC, Option.bind_eq_some_iff, Option.some.injEq] at hc
  obtain ⟨cx, hcx, cy, hcy, rfl⟩ := hc
  refine wp_seq (wp_mono (ihx cx hcx _ f h a w hf hd r hb hk) ?_)
  intro e a' w' hq
  cases e <;> simp only [postC, Exit.then] at hq ⊢
  case normal =>
   obtain ⟨f', h', hf', hd', r', hb', hk'⟩ := hq
   exact ihy cy hcy Q f' h' a' w' hf' hd' r' hb' hk'
  all_goals exact hq
 | cond y1 y z ihy ihz =>
  intro c hc Q f h a w hf hd r hb hk
  simp only [prepC, Option.bind_eq_some_iff, Option.some.injEq] at hc
  obtain ⟨cy, hcy, cz, hcz, rfl⟩ := hc
  obtain ⟨t, ht, hk⟩ := asB_of_withO hk
  refine wp_cond (t := t) (by rw [hf.eval, ht]) ?_
  cases t
  ·simp only [Bool.false_eq_true, if_false] at hk ⊢; exact ihz cz hcz Q f h a w hf hd r hb hk
  ·simp only [if_true] at hk ⊢; exact ihy cy hcy Q f h a w hf hd r hb hk
 | block id y1 ih =>
  intro c hc Q f h a w hf hd r hb hk
  simp only [prepC, Option.map_eq_some_iff] at hc
  obtain ⟨cx, hcx, rfl⟩ := hc
  refine wp_block (wp_mono (ih cx hcx _ f h a w hf hd r hb hk) ?_)
  intro e a' w' hq
  cases e <;> simp only [postC, Exit.inBlock] at hq ⊢
  case exit i =>
   obtain ⟨f', h', hf', hd', r', hb', hk'⟩ := hq
   by_cases hi : i = id
   ·rw [if_pos hi] at hk' ⊢; exact ⟨f', h', hf', hd', r', hb', hk'⟩
   ·rw [if_neg hi] at hk' ⊢; exact ⟨f', h', hf', hd', r', hb', hk'⟩
  all_goals exact hq
 | loop y1 ih =>
  intro c hc Q f h a w hf hd r hb hk
  simp only [prepC, Option.map_eq_some_iff] at hc
  obtain ⟨cx, hcx, rfl⟩ := hc
  obtain ⟨I, ⟨m, hm0⟩, hround⟩ := hk
  refine wp_loop_num (fun m a w => ∃ f h, FrR N f a.tmps ∧ a.defers = [] ∧ Rel w0 h w ∧ h.base = B ∧ I m f h) m ⟨f, h, hf, hd, r, hb, hm0⟩ ?_
  rintro m a w ⟨f, h, hf, hd, r, hb, hI⟩
  refine wp_mono (ih cx hcx _ f h a w hf hd r hb (hround m f h hI)) ?_
  intro e a' w' hq
  cases e <;> simp only [postC, Exit.then] at hq ⊢
  case normal =>
   obtain ⟨f', h', hf', hd', r', hb', m', hlt, h'', he, hk'⟩ := hq
   exact ⟨m', hlt, f', h'', hf', hd', r'.weaken he, he.1.symm.trans hb', hk'⟩
  all_goals exact hq
 | exit id =>
  intro c hc Q f h a w hf hd r hb hk
  simp only [prepC, Option.some.injEq] at hc; subst hc
  exact wp_exit ⟨f, h, hf, hd, r, hb, hk⟩
 | ret =>
  intro c hc Q f h a w hf hd r hb hk
  simp only [prepC, Option.some.injEq] at hc; subst hc
  exact wp_ret ⟨f, h, hf, hd, r, hb, hk⟩
 | _ => intro c hc; simp [prepC] at hc

theorem run_loadVar' {ty : TypeId} {d : TypeDesc} {i : TypeInfo} (hd : P.underlying ty = some d) (hi : P.info? ty = some i) {h : H} {w : World} (hh : Has h w) {ρ : X → Value} {x : X} {v : Value}
  (hv : pval ρ h (.ld (isAggD d) (if isAggD d then i.size else 1) x) = some v) : ∃ b o, ρ x = ptr b o ∧ (loadVar ty ⟨b, o, none⟩).run P w = .ok v w := by
 by_cases hA : isAggD d = true
 ·simp only [hA, if_true, pval, Option.bind_eq_some_iff, Option.some.injEq] at hv
  obtain ⟨q, hq, cs, hc, rfl⟩ := hv
  exact ⟨_, _, asP_some hq, by simp [loadVar, run_isAgg' hd, hA, run_sizeOf' hi, run_ldc hh hc]⟩
 ·have hA : isAggD d = false := by simpa using hA
  simp only [hA, if_false, Bool.false_eq_true, pval, Option.bind_eq_some_iff] at hv
  obtain ⟨q, hq, cs, hc, hv⟩ := hv
  unfold one at hv
  split at hv
  ·simp only [Option.some.injEq] at hv; subst hv
   exact ⟨_, _, asP_some hq, by simp only [loadVar, Sem.run_bind, run_isAgg' hd, hA, Result.andThen_ok, if_false, Bool.false_eq_true, run_ld1 hh hc]⟩
  ·cases hv

def rr (tmps : Array Value) : ResultVar → Sem Value
 | .tmp t => pure (tmps.getD t undef)
 | .cell a t => do loadVar t (← asAddr (tmps.getD a undef))

theorem run_results {w : World} {h : H} {N : Nat} {f : Fr} {tmps : Array Value} (hf : FrR N f tmps) (hh : Has h w) : ∀ (rs : List ResultVar) (R : List R) (vs : List Value), rs.mapM (prepR P) = some R → rvs f h R = some vs →
  (rs.mapM (rr tmps)).run P w = .ok vs w
 | [], R, vs, hR, hv => by simp at hR; subst hR; simp [rvs] at hv; subst hv; simp
 | x :: rs, R, vs, hR, hv => by
  simp only [List.mapM_cons, Option.bind_eq_bind, Option.bind_eq_some_iff, Option.pure_def, Option.some.injEq] at hR
  obtain ⟨y, hy, R', hR', rfl⟩ := hR
  simp only [rvs, Option.bind_eq_some_iff, Option.some.injEq] at hv
  obtain ⟨v, hv, vs', hvs, rfl⟩ := hv
  have ih := run_results hf hh rs R' vs' hR' hvs
  have h1 : (rr tmps x).run P w = .ok v w := by
   cases x with
   | tmp t =>
    simp only [prepR, Option.some.injEq] at hy; subst hy
    simp only [rv, Option.some.injEq] at hv; subst hv
    simp only [rr, Sem.run_pure, hf.2 t]
   | cell t ty =>
    simp only [prepR, Option.bind_eq_some_iff, Option.some.injEq] at hy
    obtain ⟨d, hd, i, hi, rfl⟩ := hy
    simp only [rv] at hv
    obtain ⟨b, o, e1, e2⟩ := run_loadVar' (P := P) hd hi hh hv
    simp only [ev] at e1
    simp only [rr, hf.2 t, e1, ptr, asAddr, Sem.run_bind, Sem.run_pure, Result.andThen_ok, e2]
  simp only [List.mapM_cons, Sem.run_bind, h1, Result.andThen_ok, ih, Sem.run_pure]

theorem AC.of_wpcg {x : Bool} {n : FuncId} {fn : Func} {FF : F} (hm : P.follows .mixedOrders = true) (hfn : P.funcs[n]? = some fn) (hname : (fn.name == "runtime.NumGoroutine") = false) (hp : prepF P fn = some FF) {args : List Value} {h : H} {Q : Value → H → Prop}
  (hl : args.length ≤ FF.N) (hk : wpc P (lz x FF.body) (retw FF.res Q) (argsFr args) h) : AC P n args h Q := by
 unfold prepF at hp
 simp only [Option.bind_eq_some_iff, Option.some.injEq] at hp
 obtain ⟨code, hcode, c, hc, rs, hrs, rfl⟩ := hp
 refine ⟨⟨fn, hfn, hname, by rw [hcode]; rfl⟩, fun w0 w r => ?_⟩
 refine calls_of_wp hfn hcode ?_
 have hfr : FrR fn.ntmps (argsFr args) (args.toArray ++ Array.replicate (fn.ntmps - args.toArray.size) undef) := by
  refine ⟨by simp; simp at hl; omega, fun i => ?_⟩
  simp only [argsFr, List.getD_eq_getElem?_getD]
  rcases Nat.lt_or_ge i args.length with hlt | hge
  ·simp [Array.getD_eq_getD_getElem?, Array.getElem?_append_left, hlt]
  ·rw [List.getElem?_eq_none hge]
   simp only [Array.getD_eq_getD_getElem?]
   rw [Array.getElem?_append_right (by simpa using hge)]
   simp only [Array.getElem?_replicate]
   split <;> rfl
 refine wp_mono (wpc_sound x hm code c hc _ _ h _ w hfr rfl r rfl hk) ?_
 have fin : ∀ (a : Act) (w' : World) (f' : Fr) (h' : H), FrR fn.ntmps f' a.tmps → a.defers = [] → Rel w0 h' w' → h'.base = h.base → withO (rvs f' h' rs) (fun vs => Q (tup vs) h') →
   a.defers = [] ∧ ∃ v, (results fn a.tmps).run P w' = .ok v w' ∧ ∃ v' h', Ending.returned v = .returned v' ∧ h'.base = h.base ∧ Rel w0 h' w' ∧ Q v' h' := by
  intro a w' f' h' hf' hd' r' hb' hq
  obtain ⟨vs, hvs, hq⟩ := hq
  refine ⟨hd', tup vs, ?_, tup vs, h', rfl, hb', r', hq⟩
  have h1 := run_results (P := P) hf' r'.has fn.results.toList rs vs hrs hvs
  have h2 : (fn.results.mapM (rr a.tmps)).run P w' = .ok vs.toArray w' := by
   rw [← Array.toArray_toList (xs := fn.results), List.mapM_toArray]
   simp only [Sem.run_map, h1, Result.andThen_ok]
  have h3 : results fn a.tmps = (do
   let vs ← fn.results.mapM (rr a.tmps)
   pure (if h : vs.size = 1 then vs[0] else .tuple vs)) := rfl
  rw [h3]
  simp only [Sem.run_bind, h2, Result.andThen_ok, Sem.run_pure]
  congr 1
  cases vs with
  | nil => rfl
  | cons v vs => cases vs with
   | nil => rfl
   | cons u vs => simp [tup]
 intro e a w' hq
 cases e <;> simp only [postC, bodyPost] at hq ⊢
 case normal => obtain ⟨f', h', hf', hd', r', hb', hq⟩ := hq; exact fin a w' f' h' hf' hd' r' hb' hq
 case ret => obtain ⟨f', h', hf', hd', r', hb', hq⟩ := hq; exact fin a w' f' h' hf' hd' r' hb' hq
 case exit i => obtain ⟨f', h', hf', hd', r', hb', hq⟩ := hq; exact hq
theorem AC.of_wpc {n : FuncId} {fn : Func} {FF : F} (hm : P.follows .mixedOrders = true) (hfn : P.funcs[n]? = some fn) (hname : (fn.name == "runtime.NumGoroutine") = false) (hp : prepF P fn = some FF) {args : List Value} {h : H} {Q : Value → H → Prop}
  (hl : args.length ≤ FF.N) (hk : wpc P FF.body (retw FF.res Q) (argsFr args) h) : AC P n args h Q := AC.of_wpcg (x := false) hm hfn hname hp hl (by rw [lz_false]; exact hk)
theorem AC.of_wpcx {n : FuncId} {fn : Func} {FF : F} (hm : P.follows .mixedOrders = true) (hfn : P.funcs[n]? = some fn) (hname : (fn.name == "runtime.NumGoroutine") = false) (hp : prepFx P fn = some FF) {args : List Value} {h : H} {Q : Value → H → Prop}
  (hl : args.length ≤ FF.N) (hk : wpc P FF.body (retw FF.res Q) (argsFr args) h) : AC P n args h Q := by
 unfold prepFx at hp
 rw [Option.map_eq_some_iff] at hp
 obtain ⟨G, hG, rfl⟩ := hp
 exact AC.of_wpcg (x := true) hm hfn hname hG hl hk
end
end Go.KH
namespace Go.KH
open Go.RowKit

section
variable {P : Program}

def Dum {α : Type} (a : α) : Prop := a = a
theorem dum {α : Type} (a : α) : Dum a = True := propext ⟨fun _ => trivial, fun _ => rfl⟩
@[congr] theorem withO_congr' {α : Type} {o o' : Option α} {d : Prop} {K : α → Prop} (h : o = o') (h2 : Dum o = d) : withO o K = withO o' K := by rw [h]
@[congr] theorem AC_congr' {n n' : FuncId} {args args' : List Value} {h : H} {d : Prop} {K : Value → H → Prop} (e0 : n = n') (e : args = args') (h2 : Dum n = d) : AC P n args h K = AC P n' args' h K := by rw [e, e0]
@[congr] theorem freshK_congr' {h : H} {d : Prop} {K : Nat → Prop} (h2 : Dum h = d) : freshK h K = freshK h K := rfl
@[congr] theorem freshM_congr' {h : H} {d : Prop} {K : Nat → Prop} (h2 : Dum h = d) : freshM h K = freshM h K := rfl

def Req (c K : Prop) : Prop := c ∧ K
theorem Req.of {c K : Prop} (h : c) (k : K) : Req c K := ⟨h, k⟩
@[congr] theorem Req_congr' {c c' d K : Prop} (h : c = c') (h2 : Dum c = d) : Req c K = Req c' K := by rw [h]
theorem Req_true (K : Prop) : Req True K = K := by simp [Req]
theorem Req_false (K : Prop) : Req False K = False := by simp [Req]
theorem Req_and (a b K : Prop) : Req (a ∧ b) K = Req a (Req b K) := by simp [Req, and_assoc]
theorem withO_if {α : Type} (c : Prop) [Decidable c] (a : α) (K : α → Prop) : withO (if c then some a else none) K = Req c (K a) := by simp [Req]
theorem withO_if0 {α : Type} (c : Prop) [Decidable c] (a : α) (K : α → Prop) : withO (if c then none else some a) K = Req (¬ c) (K a) := by by_cases h : c <;> simp [Req, h]

def Br (c : Prop) (A B : Prop) : Prop := (c → A) ∧ (¬ c → B)
@[congr] theorem Br_congr' {c c' d A B : Prop} (h : c = c') (h2 : Dum c = d) : Br c A B = Br c' A B := by rw [h]
theorem Br_true (A B : Prop) : Br True A B = A := by simp [Br]
theorem Br_false (A B : Prop) : Br False A B = B := by simp [Br]
theorem Br_not (c A B : Prop) : Br (¬ c) A B = Br c B A := by by_cases h : c <;> simp [Br, h]
theorem Br.of {c A B : Prop} (h1 : c → A) (h2 : ¬ c → B) : Br c A B := ⟨h1, h2⟩
theorem Br_ite (c : Prop) [Decidable c] (A B : Prop) : (if c then A else B) = Br c A B := by by_cases h : c <;> simp [Br, h]

section
variable (ρ : X → Value) (h : H) (K : Value → Prop)
theorem wv_mv (x : X) : withO (pval ρ h (.mv x)) K = withO (some (ρ x)) K := by simp [pval]
theorem wv_pick (c a b : X) : withO (pval ρ h (.pick c a b)) K = withO (asB (ρ c)) fun t => withO (some (if t = true then ρ a else ρ b)) K := by simp [pval]
theorem wv_ldt (n : Nat) (x : X) : withO (pval ρ h (.ld true n x)) K = withO (asP (ρ x)) fun p => withO (ldc h p.1 p.2 n) fun cs => withO (some (.agg cs.toArray)) K := by simp [pval]
theorem wv_ldf (n : Nat) (x : X) : withO (pval ρ h (.ld false n x)) K = withO (asP (ρ x)) fun p => withO (ldc h p.1 p.2 1) fun cs => withO (one cs) K := by simp [pval]
theorem wv_fld (o : Nat) (x : X) : withO (pval ρ h (.fld o x)) K = withO (asP (ρ x)) fun p => withO (some (ptr p.1 (p.2 + o))) K := by simp [pval]
theorem wv_idx (w : Nat) (x i : X) : withO (pval ρ h (.idx w x i)) K = withO (asR (ρ x)) fun p => withO (asI (ρ i)) fun q => Req (0 ≤ q.2 ∧ q.2 < p.2.2) (withO (some (ptr p.1 (p.2.1 + q.2.toNat * w))) K) := by simp [pval, Req]
theorem wv_aidx (l w : Nat) (x i : X) : withO (pval ρ h (.aidx l w x i)) K = withO (asP (ρ x)) fun p => withO (asI (ρ i)) fun q => Req (0 ≤ q.2 ∧ q.2 < l) (withO (some (ptr p.1 (p.2 + q.2.toNat * w))) K) := by simp [pval, Req]
theorem wv_ixt (l w : Nat) (x i : X) : withO (pval ρ h (.ix true l w x i)) K = withO (asA (ρ x)) fun cs => withO (asI (ρ i)) fun q => Req (0 ≤ q.2 ∧ q.2 < l) (withO (some (.agg ((cs.drop (q.2.toNat * w)).take w).toArray)) K) := by simp [pval, Req]
theorem wv_ixf (l w : Nat) (x i : X) : withO (pval ρ h (.ix false l w x i)) K = withO (asA (ρ x)) fun cs => withO (asI (ρ i)) fun q => Req (0 ≤ q.2 ∧ q.2 < l) (withO (cs[q.2.toNat * w]?) K) := by
 simp only [pval, withO_bind, Req]
 congr 1; funext cs; congr 1; funext q
 by_cases hq : 0 ≤ q.2 ∧ q.2 < (l : Int) <;> simp [hq]
theorem wv_bin (op : BinOp) (x y : X) : withO (pval ρ h (.bin op x y)) K = withO (obin op (ρ x) (ρ y)) K := rfl
theorem wv_eqb (n : Bool) (x y : X) : withO (pval ρ h (.eqb n x y)) K = withO (asB (ρ x)) fun a => withO (asB (ρ y)) fun b => withO (some (negv n (decide (a = b)))) K := by simp [pval]
theorem wv_eqs (n : Bool) (x y : X) : withO (pval ρ h (.eqs n x y)) K = withO (oeqs (ρ x) (ρ y)) fun t => withO (some (negv n t)) K := by simp [pval]
theorem wv_eqa (n : Bool) (pl : List LK) (x y : X) : withO (pval ρ h (.eqa n pl x y)) K = withO (asA (ρ x)) fun a => withO (asA (ρ y)) fun b => Req (a.length = pl.length ∧ b.length = pl.length ∧ (a ++ b).all Value.oneCell' = true) (withO (cellsEq pl a b) fun t => withO (some (negv n t)) K) := by
 simp only [pval, withO_bind, Req]
 congr 1; funext a; congr 1; funext b
 by_cases hq : a.length = pl.length ∧ b.length = pl.length ∧ (a ++ b).all Value.oneCell' = true
 ·rw [if_pos hq]; simp [hq]
 ·rw [if_neg hq]; simp only [withO_none]; exact (eq_false (fun h => hq h.1)).symm
theorem wv_un (op : UnOp) (x : X) : withO (pval ρ h (.un op x)) K = withO (oun op (ρ x)) K := rfl
theorem wv_cv (k : IntKind) (x : X) : withO (pval ρ h (.cv k x)) K = withO (asI (ρ x)) fun q => withO (some (.int k (k.wrap q.2))) K := by simp [pval]
theorem wv_sidx (x i : X) : withO (pval ρ h (.sidx x i)) K = withO (asS (ρ x)) fun s => withO (asI (ρ i)) fun q => Req (0 ≤ q.2) (withO (s[q.2.toNat]?) fun b => withO (some (.int .u8 b.toNat)) K) := by
 simp only [pval, withO_bind, Req]
 congr 1; funext s; congr 1; funext q
 by_cases hq : 0 ≤ q.2 <;> simp [hq]
theorem wv_ssl (x : X) (lo hi : Option X) : withO (pval ρ h (.ssl x lo hi)) K = withO (asS (ρ x)) fun s => withO (bnd (hi.map ρ) s.length s.length) fun hh => withO (bnd (lo.map ρ) 0 hh) fun l => withO (some (str ((s.take hh).drop l))) K := by simp [pval]
theorem wv_lsls (w : Nat) (x lo : X) (hi : Option X) : withO (pval ρ h (.lsl w x (some lo) hi)) K = withO (asL (ρ x)) fun p => withO (bnd (hi.map ρ) p.2.1 p.2.2) fun hh => withO (bnd (some (ρ lo)) 0 hh) fun l => withO (some (.slice (if p.2.2 = l then p.1 else p.1.map (·.add (l * w))) (hh - l) (p.2.2 - l))) K := by simp [pval]
theorem wv_lsln (w : Nat) (x : X) (hi : Option X) : withO (pval ρ h (.lsl w x none hi)) K = withO (asL (ρ x)) fun p => withO (bnd (hi.map ρ) p.2.1 p.2.2) fun hh => withO (some (.slice p.1 hh p.2.2)) K := by
 have e : ∀ (a : Option Addr) (c : Nat), (if c = 0 then a else a.map (·.add (0 * w))) = a := fun a c => by
  split
  ·rfl
  ·cases a with
   | none => rfl
   | some a => simp only [Option.map_some, Nat.zero_mul, Addr.add, if_true]
 simp only [pval, withO_bind, Option.map_none, show ∀ y, bnd none 0 y = some 0 from fun _ => rfl, withO_some, e, Nat.sub_zero]
theorem wv_len (x : X) : withO (pval ρ h (.len x)) K = withO (asL (ρ x)) fun p => withO (some (.int .i64 p.2.1)) K := by simp [pval]
theorem wv_slen (x : X) : withO (pval ρ h (.slen x)) K = withO (asS (ρ x)) fun s => withO (some (.int .i64 s.length)) K := by simp [pval]
theorem wv_alen (n : Nat) : withO (pval ρ h (.alen n)) K = withO (some (.int .i64 n)) K := by simp [pval]
theorem wv_partt (o n : Nat) (x : X) : withO (pval ρ h (.part true o n x)) K = withO (asA (ρ x)) fun cs => withO (some (.agg ((cs.drop o).take n).toArray)) K := by simp [pval]
theorem wv_partf (o n : Nat) (x : X) : withO (pval ρ h (.part false o n x)) K = withO (asA (ρ x)) fun cs => withO (cs[o]?) K := by simp [pval]
theorem wv_ext (k : Nat) (x : X) : withO (pval ρ h (.ext k x)) K = withO (asT (ρ x)) fun cs => withO (cs[k]?) K := by simp [pval]
theorem wv_build (z : List Value) (ps : List (Nat × Nat × X)) : withO (pval ρ h (.build z ps)) K = withO (fillL z (ps.map fun p => (p.1, p.2.1, ρ p.2.2))) fun cs => withO (some (.agg cs.toArray)) K := by simp [pval]
theorem wv_mkf (fn : Nat) (caps : List X) : withO (pval ρ h (.mkf fn caps)) K = withO (some (.func (.func fn) #[] (caps.map ρ).toArray)) K := by simp [pval]
theorem wv_mn (x y : X) : withO (pval ρ h (.mn x y)) K = withO (asI (ρ x)) fun a => withO (asI (ρ y)) fun b => withO (some (.int a.1 (if b.2 < a.2 then b.2 else a.2))) K := by simp [pval]
theorem wv_mx (x y : X) : withO (pval ρ h (.mx x y)) K = withO (asI (ρ x)) fun a => withO (asI (ρ y)) fun b => withO (some (.int a.1 (if b.2 > a.2 then b.2 else a.2))) K := by simp [pval]
theorem wv_b2s (x : X) : withO (pval ρ h (.b2s x)) K = withO (asR (ρ x)) fun p => Br (p.2.2 = 0) (withO (some (str [])) K) (withO (ldc h p.1 p.2.1 p.2.2) fun cs => withO (bytesOf cs) fun r => withO (some (str r)) K) := by
 simp only [pval, withO_bind]
 congr 1; funext p
 by_cases hp : p.2.2 = 0 <;> simp [hp, Br]
theorem wv_nck (x : X) : withO (pval ρ h (.nck x)) K = Req (nckv (ρ x) = true) (withO (some (ρ x)) K) := by simp [pval, Req]
theorem wv_lsl3 (w : Nat) (x lo hi mx : X) : withO (pval ρ h (.lsl3 w x lo hi mx)) K = withO (asL (ρ x)) fun p => withO (bnd (some (ρ mx)) 0 p.2.2) fun m => withO (bnd (some (ρ hi)) 0 m) fun hh => withO (bnd (some (ρ lo)) 0 hh) fun l => withO (some (.slice (if m = l then p.1 else p.1.map (·.add (l * w))) (hh - l) (m - l))) K := by simp [pval]
theorem wv_mlk (z : Value) (x k : X) : withO (pval ρ h (.mlk z x k)) K = withO (asM (ρ x)) fun b => withO (h.mp b) fun l => withO (asI (ρ k)) fun q => withO (mfind q.1 q.2 l 0) fun r => withO (some (match r with | some (_, v) => v | none => z)) K := by simp only [pval, withO_bind, withO_some]; rfl
theorem wv_mln (x : X) : withO (pval ρ h (.mln x)) K = withO (asM (ρ x)) fun b => withO (h.mp b) fun l => withO (some (.int .i64 l.length)) K := by simp [pval]
end
theorem bnd_n (d y : Nat) : bnd none d y = some d := rfl
theorem bnd_s (v : Value) (d y : Nat) (K : Nat → Prop) : withO (bnd (some v) d y) K = withO (asI v) fun p => Req (0 ≤ p.2 ∧ p.2 ≤ y) (K p.2.toNat) := by simp [bnd, Req]

section
variable {P : Program} (ρ : X → Value) (h : H) (K : Value → H → Prop)
theorem wo_p (o : PO) : owp P ρ h K (.p o) = withO (pval ρ h o) fun v => K v h := rfl
theorem wo_box (x : X) : owp P ρ h K (.box x) = withO (some (vcl (ρ x))) fun cs => withO (some cs.length) fun n => freshK h fun b => K (ptr b 0) (h.set b ⟨cs, n⟩) := by simp [owp]
theorem wo_alloc (z : List Value) : owp P ρ h K (.alloc z) = withO (some z.length) fun n => freshK h fun b => K (ptr b 0) (h.set b ⟨z, n⟩) := by simp [owp]
theorem wo_bsl (n : Nat) (z : List Value) (ps : List (Nat × Nat × X)) : owp P ρ h K (.bsl n z ps) = withO (fillL z (ps.map fun p => (p.1, p.2.1, ρ p.2.2))) fun cs => withO (some cs.length) fun m => freshK h fun b => K (sl b 0 n n) (h.set b ⟨cs, m⟩) := by simp [owp]
theorem wo_st (n : Nat) (a x : X) : owp P ρ h K (.st n a x) = withO (asP (ρ a)) fun p => Req (h.base ≤ p.1) (withO (stc h p.1 p.2 (vcl (ρ x)) n) fun h' => K undef h') := rfl
def appW (h : H) (w by_ : Nat) (p : Option Addr × Nat × Nat) (q : Nat × List Value) (K : Value → H → Prop) : Prop := (p.2.1 + q.1) * by_ ≤ 70368744177664 ∧ q.2.all Value.oneCell' = true ∧ q.2.length = q.1 * w ∧
   match p.1 with
   | none => p.2 = (0, 0) ∧ if q.1 = 0 then K nils h else freshK h fun b => ∀ c, q.1 ≤ c → K (sl b 0 q.1 c) (h.set b ⟨q.2, c * w⟩)
   | some ⟨b, o, none⟩ => o = 0 ∧ h.base ≤ b ∧ withO (h.get b) fun ob => p.2.2 * w ≤ ob.size ∧
     ((p.2.1 * w = ob.cells.length ∧ ∀ b' c z, (b' = b ∨ h.get b' = none) → h.base ≤ b' → p.2.1 + q.1 ≤ c → c * w ≤ z → K (sl b' 0 (p.2.1 + q.1) c) (h.set b' ⟨ob.cells ++ q.2, z⟩)) ∨
     (p.2.1 + q.1 ≤ p.2.2 ∧ (p.2.1 + q.1) * w ≤ ob.cells.length ∧ K (sl b 0 (p.2.1 + q.1) p.2.2) (h.set b ⟨splice ob.cells (p.2.1 * w) q.2, ob.size⟩)))
   | _ => False
theorem wo_app (w by_ : Nat) (s x : X) : owp P ρ h K (.app w by_ s x) = withO (asL (ρ s)) fun p => withO (srcOf h w (ρ x)) fun q => appW h w by_ p q K := rfl
@[congr] theorem appW_congr' {h : H} {w by_ : Nat} {p p' : Option Addr × Nat × Nat} {q q' : Nat × List Value} {d : Prop} {K : Value → H → Prop} (e : p = p') (e2 : q = q') (h2 : Dum w = d) : appW h w by_ p q K = appW h w by_ p' q' K := by rw [e, e2]
theorem wo_cpy (w : Nat) (d s : X) : owp P ρ h K (.cpy w d s) = withO (asL (ρ d)) fun p => withO (srcOf h w (ρ s)) fun q => Req (q.2.length = q.1 * w)
   (match p.1 with
   | none => K (i64 (Nat.min q.1 p.2.1 : Nat)) h
   | some ⟨b, o, none⟩ => Req (h.base ≤ b) (withO (stc h b o (q.2.take (Nat.min q.1 p.2.1 * w)) (Nat.min q.1 p.2.1 * w)) fun h' => K (i64 (Nat.min q.1 p.2.1 : Nat)) h')
   | _ => False) := rfl
theorem wo_mks (w by_ : Nat) (z : List Value) (l c : X) : owp P ρ h K (.mks w by_ z l c) = withO (asI (ρ l)) fun l => withO (asI (ρ c)) fun c => Req (0 ≤ l.2 ∧ l.2 ≤ c.2 ∧ c.2 < 1099511627776 ∧ by_ * c.2 ≤ 140737488355328)
   (withO (some (l.2.toNat, c.2.toNat)) fun p => freshK h fun b => K (sl b 0 p.1 p.2) (h.set b ⟨(List.replicate p.2 z).flatten, p.2 * w⟩)) := by simp [owp, Req, and_assoc]
theorem wo_s2b (x : X) : owp P ρ h K (.s2b x) = withO (asS (ρ x)) fun s => freshK h fun b => ∀ c, s.length ≤ c → K (sl b 0 s.length c) (h.set b ⟨u8s s, c⟩) := rfl
theorem wo_call (f : X) (args : List X) : owp P ρ h K (.call f args) = withO (asFn (ρ f)) fun p => AC P p.1 (p.2.1 ++ args.map ρ ++ p.2.2) h K := rfl
theorem wo_bad : owp P ρ h K .bad = False := rfl
theorem wo_mkm : owp P ρ h K .mkm = freshM h fun b => K (.map (some b)) (h.setm b []) := rfl
theorem wo_mup (m k v : X) : owp P ρ h K (.mup m k v) = withO (asM (ρ m)) fun b => withO (h.mp b) fun l => withO (asI (ρ k)) fun q => withO (mfind q.1 q.2 l 0) fun r =>
   withO (some (match r with | some (i, _) => l.set i (.int q.1 q.2, ρ v) | none => l ++ [(.int q.1 q.2, ρ v)])) fun l' => K undef (h.setm b l') := by simp only [owp, withO_some]; rfl
theorem wo_clr (w : Nat) (z : List Value) (x : X) : owp P ρ h K (.clr w z x) = withO (asL (ρ x)) fun p =>
   match p.1, p.2.1 with
   | none, _ => K (.tuple #[]) h
   | _, 0 => K (.tuple #[]) h
   | some ⟨b, o, none⟩, n => Req (h.base ≤ b) (withO (stc h b o (List.replicate n z).flatten (n * w)) fun h' => K (.tuple #[]) h')
   | _, _ => False := rfl
end
theorem ev_t (f : Fr) (i : Nat) : ev f (.t i) = f i := rfl
theorem ev_c (f : Fr) (v : Value) : ev f (.c v) = v := rfl

def loopW (P : Program) (c : C) (Q : Ex → Fr → H → Prop) (f : Fr) (h : H) : Prop := wpc P (.loop c) Q f h
@[congr] theorem loopW_congr' {c : C} {Q : Ex → Fr → H → Prop} {f : Fr} {h : H} {d : Prop} (h2 : Dum h = d) : loopW P c Q f h = loopW P c Q f h := rfl
def thenQ (P : Program) (b : C) (Q : Ex → Fr → H → Prop) : Ex → Fr → H → Prop := fun e f h => match e with | .nor => wpc P b Q f h | e => Q e f h
def blkQ (id : Nat) (Q : Ex → Fr → H → Prop) : Ex → Fr → H → Prop := fun e f h => match e with | .exit i => if i = id then Q .nor f h else Q (.exit i) f h | e => Q e f h
def loopQ (I : Nat → Fr → H → Prop) (m : Nat) (Q : Ex → Fr → H → Prop) : Ex → Fr → H → Prop := fun e f h => match e with | .nor => ∃ m', m' < m ∧ ∃ h'', Ext h'' h ∧ I m' f h'' | e => Q e f h

section
variable (Q : Ex → Fr → H → Prop) (f : Fr) (h : H) (K : Fr → H → Prop)
theorem wpc_skip : wpc P .skip Q f h = Q .nor f h := rfl
theorem wpc_ops (l : List GO) : wpc P (.ops l) Q f h = opsw P l f h (Q .nor) := rfl
theorem wpc_dops_t (p : DP) : wpc P (.dops true p) Q f h = dopw P h p f h (Q .nor) := rfl
theorem wpc_dops_f (p : DP) : wpc P (.dops false p) Q f h = dopw P h.none p f h (Q .nor) := rfl
def dopX (P : Program) (p : DP) (f : Fr) (h : H) (K : Fr → H → Prop) : Prop := ∃ hS, Sub hS h ∧ dopw P hS p f h K
theorem wpc_dopx (p : DP) : wpc P (.dopx p) Q f h = dopX P p f h (Q .nor) := rfl
theorem wpc_seq (a b : C) : wpc P (.seq a b) Q f h = wpc P a (thenQ P b Q) f h := rfl
theorem wpc_cond (x : X) (a b : C) : wpc P (.cond x a b) Q f h = withO (asB (ev f x)) fun t => Br (t = true) (wpc P a Q f h) (wpc P b Q f h) := by simp only [← Br_ite]; rfl
theorem wpc_block (id : Nat) (c : C) : wpc P (.block id c) Q f h = wpc P c (blkQ id Q) f h := rfl
theorem wpc_loop (c : C) : wpc P (.loop c) Q f h = loopW P c Q f h := rfl
theorem wpc_exit (id : Nat) : wpc P (.exit id) Q f h = Q (.exit id) f h := rfl
theorem wpc_ret : wpc P .ret Q f h = Q .ret f h := rfl
theorem thenQ_nor (b : C) : thenQ P b Q .nor f h = wpc P b Q f h := rfl
theorem thenQ_exit (b : C) (i : Nat) : thenQ P b Q (.exit i) f h = Q (.exit i) f h := rfl
theorem thenQ_ret (b : C) : thenQ P b Q .ret f h = Q .ret f h := rfl
theorem blkQ_nor (i : Nat) : blkQ i Q .nor f h = Q .nor f h := rfl
theorem blkQ_exit (i j : Nat) : blkQ i Q (.exit j) f h = if j = i then Q .nor f h else Q (.exit j) f h := rfl
theorem blkQ_ret (i : Nat) : blkQ i Q .ret f h = Q .ret f h := rfl
theorem loopQ_nor (I : Nat → Fr → H → Prop) (m : Nat) : loopQ I m Q .nor f h = ∃ m', m' < m ∧ ∃ h'', Ext h'' h ∧ I m' f h'' := rfl
theorem loopQ_exit (I : Nat → Fr → H → Prop) (m i : Nat) : loopQ I m Q (.exit i) f h = Q (.exit i) f h := rfl
theorem loopQ_ret (I : Nat → Fr → H → Prop) (m : Nat) : loopQ I m Q .ret f h = Q .ret f h := rfl
theorem opsw_nil : opsw P [] f h K = K f h := rfl
theorem opsw_cons (g : GO) (l : List GO) : opsw P (g :: l) f h K = gow P g f h fun f' h' => opsw P l f' h' K := rfl
theorem gow_n (d : Option Nat) (o : O) : gow P ⟨d, none, o⟩ f h K = owp P (ev f) h (fun v h' => K (putf f d v) h') o := rfl
theorem gow_g (d : Option Nat) (t : Nat) (b : Bool) (o : O) : gow P ⟨d, some (t, b), o⟩ f h K = withO (some (goes f (some (t, b)))) fun z => Br (z = true) (owp P (ev f) h (fun v h' => K (putf f d v) h') o) (K (putf f d undef) h) := by simp [gow, ← Br_ite]
theorem goes_app (t : Nat) (b : Bool) : goes f (some (t, b)) = gob (f t) b := rfl
theorem putf_s (d : Nat) (v : Value) : putf f (some d) v = upd f d v := rfl
theorem putf_n (v : Value) : putf f none v = f := rfl
theorem dopw_nil (hS : H) : dopw P hS .nil f h K = K f h := rfl
theorem dopw_tk (hS : H) (d : Option Nat) (o : PO) (r : DP) : dopw P hS (.tk ⟨d, none, .p o⟩ r) f h K = withO (pval (ev f) hS o) fun v => dopw P hS r (putf f d v) h K := rfl
theorem dopw_tkg (hS : H) (d : Option Nat) (t : Nat) (b : Bool) (o : PO) (r : DP) : dopw P hS (.tk ⟨d, some (t, b), .p o⟩ r) f h K =
  withO (some (goes f (some (t, b)))) fun z => Br (z = true) (withO (pval (ev f) hS o) fun v => dopw P hS r (putf f d v) h K) (dopw P hS r (putf f d undef) h K) := by simp [dopw, pvalO, ← Br_ite]
theorem dopw_sq (hS : H) (g : GO) (r : DP) : dopw P hS (.sq g r) f h K = gow P g f h fun f' h' => Sub hS h' ∧ dopw P hS r f' h' K := rfl
theorem dopw_lt (hS : H) (g : GO) (r : DP) : dopw P hS (.lt g r) f h K = gow P g f h fun f' h' => dopw P h'.none r f' h' K := rfl
theorem dopw_alt3 (hS : H) (g g' g2 : GO) (r r' r2 : DP) : dopw P hS (.alt3 g r g' r' g2 r2) f h K = ((gow P g f h fun f' h' => Sub hS h' ∧ dopw P hS r f' h' K) ∧ (gow P g' f h fun f' h' => Sub hS h' ∧ dopw P hS r' f' h' K) ∧ (gow P g2 f h fun f' h' => Sub hS h' ∧ dopw P hS r2 f' h' K)) := rfl
theorem dopw_alt (hS : H) (g g' : GO) (r r' : DP) : dopw P hS (.alt g r g' r') f h K = ((gow P g f h fun f' h' => Sub hS h' ∧ dopw P hS r f' h' K) ∧ (gow P g' f h fun f' h' => Sub hS h' ∧ dopw P hS r' f' h' K)) := rfl
end
theorem gob_bt (a : Bool) : gob (.bool a) true = a := by cases a <;> rfl
theorem gob_bf (a : Bool) : gob (.bool a) false = !a := by cases a <;> rfl
theorem gob_u (b : Bool) : gob undef b = false := rfl
theorem gob_t (cs : Array Value) (b : Bool) : gob (.tuple cs) b = false := rfl

theorem retw_ret (F : List R) (Q : Value → H → Prop) (f : Fr) (h : H) : retw F Q .ret f h = withO (rvs f h F) fun vs => Q (tup vs) h := rfl
theorem retw_nor (F : List R) (Q : Value → H → Prop) (f : Fr) (h : H) : retw F Q .nor f h = withO (rvs f h F) fun vs => Q (tup vs) h := rfl
theorem rvs_nil (f : Fr) (h : H) : rvs f h [] = some [] := rfl
theorem rvs_tmp (f : Fr) (h : H) (t : Nat) (l : List R) (K : List Value → Prop) : withO (rvs f h (.tmp t :: l)) K = withO (rvs f h l) fun vs => K (f t :: vs) := by simp [rvs, rv]
theorem rvs_cell (f : Fr) (h : H) (t n : Nat) (a : Bool) (l : List R) (K : List Value → Prop) : withO (rvs f h (.cell t a n :: l)) K = withO (pval (ev f) h (.ld a n (.t t))) fun v => withO (rvs f h l) fun vs => K (v :: vs) := by simp [rvs, rv]
theorem tup_one (v : Value) : tup [v] = v := rfl
theorem tup_two (v u : Value) (l : List Value) : tup (v :: u :: l) = .tuple (v :: u :: l).toArray := rfl

theorem loopW_of {c : C} {Q : Ex → Fr → H → Prop} {f : Fr} {h : H} (I : Nat → Fr → H → Prop) (m : Nat) (h0 : I m f h)
  (round : ∀ m f h, I m f h → wpc P c (loopQ I m Q) f h) : loopW P c Q f h := ⟨I, ⟨m, h0⟩, round⟩

theorem AC_of {n : FuncId} {args : List Value} {h : H} {Q Q' : Value → H → Prop} (c : AC P n args h Q) (hq : ∀ v h', h'.base = h.base → Q v h' → Q' v h') : AC P n args h Q' := c.mono hq
def PC (P : Program) (n : FuncId) (args : List Value) (h : H) (v : Value) : Prop := AC P n args h fun r h' => h' = h ∧ r = v
theorem PC_of {n : FuncId} {args : List Value} {h : H} {v : Value} (c : AC P n args h fun r h' => Ext h h' ∧ r = v) : PC P n args h v :=
 ⟨c.1, fun w0 w r => (c.2 w0 w r).mono fun e w' ⟨v, h', he, hb, hr, hx, hv⟩ => ⟨v, h, he, rfl, hr.weaken hx, rfl, hv⟩⟩
theorem AC_keep {n : FuncId} {args : List Value} {h : H} {Q : Value → H → Prop} (c : AC P n args h fun r h' => ∃ h'', Ext h'' h' ∧ h''.base = h.base ∧ Q r h'') : AC P n args h Q :=
 ⟨c.1, fun w0 w r => (c.2 w0 w r).mono fun e w' ⟨v, h', he, hb, hr, h'', hx, hb2, hq⟩ => ⟨v, h'', he, hb2, hr.weaken hx, hq⟩⟩
theorem PC.use {n : FuncId} {args : List Value} {h : H} {v : Value} {Q : Value → H → Prop} (c : PC P n args h v) (hq : Q v h) : AC P n args h Q := c.mono fun _ _ _ ⟨h1, h2⟩ => by rw [h1, h2]; exact hq
theorem bi_add (k : IntKind) (a b : Int) : obin .add (.int k a) (.int k b) = some (.int k (k.wrap (a + b))) := by simp [obin, ibin]
theorem bi_sub (k : IntKind) (a b : Int) : obin .sub (.int k a) (.int k b) = some (.int k (k.wrap (a - b))) := by simp [obin, ibin]
theorem bi_mul (k : IntKind) (a b : Int) : obin .mul (.int k a) (.int k b) = some (.int k (k.wrap (a * b))) := by simp [obin, ibin]
theorem bi_quo (k : IntKind) (a b : Int) : obin .quo (.int k a) (.int k b) = if b = 0 then none else some (.int k (k.wrap (a.tdiv b))) := by simp [obin, ibin]
theorem bi_rem (k : IntKind) (a b : Int) : obin .rem (.int k a) (.int k b) = if b = 0 then none else some (.int k (a.tmod b)) := by simp [obin, ibin]
theorem bi_and (k : IntKind) (a b : Int) : obin .and (.int k a) (.int k b) = some (.int k (k.wrap (BitVec.ofInt k.bits a &&& BitVec.ofInt k.bits b).toNat)) := by simp [obin, ibin]
theorem bi_or (k : IntKind) (a b : Int) : obin .or (.int k a) (.int k b) = some (.int k (k.wrap (BitVec.ofInt k.bits a ||| BitVec.ofInt k.bits b).toNat)) := by simp [obin, ibin]
theorem bi_xor (k : IntKind) (a b : Int) : obin .xor (.int k a) (.int k b) = some (.int k (k.wrap (BitVec.ofInt k.bits a ^^^ BitVec.ofInt k.bits b).toNat)) := by simp [obin, ibin]
theorem bi_andNot (k : IntKind) (a b : Int) : obin .andNot (.int k a) (.int k b) = some (.int k (k.wrap (BitVec.ofInt k.bits a &&& ~~~(BitVec.ofInt k.bits b)).toNat)) := by simp [obin, ibin]
theorem bi_eql (k : IntKind) (a b : Int) : obin .eql (.int k a) (.int k b) = some (.bool (decide (a = b))) := by simp [obin, ibin]
theorem bi_neq (k : IntKind) (a b : Int) : obin .neq (.int k a) (.int k b) = some (.bool (decide (¬ a = b))) := by simp [obin, ibin]
theorem bi_lss (k : IntKind) (a b : Int) : obin .lss (.int k a) (.int k b) = some (.bool (decide (a < b))) := by simp [obin, ibin]
theorem bi_leq (k : IntKind) (a b : Int) : obin .leq (.int k a) (.int k b) = some (.bool (decide (a ≤ b))) := by simp [obin, ibin]
theorem bi_gtr (k : IntKind) (a b : Int) : obin .gtr (.int k a) (.int k b) = some (.bool (decide (b < a))) := by simp [obin, ibin]
theorem bi_geq (k : IntKind) (a b : Int) : obin .geq (.int k a) (.int k b) = some (.bool (decide (b ≤ a))) := by simp [obin, ibin]
theorem bi_shl (k k' : IntKind) (a b : Int) : obin .shl (.int k a) (.int k' b) = if b < 0 then none else some (.int k (k.wrap (a * 2 ^ (min b.toNat k.bits)))) := by simp [obin, shiftv]
theorem bi_shr (k k' : IntKind) (a b : Int) : obin .shr (.int k a) (.int k' b) = if b < 0 then none else some (.int k (a.fdiv (2 ^ (min b.toNat k.bits)))) := by simp [obin, shiftv]
theorem bs_add (a b : List UInt8) : obin .add (str a) (str b) = if a.length + b.length ≤ 4611686018427387904 then some (str (a ++ b)) else none := by simp [obin, sbin, str]
theorem bs_eql (a b : List UInt8) : obin .eql (str a) (str b) = some (.bool (decide (a = b))) := by simp [obin, sbin, str]
theorem bs_neq (a b : List UInt8) : obin .neq (str a) (str b) = some (.bool (decide (¬ a = b))) := by simp [obin, sbin, str]
theorem un_not (b : Bool) : oun .not (.bool b) = some (.bool (!b)) := rfl
theorem un_neg (k : IntKind) (n : Int) : oun .neg (.int k n) = some (.int k (k.wrap (0 - n))) := rfl
theorem un_xor (k : IntKind) (n : Int) : oun .xor (.int k n) = some (.int k (k.wrap (BitVec.ofInt k.bits (if k.signed then -1 else k.max) ^^^ BitVec.ofInt k.bits n).toNat)) := rfl
theorem es_any (b : Option Addr) (n c n' c' : Nat) : oeqs (.slice b n c) (.slice none n' c') = some b.isNone := by cases b <;> rfl
theorem one_mk (v : Value) : one [v] = some v := rfl
theorem ng_f (t : Bool) : negv false t = .bool t := rfl
theorem ng_t (t : Bool) : negv true t = .bool (!t) := rfl
theorem nck_ptr (a : Addr) : nckv (.pointer (some a)) = true := rfl
theorem nck_fn (n : Nat) (a b : Array Value) : nckv (.func (.func n) a b) = true := rfl
theorem le_i (k : IntKind) (a b : Int) : leafEq .i (.int k a) (.int k b) = some (decide (a = b)) := by simp [leafEq]
theorem le_s (a b : List UInt8) : leafEq .s (str a) (str b) = some (decide (a = b)) := by simp [leafEq, str]
theorem srcOf_str (h : H) (w : Nat) (l : List UInt8) : srcOf h w (str l) = some (l.length, u8s l) := by simp [srcOf, str]
theorem srcOf_nil (h : H) (w : Nat) (a : Option Addr) (c : Nat) : srcOf h w (.slice a 0 c) = some (0, []) := by cases a <;> rfl
theorem srcOf_sl (h : H) (w b o n c : Nat) : srcOf h w (sl b o (n + 1) c) = (ldc h b o ((n + 1) * w)).bind fun cs => some (n + 1, cs) := rfl
end
end Go.KH
namespace Go.KH
open Go.RowKit

theorem Ext.set {a h : H} (e : Ext a h) {b : Nat} (hn : h.get b = none) (ob : Ob) : Ext a (h.set b ob) :=
 ⟨e.1, fun c oc hc => by
  rw [H.set_get]
  split
  ·rename_i e'; subst e'; have := e.2.g _ _ hc; rw [hn] at this; cases this
  ·exact e.2.g c oc hc, e.2.m⟩
theorem Sub.set {a h : H} (e : Sub a h) {b : Nat} (hn : h.get b = none) (ob : Ob) : Sub a (h.set b ob) := ⟨fun c oc hc => by
  rw [H.set_get]
  split
  ·rename_i e'; subst e'; have := e.g _ _ hc; rw [hn] at this; cases this
  ·exact e.g c oc hc, e.m⟩
theorem Ext.none {a h : H} (e : Ext a h) {b : Nat} (hn : h.get b = .none) : a.get b = .none := by
 cases hb : a.get b with
 | none => rfl
 | some ob => have := e.2.g _ _ hb; rw [hn] at this; cases this
theorem Ext.set' {a h : H} (e : Ext a h) {b : Nat} (hn : a.get b = .none) (ob : Ob) : Ext a (h.set b ob) :=
 ⟨e.1, fun c oc hc => by
  rw [H.set_get]
  split
  ·rename_i e'; subst e'; rw [hn] at hc; cases hc
  ·exact e.2.g c oc hc, e.2.m⟩

theorem ldc_sub {h h' : H} (s : Sub h h') {b o n : Nat} {cs : List Value} (hl : ldc h b o n = some cs) : ldc h' b o n = some cs := by
 unfold ldc at hl ⊢
 cases hb : h.get b with
 | none => rw [hb] at hl; cases hl
 | some ob => rw [s.g b ob hb]; rw [hb] at hl; exact hl
theorem ldc_set_same (h : H) (b o n : Nat) (ob : Ob) : ldc (h.set b ob) b o n = if o + n ≤ ob.cells.length then some ((ob.cells.drop o).take n) else none := by
 simp [ldc]
theorem ldc_set_ne {h : H} {b c o n : Nat} {ob : Ob} (hn : c ≠ b) : ldc (h.set b ob) c o n = ldc h c o n := by
 simp [ldc, H.set_get_ne _ _ _ _ hn]
theorem ldc_part {h : H} {b o n : Nat} {cs : List Value} (hl : ldc h b o n = some cs) (k m : Nat) (hk : k + m ≤ n) : ldc h b (o + k) m = some ((cs.drop k).take m) := by
 unfold ldc at hl ⊢
 cases hb : h.get b with
 | none => rw [hb] at hl; cases hl
 | some ob =>
  rw [hb] at hl
  simp only at hl ⊢
  split at hl
  ·simp only [Option.some.injEq] at hl; subst hl
   rw [if_pos (by omega), List.drop_take, List.take_take, List.drop_drop, Nat.min_eq_left (by omega)]
  ·cases hl
theorem stc_same (h : H) (b o n : Nat) (ob : Ob) (cs : List Value) : stc (h.set b ob) b o cs n = if cs.length = n ∧ o + n ≤ ob.cells.length ∧ cs.all Value.oneCell' = true then some (h.set b ⟨splice ob.cells o cs, ob.size⟩) else none := by
 simp [stc, H.set_set]
theorem ldc_set (h : H) (b c o n : Nat) (ob : Ob) : ldc (h.set b ob) c o n = if c = b then (if o + n ≤ ob.cells.length then some ((ob.cells.drop o).take n) else none) else ldc h c o n := by
 split
 ·rename_i e; subst e; exact ldc_set_same ..
 ·rename_i e; exact ldc_set_ne e
theorem H.set_comm (h : H) {b c : Nat} (x y : Ob) (hn : c ≠ b) : (h.set b x).set c y = (h.set c y).set b x := by
 simp only [H.set]
 congr 1
 funext d
 by_cases h1 : d = c
 ·subst h1; simp [hn]
 ·simp [h1]
theorem stc_set (h : H) (b c o n : Nat) (ob : Ob) (cs : List Value) : stc (h.set b ob) c o cs n = if c = b then (if cs.length = n ∧ o + n ≤ ob.cells.length ∧ cs.all Value.oneCell' = true then some (h.set b ⟨splice ob.cells o cs, ob.size⟩) else none) else (stc h c o cs n).map fun h' => h'.set b ob := by
 split
 ·rename_i e; subst e; exact stc_same ..
 ·rename_i e
  unfold stc
  rw [H.set_get_ne _ _ _ _ e]
  cases h.get c with
  | none => rfl
  | some oc =>
   simp only [Option.bind_some]
   split
   ·simp only [Option.map_some]; rw [H.set_comm _ _ _ e]
   ·rfl
theorem fne {h : H} {b c : Nat} {o : Ob} (hn : (h.set c o).get b = none) : (b = c) = False ∧ (c = b) = False ∧ h.get b = none := by
 have : b ≠ c := fun e => by subst e; simp at hn
 exact ⟨eq_false this, eq_false (Ne.symm this), by rw [H.set_get_ne _ _ _ _ this] at hn; exact hn⟩
theorem withO_map {α β : Type} (o : Option α) (g : α → β) (K : β → Prop) : withO (o.map g) K = withO o fun a => K (g a) := by cases o <;> simp
theorem oneCell_int (k : IntKind) (n : Int) : Value.oneCell' (.int k n) = true := rfl
theorem oneCell_bool (b : Bool) : Value.oneCell' (.bool b) = true := rfl
theorem oneCell_str (l : List UInt8) : Value.oneCell' (str l) = true := rfl
theorem oneCell_slice (a : Option Addr) (n c : Nat) : Value.oneCell' (.slice a n c) = true := rfl
theorem oneCell_ptr (a : Option Addr) : Value.oneCell' (.pointer a) = true := rfl
theorem cells_agg (l : List Value) : vcl (Value.agg l.toArray) = l := rfl
theorem cells_int (k : IntKind) (n : Int) : vcl (Value.int k n) = [.int k n] := rfl
theorem cells_bool (b : Bool) : vcl (Value.bool b) = [.bool b] := rfl
theorem cells_str (l : List UInt8) : vcl (str l) = [str l] := rfl
theorem cells_slice (a : Option Addr) (n c : Nat) : vcl (Value.slice a n c) = [.slice a n c] := rfl
theorem cells_ptr (a : Option Addr) : vcl (Value.pointer a) = [.pointer a] := rfl

def Sl (h : H) (v : Value) (w : Nat) (rows : List (List Value)) : Prop :=
 ∃ a c b o, v = .slice a rows.length c ∧ rows.length ≤ c ∧ asR v = some (b, o, rows.length) ∧ ∀ (i : Nat) r, rows[i]? = some r → ldc h b (o + i * w) w = some r
theorem Sl.sub {h h' : H} {v : Value} {w : Nat} {rows : List (List Value)} (s : Sl h v w rows) (e : Sub h h') : Sl h' v w rows := by
 obtain ⟨a, c, b, o, h1, hc, h2, h3⟩ := s
 exact ⟨a, c, b, o, h1, hc, h2, fun i r hr => ldc_sub e (h3 i r hr)⟩
theorem Sl.ext {h h' : H} {v : Value} {w : Nat} {rows : List (List Value)} (s : Sl h v w rows) (e : Ext h h') : Sl h' v w rows := s.sub e.2
theorem Sl.nil (h : H) (w : Nat) : Sl h nils w [] := ⟨none, 0, 0, 0, rfl, Nat.le_refl _, rfl, by simp⟩
theorem asR_off {a : Option Addr} {n c b o : Nat} (h : asR (.slice a n c) = some (b, o, n)) (lo w m c' : Nat) (hm : m ≠ 0) (hn : n ≠ 0) : asR (.slice (if c = lo then a else a.map (·.add (lo * w))) m c') = some (b, o + (if c = lo then 0 else lo * w), m) := by
 unfold asR at h
 split at h
 ·rename_i b' o' n' c'' e
  simp only [Option.some.injEq, Prod.mk.injEq] at h
  obtain ⟨rfl, rfl, rfl⟩ := h
  simp only [Value.slice.injEq] at e
  obtain ⟨rfl, _, rfl⟩ := e
  by_cases hc : c = lo
  ·rw [if_pos hc, if_pos hc]; rfl
  ·rw [if_neg hc, if_neg hc]
   simp only [Option.map_some, addr_add]
   rfl
 ·rename_i e
  simp only [Value.slice.injEq] at e
  exact absurd e.2.1 hn
 ·cases h
theorem Sl.part {h : H} {a : Option Addr} {n c : Nat} {w : Nat} {rows : List (List Value)} (s : Sl h (.slice a n c) w rows) {lo hi : Nat} (h1 : lo ≤ hi) (h2 : hi ≤ n) :
  Sl h (.slice (if c = lo then a else a.map (·.add (lo * w))) (hi - lo) (c - lo)) w ((rows.take hi).drop lo) := by
 obtain ⟨a', c', b, o, e, hc, hr, hl⟩ := s
 simp only [Value.slice.injEq] at e
 obtain ⟨rfl, rfl, rfl⟩ := e
 have hlen : ((rows.take hi).drop lo).length = hi - lo := by simp; omega
 by_cases h0 : hi - lo = 0
 ·have e0 : (rows.take hi).drop lo = [] := List.length_eq_zero_iff.1 (by rw [hlen, h0])
  rw [h0, e0]
  have : ∃ b o, asR (.slice (if c = lo then a else a.map (·.add (lo * w))) 0 (c - lo)) = some (b, o, 0) := by
   unfold asR
   split
   ·rename_i e; simp only [Value.slice.injEq] at e; exact ⟨_, _, by rw [← e.2.1]⟩
   ·exact ⟨_, _, rfl⟩
   ·rename_i e1 e2; exact absurd rfl (e2 _ _)
  obtain ⟨b', o', hb⟩ := this
  exact ⟨_, _, b', o', rfl, Nat.zero_le _, hb, by simp⟩
 ·refine ⟨_, _, b, o + (if c = lo then 0 else lo * w), by rw [hlen], by omega, by rw [hlen]; exact asR_off hr lo w _ _ h0 (by omega), ?_⟩
  intro i r hi'
  rw [List.getElem?_drop, List.getElem?_take] at hi'
  split at hi'
  ·have := hl (lo + i) r hi'
   rw [if_neg (by omega), Nat.add_assoc, ← Nat.add_mul]
   exact this
  ·cases hi'
theorem Sl.take {h : H} {a : Option Addr} {n c w : Nat} {rows : List (List Value)} (s : Sl h (.slice a n c) w rows) {hi : Nat} (h2 : hi ≤ n) : Sl h (.slice a hi c) w (rows.take hi) := by
 have := s.part (Nat.zero_le hi) h2
 rw [Nat.sub_zero, Nat.sub_zero, List.drop_zero] at this
 have e : (if c = 0 then a else a.map (·.add (0 * w))) = a := by
  split
  ·rfl
  ·cases a with
   | none => rfl
   | some a => simp only [Option.map_some, Nat.zero_mul, Addr.add, if_true]
 rw [e] at this; exact this
end Go.KH
namespace Go.KH
open Go.RowKit

def Wid (w : Nat) (rows : List (List Value)) : Prop := ∀ r ∈ rows, r.length = w
theorem Wid.nil (w : Nat) : Wid w [] := by intro r hr; cases hr
theorem Wid.append {w : Nat} {a b : List (List Value)} (ha : Wid w a) (hb : Wid w b) : Wid w (a ++ b) := by
 intro r hr; rcases List.mem_append.1 hr with h | h; exact ha r h; exact hb r h
theorem Wid.take {w : Nat} {a : List (List Value)} (ha : Wid w a) (k : Nat) : Wid w (a.take k) := fun r hr => ha r (List.mem_of_mem_take hr)
theorem Wid.set {w : Nat} {a : List (List Value)} (ha : Wid w a) (k : Nat) {r : List Value} (hr : r.length = w) : Wid w (a.set k r) := fun x hx => by
 rcases List.mem_or_eq_of_mem_set hx with h | h
 ·exact ha x h
 ·rw [h]; exact hr
theorem Wid.map {α : Type} {w : Nat} {l : List α} {f : α → List Value} (h : ∀ a, (f a).length = w) : Wid w (l.map f) := fun r hr => by
 obtain ⟨a, _, rfl⟩ := List.mem_map.1 hr; exact h a
theorem Wid.rep {w : Nat} {z : List Value} (h : z.length = w) (n : Nat) : Wid w (List.replicate n z) := fun r hr => by rw [(List.mem_replicate.1 hr).2]; exact h

theorem flat_length {w : Nat} : ∀ {rows : List (List Value)}, Wid w rows → rows.flatten.length = rows.length * w
 | [], _ => by simp
 | r :: rows, h => by
  simp only [List.flatten_cons, List.length_append, List.length_cons, flat_length (fun x hx => h x (List.mem_cons_of_mem _ hx)), h r (List.mem_cons_self ..), Nat.add_mul]; omega
theorem flat_take {w : Nat} : ∀ {rows : List (List Value)} (k : Nat), Wid w rows → k ≤ rows.length → rows.flatten.take (k * w) = (rows.take k).flatten
 | rows, 0, h, _ => by simp
 | r :: rows, k + 1, h, hk => by
  have e := h r (by simp)
  rw [List.flatten_cons, List.take_append, List.take_of_length_le (by rw [e, Nat.add_mul]; omega), e, List.take_succ_cons, List.flatten_cons]
  congr 1
  have := flat_take (rows := rows) k (fun x hx => h x (by simp [hx])) (by simpa using hk)
  rw [show (k + 1) * w - w = k * w by rw [Nat.add_mul]; omega, this]
theorem flat_drop {w : Nat} : ∀ {rows : List (List Value)} (k : Nat), Wid w rows → k ≤ rows.length → rows.flatten.drop (k * w) = (rows.drop k).flatten
 | rows, 0, h, _ => by simp
 | r :: rows, k + 1, h, hk => by
  have e := h r (by simp)
  rw [List.flatten_cons, List.drop_append, List.drop_of_length_le (by rw [e, Nat.add_mul]; omega), e, List.drop_succ_cons, List.nil_append]
  have := flat_drop (rows := rows) k (fun x hx => h x (by simp [hx])) (by simpa using hk)
  rw [show (k + 1) * w - w = k * w by rw [Nat.add_mul]; omega, this]
theorem flat_get {w : Nat} {rows : List (List Value)} (h : Wid w rows) (k : Nat) (hk : k < rows.length) : (rows.flatten.drop (k * w)).take w = rows[k] := by
 rw [flat_drop k h (by omega), List.drop_eq_getElem_cons hk, List.flatten_cons, List.take_append_of_le_length (by rw [h _ (List.getElem_mem hk)]; exact Nat.le_refl _), List.take_of_length_le (by rw [h _ (List.getElem_mem hk)]; exact Nat.le_refl _)]
theorem flat_splice {w : Nat} {rows : List (List Value)} (h : Wid w rows) (k : Nat) (hk : k < rows.length) {r : List Value} (hr : r.length = w) : splice rows.flatten (k * w) r = (rows.set k r).flatten := by
 unfold splice
 rw [hr, flat_take k h (by omega), show k * w + w = (k + 1) * w by rw [Nat.add_mul]; omega, flat_drop (k + 1) h (by omega), List.set_eq_take_append_cons_drop, if_pos hk]
 simp

def Own (h0 h : H) (v : Value) (w : Nat) (rows : List (List Value)) : Prop :=
 (v = nils ∧ rows = []) ∨ ∃ b c z, v = sl b 0 rows.length c ∧ rows.length ≤ c ∧ h.base ≤ b ∧ h0.get b = none ∧ h.get b = some ⟨rows.flatten, z⟩ ∧ c * w ≤ z ∧ Wid w rows

def Fre (h0 h : H) (v : Value) (w : Nat) (rows : List (List Value)) : Prop :=
 (∃ a c, v = .slice a 0 c ∧ rows = []) ∨ ∃ b c ob, v = sl b 0 rows.length c ∧ rows.length ≤ c ∧ h.base ≤ b ∧ h0.get b = none ∧ h.get b = some ob ∧ rows.flatten <+: ob.cells ∧ Wid w rows

def blk : Value → Option Nat | .slice (some a) (_ + 1) _ => some a.block | _ => none

theorem Own.nil (h0 h : H) (w : Nat) : Own h0 h nils w [] := .inl ⟨rfl, rfl⟩
theorem ldc_pre {h : H} {b w k : Nat} {ob : Ob} {rows : List (List Value)} (hb : h.get b = some ob) (hp : rows.flatten <+: ob.cells) (hw : Wid w rows) (hk : k < rows.length) : ldc h b (k * w) w = some rows[k] := by
 obtain ⟨t, ht⟩ := hp
 have hl := flat_length hw
 have h1 : k * w + w ≤ rows.length * w := by rw [show k * w + w = (k + 1) * w by rw [Nat.add_mul]; omega]; exact Nat.mul_le_mul_right _ hk
 unfold ldc
 rw [hb]
 simp only
 rw [if_pos (by rw [← ht, List.length_append, hl]; omega), ← ht, List.drop_append_of_le_length (by omega), List.take_append_of_le_length (by rw [List.length_drop]; omega), flat_get hw k hk]
theorem Fre.sl {h0 h : H} {v : Value} {w : Nat} {rows : List (List Value)} (o : Fre h0 h v w rows) : Sl h v w rows := by
 rcases o with ⟨a, c, rfl, rfl⟩ | ⟨b, c, ob, rfl, hlc, _, _, hg, hp, hw⟩
 ·cases a with
  | none => exact ⟨_, c, 0, 0, rfl, Nat.zero_le _, rfl, by simp⟩
  | some a =>
   obtain ⟨b, o, sp⟩ := a
   cases sp with
   | none => exact ⟨_, c, b, o, rfl, Nat.zero_le _, rfl, by simp⟩
   | some s => exact ⟨_, c, 0, 0, rfl, Nat.zero_le _, rfl, by simp⟩
 ·refine ⟨_, c, b, 0, rfl, hlc, rfl, ?_⟩
  intro i r hr
  obtain ⟨hi, rfl⟩ := List.getElem?_eq_some_iff.1 hr
  rw [Nat.zero_add]
  exact ldc_pre hg hp hw hi
theorem Own.fre {h0 h : H} {v : Value} {w : Nat} {rows : List (List Value)} (o : Own h0 h v w rows) : Fre h0 h v w rows := by
 rcases o with ⟨rfl, rfl⟩ | ⟨b, c, z, rfl, hlc, hb, h0b, hg, _, hw⟩
 ·exact .inl ⟨none, 0, rfl, rfl⟩
 ·exact .inr ⟨b, c, _, rfl, hlc, hb, h0b, hg, List.prefix_refl _, hw⟩
theorem Own.sl {h0 h : H} {v : Value} {w : Nat} {rows : List (List Value)} (o : Own h0 h v w rows) : Sl h v w rows := o.fre.sl
theorem Fre.ext {h0 h h' : H} {v : Value} {w : Nat} {rows : List (List Value)} (o : Fre h0 h v w rows) (e : Ext h h') : Fre h0 h' v w rows := by
 rcases o with o | ⟨b, c, ob, rfl, hlc, hb, h0b, hg, hp, hw⟩
 ·exact .inl o
 ·exact .inr ⟨b, c, ob, rfl, hlc, by rw [e.1]; exact hb, h0b, e.2.g _ _ hg, hp, hw⟩
theorem Own.ext {h0 h h' : H} {v : Value} {w : Nat} {rows : List (List Value)} (o : Own h0 h v w rows) (e : Ext h h') : Own h0 h' v w rows := by
 rcases o with o | ⟨b, c, z, rfl, hlc, hb, h0b, hg, hp, hw⟩
 ·exact .inl o
 ·exact .inr ⟨b, c, z, rfl, hlc, by rw [e.1]; exact hb, h0b, e.2.g _ _ hg, hp, hw⟩
theorem Fre.back {h0 h1 h : H} {v : Value} {w : Nat} {rows : List (List Value)} (o : Fre h1 h v w rows) (e : Ext h0 h1) : Fre h0 h v w rows := by
 rcases o with o | ⟨b, c, ob, rfl, hlc, hb, h0b, hg, hp, hw⟩
 ·exact .inl o
 ·exact .inr ⟨b, c, ob, rfl, hlc, hb, e.none h0b, hg, hp, hw⟩
theorem Own.back {h0 h1 h : H} {v : Value} {w : Nat} {rows : List (List Value)} (o : Own h1 h v w rows) (e : Ext h0 h1) : Own h0 h v w rows := by
 rcases o with o | ⟨b, c, z, rfl, hlc, hb, h0b, hg, hp, hw⟩
 ·exact .inl o
 ·exact .inr ⟨b, c, z, rfl, hlc, hb, e.none h0b, hg, hp, hw⟩

theorem Sl.src {h : H} {v : Value} {w : Nat} {rows : List (List Value)} (s : Sl h v w rows) (hw : Wid w rows) (hw0 : w ≠ 0) : srcOf h w v = some (rows.length, rows.flatten) := by
 obtain ⟨a, c, b, o, rfl, hlc, hr, hl⟩ := s
 cases hrows : rows with
 | nil => simp [srcOf]
 | cons r rs =>
  rw [hrows] at hr
  unfold asR at hr
  split at hr
  ·rename_i b' o' n' c' e
   simp only [Option.some.injEq, Prod.mk.injEq] at hr
   obtain ⟨rfl, rfl, rfl⟩ := hr
   simp only [Value.slice.injEq] at e
   obtain ⟨rfl, _, rfl⟩ := e
   have hld : ldc h b' o' (rows.length * w) = some rows.flatten := by
    have key : ∀ m, m ≤ rows.length → ldc h b' o' (m * w) = some (rows.take m).flatten ∨ m = 0 := by
     intro m
     induction m with
     | zero => intro _; exact .inr rfl
     | succ m ih =>
      intro hm
      left
      have hrow := hl m rows[m] (by simp)
      have hwid := hw rows[m] (List.getElem_mem _)
      unfold ldc at hrow ⊢
      cases hg : h.get b' with
      | none => rw [hg] at hrow; cases hrow
      | some ob =>
       rw [hg] at hrow
       simp only at hrow ⊢
       split at hrow
       ·rename_i hle
        simp only [Option.some.injEq] at hrow
        have e1 : (m + 1) * w = m * w + w := by rw [Nat.add_mul]; omega
        rw [if_pos (by omega), e1, List.take_add, List.drop_drop]
        congr 1
        rw [List.take_succ_eq_append_getElem (by omega), List.flatten_append]
        rcases ih (by omega) with h2 | h2
        ·unfold ldc at h2
         rw [hg] at h2
         simp only at h2
         rw [if_pos (by omega)] at h2
         simp only [Option.some.injEq] at h2
         rw [h2, hrow]; simp
        ·subst h2
         simp only [Nat.zero_mul, Nat.add_zero] at hrow ⊢
         rw [hrow]; simp
       ·cases hrow
    rcases key rows.length (Nat.le_refl _) with h2 | h2
    ·rw [List.take_length] at h2; exact h2
    ·rw [hrows] at h2; cases h2
   simp only [srcOf]
   rw [hrows] at hld
   simp only [List.length_cons] at hld ⊢
   rw [hld]; rfl
  ·rename_i e
   simp only [Value.slice.injEq, List.length_cons] at e
   omega
  ·cases hr

theorem appW_own {h0 h : H} {K : Value → H → Prop} {w by_ n c : Nat} {a : Option Addr} {q : Nat × List Value} {rows new : List (List Value)} (e : Ext h0 h) (o : Own h0 h (.slice a n c) w rows)
  (hq : q = (new.length, new.flatten)) (hw : Wid w new) (h1 : new.flatten.all Value.oneCell' = true) (hb : (rows.length + new.length) * by_ ≤ 70368744177664)
  (hK : ∀ v' h', Ext h0 h' → Own h0 h' v' w (rows ++ new) → (∀ c' ob, h.get c' = some ob → (∀ b k m, (.slice a n c : Value) = sl b 0 k m → c' ≠ b) → h'.get c' = some ob) → K v' h') : appW h w by_ (a, n, c) q K := by
 subst hq
 unfold appW
 rcases o with ⟨hv, rfl⟩ | ⟨b, c', z, hv, hlc, hbb, h0b, hg, hcz, hww⟩
 ·simp only [nils, Value.slice.injEq] at hv
  obtain ⟨rfl, rfl, rfl⟩ := hv
  refine ⟨by simpa using hb, h1, by rw [flat_length hw], rfl, ?_⟩
  by_cases hn : new.length = 0
  ·have : new = [] := List.length_eq_zero_iff.1 hn
   subst this
   simp only [List.length_nil, if_true]
   exact hK nils h e (.inl ⟨rfl, rfl⟩) (fun c ob hc _ => hc)
  ·rw [if_neg hn]
   intro b hb1 hb2 c hc
   exact hK _ _ (e.set hb2 _) (.inr ⟨b, c, c * w, by simp, by simpa using hc, hb1, e.none hb2, by simp, Nat.le_refl _, by simpa using hw⟩) (fun k ob hk _ => by
    rw [H.set_get_ne _ _ _ _ (fun e' => by rw [e', hb2] at hk; cases hk)]; exact hk)
 ·simp only [sl, Value.slice.injEq] at hv
  obtain ⟨rfl, rfl, rfl⟩ := hv
  refine ⟨hb, h1, by rw [flat_length hw], rfl, hbb, ⟨⟨rows.flatten, z⟩, hg, hcz, .inl ⟨by rw [flat_length hww], ?_⟩⟩⟩
  intro b' c' z' hb' hbase hc hz
  have hn : h0.get b' = none := by
   rcases hb' with rfl | hb'
   ·exact h0b
   ·exact e.none hb'
  refine hK _ _ (e.set' hn _) (.inr ⟨b', c', z', by simp, by simpa using hc, hbase, hn, by simp, hz, hww.append hw⟩) (fun k ob hk hne => ?_)
  rw [H.set_get_ne _ _ _ _ (fun e' => by
   subst e'
   rcases hb' with rfl | hb'
   ·exact hne _ _ _ rfl rfl
   ·rw [hb'] at hk; cases hk)]
  exact hk
end Go.KH