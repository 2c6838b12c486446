/- A helper of this seat's claims (the logic of the walks): what it shows is shown for every input that its statements name, on no other condition. -/
import Derived.Test.YtpponffjeilhmaaK11
set_option linter.unusedVariables false
set_option linter.unusedSimpArgs false
namespace Go.KH
open Go.RowKit

/-! ## The walk: what a simp set opens, head first -/
section
variable {P : Program}

/-- A mark that a simp set always removes: with it a congruence counts as a step, and what stands behind is left as it is. -/
def Dum {α : Type} (a : α) : Prop := a = a
theorem dum {α : Type} (a : α) : Dum a = True := propext ⟨fun _ => trivial, fun _ => rfl⟩
@[congr] theorem withO_congr' {α : Type} {o o' : Option α} {d : Prop} {K : α → Prop} (h : o = o') (h2 : Dum o = d) : withO o K = withO o' K := by rw [h]
@[congr] theorem AC_congr' {n n' : FuncId} {args args' : List Value} {h : H} {d : Prop} {K : Value → H → Prop} (e0 : n = n') (e : args = args') (h2 : Dum n = d) : AC P n args h K = AC P n' args' h K := by rw [e, e0]
@[congr] theorem freshK_congr' {h : H} {d : Prop} {K : Nat → Prop} (h2 : Dum h = d) : freshK h K = freshK h K := rfl
@[congr] theorem freshM_congr' {h : H} {d : Prop} {K : Nat → Prop} (h2 : Dum h = d) : freshM h K = freshM h K := rfl

/-- Something to be shown before the walk goes on. -/
def Req (c K : Prop) : Prop := c ∧ K
theorem Req.of {c K : Prop} (h : c) (k : K) : Req c K := ⟨h, k⟩
@[congr] theorem Req_congr' {c c' d K : Prop} (h : c = c') (h2 : Dum c = d) : Req c K = Req c' K := by rw [h]
theorem Req_true (K : Prop) : Req True K = K := by simp [Req]
theorem Req_false (K : Prop) : Req False K = False := by simp [Req]
theorem Req_and (a b K : Prop) : Req (a ∧ b) K = Req a (Req b K) := by simp [Req, and_assoc]
theorem withO_if {α : Type} (c : Prop) [Decidable c] (a : α) (K : α → Prop) : withO (if c then some a else none) K = Req c (K a) := by simp [Req]
theorem withO_if0 {α : Type} (c : Prop) [Decidable c] (a : α) (K : α → Prop) : withO (if c then none else some a) K = Req (¬ c) (K a) := by by_cases h : c <;> simp [Req, h]

/-- Two roads: neither is walked till it is known which. -/
def Br (c : Prop) (A B : Prop) : Prop := (c → A) ∧ (¬ c → B)
@[congr] theorem Br_congr' {c c' d A B : Prop} (h : c = c') (h2 : Dum c = d) : Br c A B = Br c' A B := by rw [h]
theorem Br_true (A B : Prop) : Br True A B = A := by simp [Br]
theorem Br_false (A B : Prop) : Br False A B = B := by simp [Br]
theorem Br_not (c A B : Prop) : Br (¬ c) A B = Br c B A := by by_cases h : c <;> simp [Br, h]
theorem Br.of {c A B : Prop} (h1 : c → A) (h2 : ¬ c → B) : Br c A B := ⟨h1, h2⟩
theorem Br_ite (c : Prop) [Decidable c] (A B : Prop) : (if c then A else B) = Br c A B := by by_cases h : c <;> simp [Br, h]

section
variable (ρ : X → Value) (h : H) (K : Value → Prop)
theorem wv_mv (x : X) : withO (pval ρ h (.mv x)) K = withO (some (ρ x)) K := by simp [pval]
theorem wv_pick (c a b : X) : withO (pval ρ h (.pick c a b)) K = withO (asB (ρ c)) fun t => withO (some (if t = true then ρ a else ρ b)) K := by simp [pval]
theorem wv_ldt (n : Nat) (x : X) : withO (pval ρ h (.ld true n x)) K = withO (asP (ρ x)) fun p => withO (ldc h p.1 p.2 n) fun cs => withO (some (.agg cs.toArray)) K := by simp [pval]
theorem wv_ldf (n : Nat) (x : X) : withO (pval ρ h (.ld false n x)) K = withO (asP (ρ x)) fun p => withO (ldc h p.1 p.2 1) fun cs => withO (one cs) K := by simp [pval]
theorem wv_fld (o : Nat) (x : X) : withO (pval ρ h (.fld o x)) K = withO (asP (ρ x)) fun p => withO (some (ptr p.1 (p.2 + o))) K := by simp [pval]
theorem wv_idx (w : Nat) (x i : X) : withO (pval ρ h (.idx w x i)) K = withO (asR (ρ x)) fun p => withO (asI (ρ i)) fun q => Req (0 ≤ q.2 ∧ q.2 < p.2.2) (withO (some (ptr p.1 (p.2.1 + q.2.toNat * w))) K) := by simp [pval, Req]
theorem wv_aidx (l w : Nat) (x i : X) : withO (pval ρ h (.aidx l w x i)) K = withO (asP (ρ x)) fun p => withO (asI (ρ i)) fun q => Req (0 ≤ q.2 ∧ q.2 < l) (withO (some (ptr p.1 (p.2 + q.2.toNat * w))) K) := by simp [pval, Req]
theorem wv_ixt (l w : Nat) (x i : X) : withO (pval ρ h (.ix true l w x i)) K = withO (asA (ρ x)) fun cs => withO (asI (ρ i)) fun q => Req (0 ≤ q.2 ∧ q.2 < l) (withO (some (.agg ((cs.drop (q.2.toNat * w)).take w).toArray)) K) := by simp [pval, Req]
theorem wv_ixf (l w : Nat) (x i : X) : withO (pval ρ h (.ix false l w x i)) K = withO (asA (ρ x)) fun cs => withO (asI (ρ i)) fun q => Req (0 ≤ q.2 ∧ q.2 < l) (withO (cs[q.2.toNat * w]?) K) := by
  simp only [pval, withO_bind, Req]
  congr 1; funext cs; congr 1; funext q
  by_cases hq : 0 ≤ q.2 ∧ q.2 < (l : Int) <;> simp [hq]
theorem wv_bin (op : BinOp) (x y : X) : withO (pval ρ h (.bin op x y)) K = withO (obin op (ρ x) (ρ y)) K := rfl
theorem wv_eqb (n : Bool) (x y : X) : withO (pval ρ h (.eqb n x y)) K = withO (asB (ρ x)) fun a => withO (asB (ρ y)) fun b => withO (some (negv n (decide (a = b)))) K := by simp [pval]
theorem wv_eqs (n : Bool) (x y : X) : withO (pval ρ h (.eqs n x y)) K = withO (oeqs (ρ x) (ρ y)) fun t => withO (some (negv n t)) K := by simp [pval]
theorem wv_eqa (n : Bool) (pl : List LK) (x y : X) : withO (pval ρ h (.eqa n pl x y)) K = withO (asA (ρ x)) fun a => withO (asA (ρ y)) fun b => Req (a.length = pl.length ∧ b.length = pl.length ∧ (a ++ b).all Value.oneCell' = true) (withO (cellsEq pl a b) fun t => withO (some (negv n t)) K) := by
  simp only [pval, withO_bind, Req]
  congr 1; funext a; congr 1; funext b
  by_cases hq : a.length = pl.length ∧ b.length = pl.length ∧ (a ++ b).all Value.oneCell' = true
  · rw [if_pos hq]; simp [hq]
  · rw [if_neg hq]; simp only [withO_none]; exact (eq_false (fun h => hq h.1)).symm
theorem wv_un (op : UnOp) (x : X) : withO (pval ρ h (.un op x)) K = withO (oun op (ρ x)) K := rfl
theorem wv_cv (k : IntKind) (x : X) : withO (pval ρ h (.cv k x)) K = withO (asI (ρ x)) fun q => withO (some (.int k (k.wrap q.2))) K := by simp [pval]
theorem wv_sidx (x i : X) : withO (pval ρ h (.sidx x i)) K = withO (asS (ρ x)) fun s => withO (asI (ρ i)) fun q => Req (0 ≤ q.2) (withO (s[q.2.toNat]?) fun b => withO (some (.int .u8 b.toNat)) K) := by
  simp only [pval, withO_bind, Req]
  congr 1; funext s; congr 1; funext q
  by_cases hq : 0 ≤ q.2 <;> simp [hq]
theorem wv_ssl (x : X) (lo hi : Option X) : withO (pval ρ h (.ssl x lo hi)) K = withO (asS (ρ x)) fun s => withO (bnd (hi.map ρ) s.length s.length) fun hh => withO (bnd (lo.map ρ) 0 hh) fun l => withO (some (str ((s.take hh).drop l))) K := by simp [pval]
theorem wv_lsls (w : Nat) (x lo : X) (hi : Option X) : withO (pval ρ h (.lsl w x (some lo) hi)) K = withO (asL (ρ x)) fun p => withO (bnd (hi.map ρ) p.2.1 p.2.2) fun hh => withO (bnd (some (ρ lo)) 0 hh) fun l => withO (some (.slice (if p.2.2 = l then p.1 else p.1.map (·.add (l * w))) (hh - l) (p.2.2 - l))) K := by simp [pval]
theorem wv_lsln (w : Nat) (x : X) (hi : Option X) : withO (pval ρ h (.lsl w x none hi)) K = withO (asL (ρ x)) fun p => withO (bnd (hi.map ρ) p.2.1 p.2.2) fun hh => withO (some (.slice p.1 hh p.2.2)) K := by
  have e : ∀ (a : Option Addr) (c : Nat), (if c = 0 then a else a.map (·.add (0 * w))) = a := fun a c => by
    split
    · rfl
    · cases a with
      | none => rfl
      | some a => simp only [Option.map_some, Nat.zero_mul, Addr.add, if_true]
  simp only [pval, withO_bind, Option.map_none, show ∀ y, bnd none 0 y = some 0 from fun _ => rfl, withO_some, e, Nat.sub_zero]
theorem wv_len (x : X) : withO (pval ρ h (.len x)) K = withO (asL (ρ x)) fun p => withO (some (.int .i64 p.2.1)) K := by simp [pval]
theorem wv_slen (x : X) : withO (pval ρ h (.slen x)) K = withO (asS (ρ x)) fun s => withO (some (.int .i64 s.length)) K := by simp [pval]
theorem wv_alen (n : Nat) : withO (pval ρ h (.alen n)) K = withO (some (.int .i64 n)) K := by simp [pval]
theorem wv_partt (o n : Nat) (x : X) : withO (pval ρ h (.part true o n x)) K = withO (asA (ρ x)) fun cs => withO (some (.agg ((cs.drop o).take n).toArray)) K := by simp [pval]
theorem wv_partf (o n : Nat) (x : X) : withO (pval ρ h (.part false o n x)) K = withO (asA (ρ x)) fun cs => withO (cs[o]?) K := by simp [pval]
theorem wv_ext (k : Nat) (x : X) : withO (pval ρ h (.ext k x)) K = withO (asT (ρ x)) fun cs => withO (cs[k]?) K := by simp [pval]
theorem wv_build (z : List Value) (ps : List (Nat × Nat × X)) : withO (pval ρ h (.build z ps)) K = withO (fillL z (ps.map fun p => (p.1, p.2.1, ρ p.2.2))) fun cs => withO (some (.agg cs.toArray)) K := by simp [pval]
theorem wv_mkf (fn : Nat) (caps : List X) : withO (pval ρ h (.mkf fn caps)) K = withO (some (.func (.func fn) #[] (caps.map ρ).toArray)) K := by simp [pval]
theorem wv_mn (x y : X) : withO (pval ρ h (.mn x y)) K = withO (asI (ρ x)) fun a => withO (asI (ρ y)) fun b => withO (some (.int a.1 (if b.2 < a.2 then b.2 else a.2))) K := by simp [pval]
theorem wv_mx (x y : X) : withO (pval ρ h (.mx x y)) K = withO (asI (ρ x)) fun a => withO (asI (ρ y)) fun b => withO (some (.int a.1 (if b.2 > a.2 then b.2 else a.2))) K := by simp [pval]
theorem wv_b2s (x : X) : withO (pval ρ h (.b2s x)) K = withO (asR (ρ x)) fun p => Br (p.2.2 = 0) (withO (some (str [])) K) (withO (ldc h p.1 p.2.1 p.2.2) fun cs => withO (bytesOf cs) fun r => withO (some (str r)) K) := by
  simp only [pval, withO_bind]
  congr 1; funext p
  by_cases hp : p.2.2 = 0 <;> simp [hp, Br]
theorem wv_nck (x : X) : withO (pval ρ h (.nck x)) K = Req (nckv (ρ x) = true) (withO (some (ρ x)) K) := by simp [pval, Req]
theorem wv_lsl3 (w : Nat) (x lo hi mx : X) : withO (pval ρ h (.lsl3 w x lo hi mx)) K = withO (asL (ρ x)) fun p => withO (bnd (some (ρ mx)) 0 p.2.2) fun m => withO (bnd (some (ρ hi)) 0 m) fun hh => withO (bnd (some (ρ lo)) 0 hh) fun l => withO (some (.slice (if m = l then p.1 else p.1.map (·.add (l * w))) (hh - l) (m - l))) K := by simp [pval]
theorem wv_mlk (z : Value) (x k : X) : withO (pval ρ h (.mlk z x k)) K = withO (asM (ρ x)) fun b => withO (h.mp b) fun l => withO (asI (ρ k)) fun q => withO (mfind q.1 q.2 l 0) fun r => withO (some (match r with | some (_, v) => v | none => z)) K := by simp only [pval, withO_bind, withO_some]; rfl
theorem wv_mln (x : X) : withO (pval ρ h (.mln x)) K = withO (asM (ρ x)) fun b => withO (h.mp b) fun l => withO (some (.int .i64 l.length)) K := by simp [pval]
end
theorem bnd_n (d y : Nat) : bnd none d y = some d := rfl
theorem bnd_s (v : Value) (d y : Nat) (K : Nat → Prop) : withO (bnd (some v) d y) K = withO (asI v) fun p => Req (0 ≤ p.2 ∧ p.2 ≤ y) (K p.2.toNat) := by simp [bnd, Req]

section
variable {P : Program} (ρ : X → Value) (h : H) (K : Value → H → Prop)
theorem wo_p (o : PO) : owp P ρ h K (.p o) = withO (pval ρ h o) fun v => K v h := rfl
theorem wo_box (x : X) : owp P ρ h K (.box x) = withO (some (vcl (ρ x))) fun cs => withO (some cs.length) fun n => freshK h fun b => K (ptr b 0) (h.set b ⟨cs, n⟩) := by simp [owp]
theorem wo_alloc (z : List Value) : owp P ρ h K (.alloc z) = withO (some z.length) fun n => freshK h fun b => K (ptr b 0) (h.set b ⟨z, n⟩) := by simp [owp]
theorem wo_bsl (n : Nat) (z : List Value) (ps : List (Nat × Nat × X)) : owp P ρ h K (.bsl n z ps) = withO (fillL z (ps.map fun p => (p.1, p.2.1, ρ p.2.2))) fun cs => withO (some cs.length) fun m => freshK h fun b => K (sl b 0 n n) (h.set b ⟨cs, m⟩) := by simp [owp]
theorem wo_st (n : Nat) (a x : X) : owp P ρ h K (.st n a x) = withO (asP (ρ a)) fun p => Req (h.base ≤ p.1) (withO (stc h p.1 p.2 (vcl (ρ x)) n) fun h' => K undef h') := rfl
/-- An append, of what it reads. -/
def appW (h : H) (w by_ : Nat) (p : Option Addr × Nat × Nat) (q : Nat × List Value) (K : Value → H → Prop) : Prop := (p.2.1 + q.1) * by_ ≤ 70368744177664 ∧ q.2.all Value.oneCell' = true ∧ q.2.length = q.1 * w ∧
      match p.1 with
      | none => p.2 = (0, 0) ∧ if q.1 = 0 then K nils h else freshK h fun b => ∀ c, q.1 ≤ c → K (sl b 0 q.1 c) (h.set b ⟨q.2, c * w⟩)
      | some ⟨b, o, none⟩ => o = 0 ∧ h.base ≤ b ∧ withO (h.get b) fun ob => p.2.2 * w ≤ ob.size ∧
          ((p.2.1 * w = ob.cells.length ∧ ∀ b' c z, (b' = b ∨ h.get b' = none) → h.base ≤ b' → p.2.1 + q.1 ≤ c → c * w ≤ z → K (sl b' 0 (p.2.1 + q.1) c) (h.set b' ⟨ob.cells ++ q.2, z⟩)) ∨
          (p.2.1 + q.1 ≤ p.2.2 ∧ (p.2.1 + q.1) * w ≤ ob.cells.length ∧ K (sl b 0 (p.2.1 + q.1) p.2.2) (h.set b ⟨splice ob.cells (p.2.1 * w) q.2, ob.size⟩)))
      | _ => False
theorem wo_app (w by_ : Nat) (s x : X) : owp P ρ h K (.app w by_ s x) = withO (asL (ρ s)) fun p => withO (srcOf h w (ρ x)) fun q => appW h w by_ p q K := rfl
@[congr] theorem appW_congr' {h : H} {w by_ : Nat} {p p' : Option Addr × Nat × Nat} {q q' : Nat × List Value} {d : Prop} {K : Value → H → Prop} (e : p = p') (e2 : q = q') (h2 : Dum w = d) : appW h w by_ p q K = appW h w by_ p' q' K := by rw [e, e2]
theorem wo_cpy (w : Nat) (d s : X) : owp P ρ h K (.cpy w d s) = withO (asL (ρ d)) fun p => withO (srcOf h w (ρ s)) fun q => Req (q.2.length = q.1 * w)
      (match p.1 with
      | none => K (i64 (Nat.min q.1 p.2.1 : Nat)) h
      | some ⟨b, o, none⟩ => Req (h.base ≤ b) (withO (stc h b o (q.2.take (Nat.min q.1 p.2.1 * w)) (Nat.min q.1 p.2.1 * w)) fun h' => K (i64 (Nat.min q.1 p.2.1 : Nat)) h')
      | _ => False) := rfl
theorem wo_mks (w by_ : Nat) (z : List Value) (l c : X) : owp P ρ h K (.mks w by_ z l c) = withO (asI (ρ l)) fun l => withO (asI (ρ c)) fun c => Req (0 ≤ l.2 ∧ l.2 ≤ c.2 ∧ c.2 < 1099511627776 ∧ by_ * c.2 ≤ 140737488355328)
      (withO (some (l.2.toNat, c.2.toNat)) fun p => freshK h fun b => K (sl b 0 p.1 p.2) (h.set b ⟨(List.replicate p.2 z).flatten, p.2 * w⟩)) := by simp [owp, Req, and_assoc]
theorem wo_s2b (x : X) : owp P ρ h K (.s2b x) = withO (asS (ρ x)) fun s => freshK h fun b => ∀ c, s.length ≤ c → K (sl b 0 s.length c) (h.set b ⟨u8s s, c⟩) := rfl
theorem wo_call (f : X) (args : List X) : owp P ρ h K (.call f args) = withO (asFn (ρ f)) fun p => AC P p.1 (p.2.1 ++ args.map ρ ++ p.2.2) h K := rfl
theorem wo_mkm : owp P ρ h K .mkm = freshM h fun b => K (.map (some b)) (h.setm b []) := rfl
theorem wo_mup (m k v : X) : owp P ρ h K (.mup m k v) = withO (asM (ρ m)) fun b => withO (h.mp b) fun l => withO (asI (ρ k)) fun q => withO (mfind q.1 q.2 l 0) fun r =>
      withO (some (match r with | some (i, _) => l.set i (.int q.1 q.2, ρ v) | none => l ++ [(.int q.1 q.2, ρ v)])) fun l' => K undef (h.setm b l') := by simp only [owp, withO_some]; rfl
theorem wo_clr (w : Nat) (z : List Value) (x : X) : owp P ρ h K (.clr w z x) = withO (asL (ρ x)) fun p =>
      match p.1, p.2.1 with
      | none, _ => K (.tuple #[]) h
      | _, 0 => K (.tuple #[]) h
      | some ⟨b, o, none⟩, n => Req (h.base ≤ b) (withO (stc h b o (List.replicate n z).flatten (n * w)) fun h' => K (.tuple #[]) h')
      | _, _ => False := rfl
end
theorem ev_t (f : Fr) (i : Nat) : ev f (.t i) = f i := rfl
theorem ev_c (f : Fr) (v : Value) : ev f (.c v) = v := rfl

/-- A loop: as it stands till an invariant is given. -/
def loopW (P : Program) (c : C) (Q : Ex → Fr → H → Prop) (f : Fr) (h : H) : Prop := wpc P (.loop c) Q f h
@[congr] theorem loopW_congr' {c : C} {Q : Ex → Fr → H → Prop} {f : Fr} {h : H} {d : Prop} (h2 : Dum h = d) : loopW P c Q f h = loopW P c Q f h := rfl
def thenQ (P : Program) (b : C) (Q : Ex → Fr → H → Prop) : Ex → Fr → H → Prop := fun e f h => match e with | .nor => wpc P b Q f h | e => Q e f h
def blkQ (id : Nat) (Q : Ex → Fr → H → Prop) : Ex → Fr → H → Prop := fun e f h => match e with | .exit i => if i = id then Q .nor f h else Q (.exit i) f h | e => Q e f h
def loopQ (I : Nat → Fr → H → Prop) (m : Nat) (Q : Ex → Fr → H → Prop) : Ex → Fr → H → Prop := fun e f h => match e with | .nor => ∃ m', m' < m ∧ ∃ h'', Ext h'' h ∧ I m' f h'' | e => Q e f h

section
variable (Q : Ex → Fr → H → Prop) (f : Fr) (h : H) (K : Fr → H → Prop)
theorem wpc_skip : wpc P .skip Q f h = Q .nor f h := rfl
theorem wpc_ops (l : List GO) : wpc P (.ops l) Q f h = opsw P l f h (Q .nor) := rfl
theorem wpc_dops_t (p : DP) : wpc P (.dops true p) Q f h = dopw P h p f h (Q .nor) := rfl
theorem wpc_dops_f (p : DP) : wpc P (.dops false p) Q f h = dopw P h.none p f h (Q .nor) := rfl
theorem wpc_seq (a b : C) : wpc P (.seq a b) Q f h = wpc P a (thenQ P b Q) f h := rfl
theorem wpc_cond (x : X) (a b : C) : wpc P (.cond x a b) Q f h = withO (asB (ev f x)) fun t => Br (t = true) (wpc P a Q f h) (wpc P b Q f h) := by simp only [← Br_ite]; rfl
theorem wpc_block (id : Nat) (c : C) : wpc P (.block id c) Q f h = wpc P c (blkQ id Q) f h := rfl
theorem wpc_loop (c : C) : wpc P (.loop c) Q f h = loopW P c Q f h := rfl
theorem wpc_exit (id : Nat) : wpc P (.exit id) Q f h = Q (.exit id) f h := rfl
theorem wpc_ret : wpc P .ret Q f h = Q .ret f h := rfl
theorem thenQ_nor (b : C) : thenQ P b Q .nor f h = wpc P b Q f h := rfl
theorem thenQ_exit (b : C) (i : Nat) : thenQ P b Q (.exit i) f h = Q (.exit i) f h := rfl
theorem thenQ_ret (b : C) : thenQ P b Q .ret f h = Q .ret f h := rfl
theorem blkQ_nor (i : Nat) : blkQ i Q .nor f h = Q .nor f h := rfl
theorem blkQ_exit (i j : Nat) : blkQ i Q (.exit j) f h = if j = i then Q .nor f h else Q (.exit j) f h := rfl
theorem blkQ_ret (i : Nat) : blkQ i Q .ret f h = Q .ret f h := rfl
theorem loopQ_nor (I : Nat → Fr → H → Prop) (m : Nat) : loopQ I m Q .nor f h = ∃ m', m' < m ∧ ∃ h'', Ext h'' h ∧ I m' f h'' := rfl
theorem loopQ_exit (I : Nat → Fr → H → Prop) (m i : Nat) : loopQ I m Q (.exit i) f h = Q (.exit i) f h := rfl
theorem loopQ_ret (I : Nat → Fr → H → Prop) (m : Nat) : loopQ I m Q .ret f h = Q .ret f h := rfl
theorem opsw_nil : opsw P [] f h K = K f h := rfl
theorem opsw_cons (g : GO) (l : List GO) : opsw P (g :: l) f h K = gow P g f h fun f' h' => opsw P l f' h' K := rfl
theorem gow_n (d : Option Nat) (o : O) : gow P ⟨d, none, o⟩ f h K = owp P (ev f) h (fun v h' => K (putf f d v) h') o := rfl
theorem gow_g (d : Option Nat) (t : Nat) (b : Bool) (o : O) : gow P ⟨d, some (t, b), o⟩ f h K = withO (some (goes f (some (t, b)))) fun z => Br (z = true) (owp P (ev f) h (fun v h' => K (putf f d v) h') o) (K (putf f d undef) h) := by simp [gow, ← Br_ite]
theorem goes_app (t : Nat) (b : Bool) : goes f (some (t, b)) = gob (f t) b := rfl
theorem putf_s (d : Nat) (v : Value) : putf f (some d) v = upd f d v := rfl
theorem putf_n (v : Value) : putf f none v = f := rfl
theorem dopw_nil (hS : H) : dopw P hS .nil f h K = K f h := rfl
theorem dopw_tk (hS : H) (d : Option Nat) (o : PO) (r : DP) : dopw P hS (.tk ⟨d, none, .p o⟩ r) f h K = withO (pval (ev f) hS o) fun v => dopw P hS r (putf f d v) h K := rfl
theorem dopw_tkg (hS : H) (d : Option Nat) (t : Nat) (b : Bool) (o : PO) (r : DP) : dopw P hS (.tk ⟨d, some (t, b), .p o⟩ r) f h K =
    withO (some (goes f (some (t, b)))) fun z => Br (z = true) (withO (pval (ev f) hS o) fun v => dopw P hS r (putf f d v) h K) (dopw P hS r (putf f d undef) h K) := by simp [dopw, pvalO, ← Br_ite]
theorem dopw_sq (hS : H) (g : GO) (r : DP) : dopw P hS (.sq g r) f h K = gow P g f h fun f' h' => Sub hS h' ∧ dopw P hS r f' h' K := rfl
theorem dopw_lt (hS : H) (g : GO) (r : DP) : dopw P hS (.lt g r) f h K = gow P g f h fun f' h' => dopw P h'.none r f' h' K := rfl
theorem dopw_alt (hS : H) (g g' : GO) (r r' : DP) : dopw P hS (.alt g r g' r') f h K = ((gow P g f h fun f' h' => Sub hS h' ∧ dopw P hS r f' h' K) ∧ (gow P g' f h fun f' h' => Sub hS h' ∧ dopw P hS r' f' h' K)) := rfl
end
theorem gob_bt (a : Bool) : gob (.bool a) true = a := by cases a <;> rfl
theorem gob_bf (a : Bool) : gob (.bool a) false = !a := by cases a <;> rfl
theorem gob_u (b : Bool) : gob undef b = false := rfl
theorem gob_t (cs : Array Value) (b : Bool) : gob (.tuple cs) b = false := rfl

theorem retw_ret (F : List R) (Q : Value → H → Prop) (f : Fr) (h : H) : retw F Q .ret f h = withO (rvs f h F) fun vs => Q (tup vs) h := rfl
theorem retw_nor (F : List R) (Q : Value → H → Prop) (f : Fr) (h : H) : retw F Q .nor f h = withO (rvs f h F) fun vs => Q (tup vs) h := rfl
theorem rvs_nil (f : Fr) (h : H) : rvs f h [] = some [] := rfl
theorem rvs_tmp (f : Fr) (h : H) (t : Nat) (l : List R) (K : List Value → Prop) : withO (rvs f h (.tmp t :: l)) K = withO (rvs f h l) fun vs => K (f t :: vs) := by simp [rvs, rv]
theorem rvs_cell (f : Fr) (h : H) (t n : Nat) (a : Bool) (l : List R) (K : List Value → Prop) : withO (rvs f h (.cell t a n :: l)) K = withO (pval (ev f) h (.ld a n (.t t))) fun v => withO (rvs f h l) fun vs => K (v :: vs) := by simp [rvs, rv]
theorem tup_one (v : Value) : tup [v] = v := rfl
theorem tup_two (v u : Value) (l : List Value) : tup (v :: u :: l) = .tuple (v :: u :: l).toArray := rfl

/-- The rule of a loop. -/
theorem loopW_of {c : C} {Q : Ex → Fr → H → Prop} {f : Fr} {h : H} (I : Nat → Fr → H → Prop) (m : Nat) (h0 : I m f h)
    (round : ∀ m f h, I m f h → wpc P c (loopQ I m Q) f h) : loopW P c Q f h := ⟨I, ⟨m, h0⟩, round⟩

theorem AC_of {n : FuncId} {args : List Value} {h : H} {Q Q' : Value → H → Prop} (c : AC P n args h Q) (hq : ∀ v h', h'.base = h.base → Q v h' → Q' v h') : AC P n args h Q' := c.mono hq
/-- A function that makes nothing that is kept: the heap is as before. -/
def PC (P : Program) (n : FuncId) (args : List Value) (h : H) (v : Value) : Prop := AC P n args h fun r h' => h' = h ∧ r = v
theorem PC_of {n : FuncId} {args : List Value} {h : H} {v : Value} (c : AC P n args h fun r h' => Ext h h' ∧ r = v) : PC P n args h v :=
  ⟨c.1, fun w0 w r => (c.2 w0 w r).mono fun e w' ⟨v, h', he, hb, hr, hx, hv⟩ => ⟨v, h, he, rfl, hr.weaken hx, rfl, hv⟩⟩
/-- What is kept of the heap after a call. -/
theorem AC_keep {n : FuncId} {args : List Value} {h : H} {Q : Value → H → Prop} (c : AC P n args h fun r h' => ∃ h'', Ext h'' h' ∧ h''.base = h.base ∧ Q r h'') : AC P n args h Q :=
  ⟨c.1, fun w0 w r => (c.2 w0 w r).mono fun e w' ⟨v, h', he, hb, hr, h'', hx, hb2, hq⟩ => ⟨v, h'', he, hb2, hr.weaken hx, hq⟩⟩
theorem PC.use {n : FuncId} {args : List Value} {h : H} {v : Value} {Q : Value → H → Prop} (c : PC P n args h v) (hq : Q v h) : AC P n args h Q := c.mono fun _ _ _ ⟨h1, h2⟩ => by rw [h1, h2]; exact hq
theorem bi_add (k : IntKind) (a b : Int) : obin .add (.int k a) (.int k b) = some (.int k (k.wrap (a + b))) := by simp [obin, ibin]
theorem bi_sub (k : IntKind) (a b : Int) : obin .sub (.int k a) (.int k b) = some (.int k (k.wrap (a - b))) := by simp [obin, ibin]
theorem bi_mul (k : IntKind) (a b : Int) : obin .mul (.int k a) (.int k b) = some (.int k (k.wrap (a * b))) := by simp [obin, ibin]
theorem bi_quo (k : IntKind) (a b : Int) : obin .quo (.int k a) (.int k b) = if b = 0 then none else some (.int k (k.wrap (a.tdiv b))) := by simp [obin, ibin]
theorem bi_rem (k : IntKind) (a b : Int) : obin .rem (.int k a) (.int k b) = if b = 0 then none else some (.int k (a.tmod b)) := by simp [obin, ibin]
theorem bi_and (k : IntKind) (a b : Int) : obin .and (.int k a) (.int k b) = some (.int k (k.wrap (BitVec.ofInt k.bits a &&& BitVec.ofInt k.bits b).toNat)) := by simp [obin, ibin]
theorem bi_or (k : IntKind) (a b : Int) : obin .or (.int k a) (.int k b) = some (.int k (k.wrap (BitVec.ofInt k.bits a ||| BitVec.ofInt k.bits b).toNat)) := by simp [obin, ibin]
theorem bi_xor (k : IntKind) (a b : Int) : obin .xor (.int k a) (.int k b) = some (.int k (k.wrap (BitVec.ofInt k.bits a ^^^ BitVec.ofInt k.bits b).toNat)) := by simp [obin, ibin]
theorem bi_andNot (k : IntKind) (a b : Int) : obin .andNot (.int k a) (.int k b) = some (.int k (k.wrap (BitVec.ofInt k.bits a &&& ~~~(BitVec.ofInt k.bits b)).toNat)) := by simp [obin, ibin]
theorem bi_eql (k : IntKind) (a b : Int) : obin .eql (.int k a) (.int k b) = some (.bool (decide (a = b))) := by simp [obin, ibin]
theorem bi_neq (k : IntKind) (a b : Int) : obin .neq (.int k a) (.int k b) = some (.bool (decide (¬ a = b))) := by simp [obin, ibin]
theorem bi_lss (k : IntKind) (a b : Int) : obin .lss (.int k a) (.int k b) = some (.bool (decide (a < b))) := by simp [obin, ibin]
theorem bi_leq (k : IntKind) (a b : Int) : obin .leq (.int k a) (.int k b) = some (.bool (decide (a ≤ b))) := by simp [obin, ibin]
theorem bi_gtr (k : IntKind) (a b : Int) : obin .gtr (.int k a) (.int k b) = some (.bool (decide (b < a))) := by simp [obin, ibin]
theorem bi_geq (k : IntKind) (a b : Int) : obin .geq (.int k a) (.int k b) = some (.bool (decide (b ≤ a))) := by simp [obin, ibin]
theorem bi_shl (k k' : IntKind) (a b : Int) : obin .shl (.int k a) (.int k' b) = if b < 0 then none else some (.int k (k.wrap (a * 2 ^ (min b.toNat k.bits)))) := by simp [obin, shiftv]
theorem bi_shr (k k' : IntKind) (a b : Int) : obin .shr (.int k a) (.int k' b) = if b < 0 then none else some (.int k (a.fdiv (2 ^ (min b.toNat k.bits)))) := by simp [obin, shiftv]
theorem bs_add (a b : List UInt8) : obin .add (str a) (str b) = if a.length + b.length ≤ 4611686018427387904 then some (str (a ++ b)) else none := by simp [obin, sbin, str]
theorem bs_eql (a b : List UInt8) : obin .eql (str a) (str b) = some (.bool (decide (a = b))) := by simp [obin, sbin, str]
theorem bs_neq (a b : List UInt8) : obin .neq (str a) (str b) = some (.bool (decide (¬ a = b))) := by simp [obin, sbin, str]
theorem un_not (b : Bool) : oun .not (.bool b) = some (.bool (!b)) := rfl
theorem un_neg (k : IntKind) (n : Int) : oun .neg (.int k n) = some (.int k (k.wrap (0 - n))) := rfl
theorem un_xor (k : IntKind) (n : Int) : oun .xor (.int k n) = some (.int k (k.wrap (BitVec.ofInt k.bits (if k.signed then -1 else k.max) ^^^ BitVec.ofInt k.bits n).toNat)) := rfl
theorem es_nil (b : Option Addr) (n c n' c' : Nat) : oeqs (.slice none n c) (.slice b n' c') = some b.isNone := rfl
theorem es_some (a : Addr) (n c n' c' : Nat) : oeqs (.slice (some a) n c) (.slice none n' c') = some false := rfl
theorem es_any (b : Option Addr) (n c n' c' : Nat) : oeqs (.slice b n c) (.slice none n' c') = some b.isNone := by cases b <;> rfl
theorem one_mk (v : Value) : one [v] = some v := rfl
theorem ng_f (t : Bool) : negv false t = .bool t := rfl
theorem ng_t (t : Bool) : negv true t = .bool (!t) := rfl
theorem nck_ptr (a : Addr) : nckv (.pointer (some a)) = true := rfl
theorem nck_fn (n : Nat) (a b : Array Value) : nckv (.func (.func n) a b) = true := rfl
theorem le_i (k : IntKind) (a b : Int) : leafEq .i (.int k a) (.int k b) = some (decide (a = b)) := by simp [leafEq]
theorem le_s (a b : List UInt8) : leafEq .s (str a) (str b) = some (decide (a = b)) := by simp [leafEq, str]
theorem le_b (a b : Bool) : leafEq .b (.bool a) (.bool b) = some (decide (a = b)) := rfl
theorem srcOf_str (h : H) (w : Nat) (l : List UInt8) : srcOf h w (str l) = some (l.length, u8s l) := by simp [srcOf, str]
theorem srcOf_nil (h : H) (w : Nat) (a : Option Addr) (c : Nat) : srcOf h w (.slice a 0 c) = some (0, []) := by cases a <;> rfl
theorem srcOf_sl (h : H) (w b o n c : Nat) : srcOf h w (sl b o (n + 1) c) = (ldc h b o ((n + 1) * w)).bind fun cs => some (n + 1, cs) := rfl
end
end Go.KH
