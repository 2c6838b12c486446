/- A helper of this seat's claims (the logic of the walks): what it shows is shown for every input that its statements name, on no other condition. -/
import Derived.Test.YthjbhdmjfakfaaaGreatDoorKB
import Derived.Attr
import Derived.Carry
import Derived.ChangeSlices
import Derived.JoinedOf
import Derived.SizedLaws
import Derived.WalkKit
import Derived.OpenShut
set_option linter.unusedVariables false
namespace Go.KH
open Go.RowKit

theorem splice_s (c : Value) (cs new : List Value) (o : Nat) : splice (c :: cs) (o + 1) new = c :: splice cs o new := by
 unfold splice
 rw [show o + 1 + new.length = (o + new.length) + 1 by omega, List.take_succ_cons, List.drop_succ_cons]; rfl
theorem splice_z (cs new : List Value) : splice cs 0 new = new ++ cs.drop new.length := by simp [splice]
theorem fillL_cons (cells : List Value) (off size : Nat) (v : Value) (rest : List (Nat × Nat × Value)) (K : List Value → Prop) : withO (fillL cells ((off, size, v) :: rest)) K = Req ((vcl v).length = size ∧ off + size ≤ cells.length) (withO (fillL (splice cells off (vcl v)) rest) K) := by
 simp only [fillL, vcl]
 split
 ·rename_i hc; simp [Req, hc]
 ·rename_i hc; simp only [withO_none, Req]; exact (eq_false (fun h => hc h.1)).symm
theorem fillL_nil (z : List Value) : fillL z [] = some z := rfl
theorem cellsEq_iiis (a b c a' b' c' : Int) (d d' : List UInt8) : cellsEq [.i, .i, .i, .s] [i64 a, i64 b, i64 c, str d] [i64 a', i64 b', i64 c', str d'] = some (decide (a = a' ∧ b = b' ∧ c = c' ∧ d = d')) := by
 simp only [cellsEq, le_i, le_s, Option.bind_some]
 by_cases h1 : a = a' <;> by_cases h2 : b = b' <;> by_cases h3 : c = c' <;> by_cases h4 : d = d' <;> simp [h1, h2, h3, h4]
theorem cellsEq_iiii (a b c d a' b' c' d' : Int) : cellsEq [.i, .i, .i, .i] [i64 a, i64 b, i64 c, i64 d] [i64 a', i64 b', i64 c', i64 d'] = some (decide (a = a' ∧ b = b' ∧ c = c' ∧ d = d')) := by
 simp only [cellsEq, le_i, Option.bind_some]
 by_cases h1 : a = a' <;> by_cases h2 : b = b' <;> by_cases h3 : c = c' <;> by_cases h4 : d = d' <;> simp [h1, h2, h3, h4]
theorem Sub_self (h : H) : Sub h h = True := propext ⟨fun _ => trivial, fun _ => Sub.refl h⟩
theorem Sub_none (h h' : H) : Sub h.none h' = True := propext ⟨fun _ => trivial, fun _ => ⟨fun b ob hb => (by cases hb), fun b l hb => (by cases hb)⟩⟩
theorem bnot_dec (p : Prop) [Decidable p] : (!decide p) = decide (¬ p) := by simp
attribute [go_sem ↓] wpc_skip wpc_ops wpc_dops_t wpc_dops_f wpc_seq wpc_cond wpc_block wpc_loop wpc_exit wpc_ret thenQ_nor thenQ_exit thenQ_ret blkQ_nor blkQ_exit blkQ_ret loopQ_nor loopQ_exit loopQ_ret opsw_nil opsw_cons gow_n gow_g dopw_nil dopw_tk dopw_tkg dopw_sq dopw_lt dopw_alt dopw_alt3
attribute [go_sem ↓] wv_mv wv_pick wv_ldt wv_ldf wv_fld wv_idx wv_aidx wv_ixt wv_ixf wv_bin wv_eqb wv_eqs wv_eqa wv_un wv_cv wv_sidx wv_ssl wv_lsls wv_lsln wv_len wv_slen wv_alen wv_partt wv_partf wv_ext wv_build wv_mkf wv_mn wv_mx wv_b2s wv_nck wv_lsl3 wv_mlk wv_mln
attribute [go_sem ↓] wo_p wo_box wo_alloc wo_bsl wo_st wo_app wo_cpy wo_mks wo_s2b wo_call wo_mkm wo_bad wo_mup wo_clr bnd_n bnd_s rvs_nil rvs_tmp rvs_cell retw_ret retw_nor
attribute [go_sem] fillL_cons fillL_nil cellsEq_iiis cellsEq_iiii Sub_self Sub_none dum Req_true Req_false Req_and withO_if withO_if0 ev_t ev_c Br_true Br_false Br_not goes_app gob_bt gob_bf gob_u gob_t putf_s putf_n bi_add bi_sub bi_mul bi_quo bi_rem bi_and bi_or bi_xor bi_andNot bi_eql bi_neq bi_lss bi_leq bi_gtr bi_geq bi_shl bi_shr bs_add bs_eql bs_neq un_not un_neg un_xor es_any one_mk ng_f ng_t nck_ptr nck_fn srcOf_str srcOf_nil srcOf_sl upd_app argsFr_app withO_some withO_none withO_bind asB_mk asI_mk asP_mk asS_mk asA_mk asT_mk asL_mk asR_mk asFn_mk asFn_mk0 asFn_mk1 tup_one tup_two
attribute [go_sem] Option.bind_some Option.map_some Option.map_none List.getD_cons_zero List.getD_cons_succ List.nil_append List.append_nil List.map_cons List.map_nil List.getElem?_cons_zero List.getElem?_cons_succ not_true_eq_false not_false_eq_true decide_eq_true_eq decide_true decide_false Bool.not_true Bool.not_false Int.toNat_natCast bnot_dec
attribute [go_sem 500] ldc_set stc_set H.set_get
attribute [go_sem] withO_map
attribute [go_sem] H.set_set H.set_base H.set_get_same splice_s splice_z cells_agg cells_int cells_bool cells_str cells_slice cells_ptr List.take_succ_cons List.take_zero List.drop_succ_cons List.drop_zero List.length_cons List.length_nil List.cons_append List.all_cons List.all_nil oneCell_int oneCell_bool oneCell_str oneCell_slice oneCell_ptr Bool.and_self Nat.zero_add Nat.add_zero Nat.le_refl and_self true_and and_true and_false false_and if_true if_false
attribute [go_sem_proc ↓] reduceIte
attribute [go_sem_proc] reduceCtorEq Int.reduceEq Int.reduceLT Int.reduceLE Nat.reduceEqDiff Nat.reduceAdd Nat.reduceMul Nat.reduceLeDiff Nat.reduceSub Int.reduceNeg
end Go.KH
set_option linter.unusedSimpArgs false
set_option maxRecDepth 100000
namespace Go.KH
open Go.RowKit
abbrev q (d : Nat) (o : PO) : GO := ⟨some d, none, .p o⟩
abbrev qg (d t : Nat) (b : Bool) (o : PO) : GO := ⟨some d, some (t, b), .p o⟩
abbrev jm (d a : Nat) : GO := ⟨some d, none, .p (.mv (.t a))⟩
abbrev jc (d f : Nat) (xs : List X) : GO := ⟨some d, none, .call (.c (.func (.func f) #[] #[])) xs⟩
abbrev jcg (d t : Nat) (b : Bool) (f : Nat) (xs : List X) : GO := ⟨some d, some (t, b), .call (.c (.func (.func f) #[] #[])) xs⟩
abbrev jl (d a : Nat) : GO := ⟨some d, none, .p (.ld false 1 (.t a))⟩
abbrev jd (d n a : Nat) : GO := ⟨some d, none, .p (.ld true n (.t a))⟩
abbrev jf (d k a : Nat) : GO := ⟨some d, none, .p (.fld k (.t a))⟩
abbrev js (n a b : Nat) : GO := ⟨none, none, .st n (.t a) (.t b)⟩
abbrev jb (d : Nat) (o : BinOp) (a b : Nat) : GO := ⟨some d, none, .p (.bin o (.t a) (.t b))⟩
abbrev jk (d : Nat) (o : BinOp) (a : Nat) (n : Int) : GO := ⟨some d, none, .p (.bin o (.t a) (.c (i64 n)))⟩
abbrev jo (l : List GO) (c : C) : C := .seq (.ops l) c
def Wk (P : Program) (n k : Nat) (rs : List R) (b : C) : Prop := ∀ {args : List Value} {h : H} {Q : Value → H → Prop}, args.length ≤ k → wpc P b (retw rs Q) (argsFr args) h → AC P n args h Q
theorem Wk.of {P : Program} {n k : Nat} {fn : Func} {rs : List R} {b : C} (hm : P.follows .mixedOrders = true) (hfn : P.funcs[n]? = some fn) (hname : (fn.name == "runtime.NumGoroutine") = false) (hp : prepF P fn = some ⟨k, rs, b⟩) : Wk P n k rs b := fun hl hk => AC.of_wpc hm hfn hname hp hl hk
theorem Wk.x {P : Program} {n k : Nat} {fn : Func} {rs : List R} {b : C} (hm : P.follows .mixedOrders = true) (hfn : P.funcs[n]? = some fn) (hname : (fn.name == "runtime.NumGoroutine") = false) (hp : prepFx P fn = some ⟨k, rs, b⟩) : Wk P n k rs b := fun hl hk => AC.of_wpcx hm hfn hname hp hl hk

section
variable {P : Program}

end
end Go.KH
namespace Go.KH
open Go.RowKit

section
variable {P : Program}

end
end Go.KH
namespace Go.KH
open Go.RowKit Go.ChangeShapes

def h0 (W : World) : H := { base := W.heap.size, get := fun b => match W.heap[b]? with | some (.cells c _ _) => some ⟨c.toList, c.size⟩ | _ => none, mp := fun _ => none }

theorem rel_h0 (W : World) : Rel W (h0 W) W := by
 refine ⟨Below.refl _ _, Nat.le_refl _, ?_, fun b l hb => (by cases hb), fun b l hb => (by cases hb)⟩
 intro b ob hb
 simp only [h0] at hb
 split at hb
 ·rename_i c T fz hc
  simp only [Option.some.injEq] at hb; subst hb
  refine ⟨c, T, fz, hc, List.prefix_refl _, fun hle => ?_⟩
  have hlt : b < W.heap.size := by
   rcases Nat.lt_or_ge b W.heap.size with h | h
   ·exact h
   ·rw [Array.getElem?_eq_none h] at hc; cases hc
  exact absurd hle (Nat.not_le_of_lt hlt)
 ·cases hb

abbrev Tr (P : Program) (t : TypeId) (R : World → List Value → Prop) : Prop :=
 ∀ (H' : Type) (enc : TypeId × Value → H') (W : World) (fuel : Nat) (cs : List Value) (x : DataW H' × List MemPlace), DataW.trod enc P W 0 (fun _ => true) true fuel t cs = some x → R W cs

section
variable {P : Program}

theorem open_int' {t : TypeId} {k : IntKind} (hu : P.underlying t = some (.int k)) : Tr P t fun _ cs => ∃ n, cs = [.int k n] ∧ k.min ≤ n ∧ n ≤ k.max := by
 intro H' enc W fuel cs x h
 cases fuel with
 | zero => simp [DataW.trod] at h
 | succ fuel =>
  unfold DataW.trod at h
  rw [hu] at h
  split at h <;> simp_all
  obtain ⟨⟨rfl, hw⟩, _⟩ := h
  simpa [Lit.wf] using hw

theorem open_bool' {t : TypeId} (hu : P.underlying t = some .bool) : Tr P t fun _ cs => ∃ b, cs = [.bool b] := by
 intro H' enc W fuel cs x h
 cases fuel with
 | zero => simp [DataW.trod] at h
 | succ fuel =>
  unfold DataW.trod at h
  rw [hu] at h
  split at h <;> simp_all

theorem open_str' {t : TypeId} (hu : P.underlying t = some .string) : Tr P t fun _ cs => ∃ l : List UInt8, cs = [str l] ∧ l.length ≤ maxLen := by
 intro H' enc W fuel cs x h
 cases fuel with
 | zero => simp [DataW.trod] at h
 | succ fuel =>
  unfold DataW.trod at h
  rw [hu] at h
  split at h <;> simp_all
  rename_i s
  exact ⟨bl s, (str_bl s).symm, by rw [bl_length]; exact h.1⟩

theorem open_struct' {t : TypeId} {fs : Array Field} (hu : P.underlying t = some (.struct fs)) : Tr P t fun W cs => cs.length = P.cellsOf t ∧
  ∀ (i : Nat) f (R : World → List Value → Prop), fs[i]? = some f → Tr P f.type R → R W ((cs.drop f.offset).take (P.cellsOf f.type)) := by
 intro H' enc W fuel cs x h
 cases fuel with
 | zero => simp [DataW.trod] at h
 | succ fuel =>
  unfold DataW.trod at h
  rw [hu] at h
  have h : (if cs.length = P.cellsOf t then (fs.toList.mapM fun f => DataW.trod enc P W 0 (fun _ => true) true fuel f.type ((cs.drop f.offset).take (P.cellsOf f.type))).map fun xs => ((.agg (xs.map (·.1)), xs.flatMap (·.2)) : DataW H' × List MemPlace) else none) = some x := by
   split at h <;> simp_all
  split at h
  ·rename_i hl
   refine ⟨hl, fun i f R hf hR => ?_⟩
   simp only [Option.map_eq_some_iff] at h
   obtain ⟨xs, hxs, _⟩ := h
   obtain ⟨hlen, hget⟩ := mapM_get _ _ hxs
   have hf' : fs.toList[i]? = some f := by simpa using hf
   have hi : i < xs.length := by rw [hlen]; exact (List.getElem?_eq_some_iff.1 hf').1
   exact hR H' enc W fuel _ _ (hget i f xs[i] hf' (by simp [hi]))
  ·cases h

theorem cells?_ldc {W : World} {a : Addr} {n : Nat} {cs : List Value} (hn : n ≠ 0) (h : W.cells? 0 a n = some cs) : a.spot = none ∧ ldc (h0 W) a.block a.off n = some cs := by
 obtain ⟨h1, h2, h3⟩ := World.cells?_some h
 obtain ⟨b, o, sp⟩ := a
 have c0 := h3 0 (by omega)
 have hc0 : cs[0]? = some cs[0] := by simp
 rw [hc0] at c0
 have hsp : sp = none := by
  cases sp with
  | none => rfl
  | some s => simp [Addr.add, World.cell?] at c0; split at c0 <;> simp at c0
 subst hsp
 refine ⟨rfl, ?_⟩
 simp only [addr_add] at h3
 unfold World.cell? at c0
 simp only [addr_add] at c0
 split at c0
 ·rename_i c T fz hc
  unfold ldc
  simp only [h0, hc]
  have hlen : o + n ≤ c.size := by
   have := h3 (n - 1) (by omega)
   have hl : cs[n - 1]? = some cs[n - 1] := by simp
   rw [hl] at this
   simp only [World.cell?, hc] at this
   have := (Array.getElem?_eq_some_iff.1 (by simpa using this)).1
   omega
  simp only [Array.length_toList, hlen, if_true]
  congr 1
  apply List.ext_getElem?
  intro i
  by_cases hi : i < n
  ·have := h3 i hi
   simp only [World.cell?, hc] at this
   rw [List.getElem?_take, if_pos hi, List.getElem?_drop, ← this]
   simp
  ·rw [List.getElem?_take, if_neg hi, List.getElem?_eq_none (by omega)]
 ·cases c0

theorem open_slice' {α : Type} (cells : α → List Value) (Ok : α → Prop) {t e : TypeId} (w : Nat) (hu : P.underlying t = some (.slice e)) (hw : P.cellsOf e = w) (hw0 : w ≠ 0)
  (he : Tr P e fun _ cs => ∃ a, cs = cells a ∧ Ok a) : Tr P t fun W cs => ∃ (v : Value) (l : List α), cs = [v] ∧ Sl (h0 W) v w (l.map cells) ∧ (∀ a ∈ l, Ok a) ∧ l.length ≤ maxLen ∧ v.oneCell' = true := by
 intro H' enc W fuel cs x h
 rcases DataW.trod_slice hu h with ⟨rfl, _⟩ | ⟨a, len, cap, elems, rest, n, _, rfl, _, _, hlc, hcm, hel, hget, _⟩
 ·exact ⟨_, [], rfl, Sl.nil _ _, by simp, by simp, rfl⟩
 ·have each : ∀ i, i < len → ∃ b, W.cells? 0 (a.add (i * w)) w = some (cells b) ∧ Ok b := by
   intro i hi
   have h1 := hget i hi
   have h2 : elems[i]? = some elems[i] := by simp [hel, hi]
   rw [h2, hw, Option.bind_eq_some_iff] at h1
   obtain ⟨cs, hcs, ht⟩ := h1
   obtain ⟨b, rfl, hb⟩ := he H' enc W n cs _ ht
   exact ⟨b, hcs, hb⟩
  have build : ∀ m, m ≤ len → ∃ l : List α, l.length = m ∧ ∀ i (hi : i < l.length), W.cells? 0 (a.add (i * w)) w = some (cells l[i]) ∧ Ok l[i] := by
   intro m
   induction m with
   | zero => intro _; exact ⟨[], rfl, by simp⟩
   | succ m ih =>
    intro hm
    obtain ⟨l, hl, hg⟩ := ih (by omega)
    obtain ⟨b, hb1, hb2⟩ := each m (by omega)
    refine ⟨l ++ [b], by simp [hl], ?_⟩
    intro i hi
    by_cases hlt : i < l.length
    ·rw [List.getElem_append_left hlt]; exact hg i hlt
    ·have : i = l.length := by simp at hi; omega
     subst this
     rw [List.getElem_append_right (Nat.le_refl _)]
     simp only [Nat.sub_self, List.getElem_cons_zero]
     rw [hl]; exact ⟨hb1, hb2⟩
  obtain ⟨l, hl, hg⟩ := build len (Nat.le_refl _)
  refine ⟨.slice (some a) len cap, l, rfl, ?_, ?_, by omega, rfl⟩
  ·by_cases h0 : len = 0
   ·subst h0
    have : l = [] := List.length_eq_zero_iff.1 hl
    subst this
    obtain ⟨b, o, sp⟩ := a
    cases sp with
    | none => exact ⟨_, cap, b, o, rfl, Nat.zero_le _, rfl, by simp⟩
    | some s => exact ⟨_, cap, 0, 0, rfl, Nat.zero_le _, rfl, by simp⟩
   ·have hsp : a.spot = none := by
     have := (cells?_ldc hw0 (hg 0 (by omega)).1).1
     simpa [Addr.add] using this
    obtain ⟨b, o, sp⟩ := a
    simp only at hsp; subst hsp
    refine ⟨some ⟨b, o, none⟩, cap, b, o, by simp [hl], by simpa [hl] using hlc, by simp [hl], ?_⟩
    intro i r hr
    simp only [List.getElem?_map, Option.map_eq_some_iff] at hr
    obtain ⟨x, hx, rfl⟩ := hr
    obtain ⟨hi, rfl⟩ := List.getElem?_eq_some_iff.1 hx
    have := (cells?_ldc hw0 (hg i hi).1).2
    simpa [addr_add] using this
  ·intro x hx
   obtain ⟨i, hi, rfl⟩ := List.getElem_of_mem hx
   exact (hg i hi).2

theorem trodAll_below {H' : Type} {enc : TypeId × Value → H'} (hl : laidOutB P = true) {W W' : World} (hb : Below W.heap.size W W') : ∀ (ts : List TypeId) (vs : List Value) (ds : List (DataW H')) (ps : List MemPlace),
  (∀ t ∈ ts, P.readableRec t = true ∧ t < P.types.size) → DataW.TrodAll enc P W 0 (fun _ => true) true ts vs ds ps → ds.length = ts.length ∧ vs.length = ts.length ∧ DataW.TrodAll enc P W' 0 (fun b => decide (b < W.heap.size)) true ts vs ds ps
 | [], vs, ds, ps, _, h => by
  obtain ⟨rfl, rfl, rfl⟩ := trodAll_nil h; exact ⟨rfl, rfl, rfl⟩
 | t :: ts, vs, ds, ps, hr, h => by
  obtain ⟨v, vs', d, ds', p, q, rfl, rfl, rfl, h1, h2⟩ := trodAll_cons h
  obtain ⟨e1, e2, h3⟩ := trodAll_below hl hb ts vs' ds' q (fun t ht => hr t (by simp [ht])) h2
  have hlt : ∀ x ∈ p, x.block < W.heap.size := by obtain ⟨m, hm⟩ := h1; exact DataW.trod_lt m _ _ _ hm
  exact ⟨by simp [e1], by simp [e2], trodAll_cons_mk (Below.trod hl (hr t (by simp)).1 (hr t (by simp)).2 h1 hb hlt) h3⟩

end
end Go.KH
namespace Go.KH
open Go.RowKit Go.ChangeShapes

inductive LF where
 | int (k : IntKind)
 | str
 | bool
inductive LT where
 | f (x : LF)
 | sl (e : List LF)
inductive AS where
 | one (t : LT)
 | agg (ts : List LT)

def okF : LF → Value → Prop
 | .int k, v => ∃ n, v = .int k n ∧ k.min ≤ n ∧ n ≤ k.max
 | .str, v => ∃ l : List UInt8, v = KH.str l ∧ l.length ≤ maxLen
 | .bool, v => ∃ b, v = .bool b
def fitsF : List LF → List Value → Prop
 | [], [] => True
 | t :: ts, c :: cs => okF t c ∧ fitsF ts cs
 | _, _ => False
def okT (h : H) : LT → Value → Prop
 | .f x, v => okF x v
 | .sl e, v => ∃ rows : List (List Value), Sl h v e.length rows ∧ (∀ r ∈ rows, fitsF e r) ∧ rows.length ≤ maxLen
def fitsT (h : H) : List LT → List Value → Prop
 | [], [] => True
 | t :: ts, c :: cs => okT h t c ∧ fitsT h ts cs
 | _, _ => False
def okA (h : H) : AS → Value → Prop
 | .one t, v => okT h t v
 | .agg ts, v => ∃ cs : List Value, v = .agg cs.toArray ∧ fitsT h ts cs
def okAs (h : H) : List AS → List Value → Prop
 | [], [] => True
 | t :: ts, c :: cs => okA h t c ∧ okAs h ts cs
 | _, _ => False

theorem fitsF_append : ∀ {ts us : List LF} {cs ds : List Value}, fitsF ts cs → fitsF us ds → fitsF (ts ++ us) (cs ++ ds)
 | [], _, [], _, _, k => k
 | t :: ts, _, c :: cs, _, h, k => ⟨h.1, fitsF_append h.2 k⟩
 | [], _, _ :: _, _, h, _ => h.elim
 | _ :: _, _, [], _, h, _ => h.elim
theorem fitsT_append {h0 : H} : ∀ {ts us : List LT} {cs ds : List Value}, fitsT h0 ts cs → fitsT h0 us ds → fitsT h0 (ts ++ us) (cs ++ ds)
 | [], _, [], _, _, k => k
 | t :: ts, _, c :: cs, _, h, k => ⟨h.1, fitsT_append h.2 k⟩
 | [], _, _ :: _, _, h, _ => h.elim
 | _ :: _, _, [], _, h, _ => h.elim

theorem fitsF_cons {t : LF} {ts : List LF} {r : List Value} (h : fitsF (t :: ts) r) : ∃ c cs, r = c :: cs ∧ okF t c ∧ fitsF ts cs := by
 cases r with
 | nil => exact h.elim
 | cons c cs => exact ⟨c, cs, rfl, h.1, h.2⟩
theorem fitsF_nil {r : List Value} (h : fitsF [] r) : r = [] := by
 cases r with
 | nil => rfl
 | cons c cs => exact h.elim
theorem okAs_cons {h0 : H} {t : AS} {ts : List AS} {r : List Value} (h : okAs h0 (t :: ts) r) : ∃ c cs, r = c :: cs ∧ okA h0 t c ∧ okAs h0 ts cs := by
 cases r with
 | nil => exact h.elim
 | cons c cs => exact ⟨c, cs, rfl, h.1, h.2⟩
theorem okAs_nil {h0 : H} {r : List Value} (h : okAs h0 [] r) : r = [] := by
 cases r with
 | nil => rfl
 | cons c cs => exact h.elim
section
variable {P : Program}

def joinF {α : Type} (P : Program) (g : TypeId → Option (List α)) : List Field → Nat → Option (List α)
 | [], _ => some []
 | f :: fs, off => (g f.type).bind fun m => if f.offset = off ∧ P.cellsOf f.type = m.length then (joinF P g fs (off + m.length)).map (m ++ ·) else none
def shF (P : Program) : Nat → TypeId → Option (List LF)
 | 0, _ => none
 | d + 1, t =>
  match P.underlying t with
  | some (.int k) => some [.int k]
  | some .string => some [.str]
  | some .bool => some [.bool]
  | some (.struct fs) => (joinF P (shF P d) fs.toList 0).bind fun pl => if P.cellsOf t = pl.length then some pl else none
  | _ => none
def shT (P : Program) : Nat → TypeId → Option (List LT)
 | 0, _ => none
 | d + 1, t =>
  match P.underlying t with
  | some (.int k) => some [.f (.int k)]
  | some .string => some [.f .str]
  | some .bool => some [.f .bool]
  | some (.slice e) => (shF P d e).bind fun pl => if P.cellsOf e = pl.length ∧ pl.length ≠ 0 then some [.sl pl] else none
  | some (.struct fs) => (joinF P (shT P d) fs.toList 0).bind fun pl => if P.cellsOf t = pl.length then some pl else none
  | _ => none
def shA (P : Program) (t : TypeId) : Option AS :=
 match P.underlying t with
 | some (.struct _) => (shT P 8 t).map .agg
 | _ => (shT P 8 t).bind fun l => match l with | [t] => some (.one t) | _ => none

theorem joinF_get {α : Type} {g : TypeId → Option (List α)} {fit : List α → List Value → Prop} (fnil : fit [] []) (fapp : ∀ {ts us : List α} {cs ds : List Value}, fit ts cs → fit us ds → fit (ts ++ us) (cs ++ ds)) :
  ∀ (fs : List Field) (off : Nat) (ts : List α) (cs : List Value), joinF P g fs off = some ts → cs.length = off + ts.length → (∀ (i : Nat) f m, fs[i]? = some f → g f.type = some m → fit m ((cs.drop f.offset).take (P.cellsOf f.type))) → fit ts (cs.drop off)
 | [], off, ts, cs, h, hl, _ => by
  simp only [joinF, Option.some.injEq] at h; subst h
  have hl2 : cs.length = off := by simpa using hl
  rw [List.drop_eq_nil_of_le (by omega)]; exact fnil
 | f :: fs, off, ts, cs, h, hl, hg => by
  simp only [joinF, Option.bind_eq_some_iff] at h
  obtain ⟨m, hm, h⟩ := h
  split at h
  ·rename_i hc
   obtain ⟨ho, hsz⟩ := hc
   simp only [Option.map_eq_some_iff] at h
   obtain ⟨us, hus, rfl⟩ := h
   have h1 := hg 0 f m rfl hm
   rw [ho, hsz] at h1
   have h2 := joinF_get fnil fapp fs (off + m.length) us cs hus (by rw [hl]; simp; omega) (fun i f' m' hf' hm' => hg (i + 1) f' m' (by simpa using hf') hm')
   have h3 := fapp h1 h2
   rw [show (cs.drop off).take m.length ++ cs.drop (off + m.length) = cs.drop off by rw [← List.drop_drop, List.take_append_drop]] at h3
   exact h3
  ·cases h

theorem trF : ∀ (d : Nat) (t : TypeId) (ts : List LF), shF P d t = some ts → Tr P t fun _ cs => fitsF ts cs
 | 0, _, _, h => by simp [shF] at h
 | d + 1, t, ts, h => by
  intro H' enc W fuel cs x hx
  unfold shF at h
  split at h
  ·rename_i k hu
   simp only [Option.some.injEq] at h; subst h
   obtain ⟨n, rfl, h1⟩ := open_int' hu H' enc W fuel cs x hx
   exact ⟨⟨n, rfl, h1⟩, trivial⟩
  ·rename_i hu
   simp only [Option.some.injEq] at h; subst h
   obtain ⟨l, rfl, h1⟩ := open_str' hu H' enc W fuel cs x hx
   exact ⟨⟨l, rfl, h1⟩, trivial⟩
  ·rename_i hu
   simp only [Option.some.injEq] at h; subst h
   obtain ⟨b, rfl⟩ := open_bool' hu H' enc W fuel cs x hx
   exact ⟨⟨b, rfl⟩, trivial⟩
  ·rename_i fs hu
   simp only [Option.bind_eq_some_iff] at h
   obtain ⟨pl, hpl, h⟩ := h
   split at h
   ·rename_i hc
    simp only [Option.some.injEq] at h; subst h
    obtain ⟨hl, hf⟩ := open_struct' hu H' enc W fuel cs x hx
    have := joinF_get (P := P) (fit := fitsF) trivial fitsF_append fs.toList 0 pl cs hpl (by rw [hl, hc]; simp) (fun i f m hf' hm => hf i f (fun _ cs => fitsF m cs) (by simpa using hf') (trF d f.type m hm))
    simpa using this
   ·cases h
  ·cases h

theorem trT : ∀ (d : Nat) (t : TypeId) (ts : List LT), shT P d t = some ts → Tr P t fun W cs => fitsT (h0 W) ts cs
 | 0, _, _, h => by simp [shT] at h
 | d + 1, t, ts, h => by
  intro H' enc W fuel cs x hx
  unfold shT at h
  split at h
  ·rename_i k hu
   simp only [Option.some.injEq] at h; subst h
   obtain ⟨n, rfl, h1⟩ := open_int' hu H' enc W fuel cs x hx
   exact ⟨⟨n, rfl, h1⟩, trivial⟩
  ·rename_i hu
   simp only [Option.some.injEq] at h; subst h
   obtain ⟨l, rfl, h1⟩ := open_str' hu H' enc W fuel cs x hx
   exact ⟨⟨l, rfl, h1⟩, trivial⟩
  ·rename_i hu
   simp only [Option.some.injEq] at h; subst h
   obtain ⟨b, rfl⟩ := open_bool' hu H' enc W fuel cs x hx
   exact ⟨⟨b, rfl⟩, trivial⟩
  ·rename_i e hu
   simp only [Option.bind_eq_some_iff] at h
   obtain ⟨pl, hpl, h⟩ := h
   split at h
   ·rename_i hc
    simp only [Option.some.injEq] at h; subst h
    obtain ⟨v, l, rfl, hs, ha, hn, _⟩ := open_slice' (cells := fun r : List Value => r) (Ok := fun r => fitsF pl r) pl.length hu hc.1 hc.2
     (fun H' enc W fuel cs x hx => ⟨cs, rfl, trF d e pl hpl H' enc W fuel cs x hx⟩) H' enc W fuel cs x hx
    rw [List.map_id''] at hs
    ·exact ⟨⟨l, hs, ha, hn⟩, trivial⟩
    ·intro r; rfl
   ·cases h
  ·rename_i fs hu
   simp only [Option.bind_eq_some_iff] at h
   obtain ⟨pl, hpl, h⟩ := h
   split at h
   ·rename_i hc
    simp only [Option.some.injEq] at h; subst h
    obtain ⟨hl, hf⟩ := open_struct' hu H' enc W fuel cs x hx
    have := joinF_get (P := P) (fit := fitsT (h0 W)) trivial fitsT_append fs.toList 0 pl cs hpl (by rw [hl, hc]; simp) (fun i f m hf' hm => hf i f (fun W cs => fitsT (h0 W) m cs) (by simpa using hf') (trT d f.type m hm))
    simpa using this
   ·cases h
  ·cases h

theorem okA_of {t : TypeId} {s : AS} (hs : shA P t = some s) {W : World} {base : Nat} {v : Value} {H' : Type} {enc : TypeId × Value → H'} {d : DataW H'} {ps : List MemPlace} (hv : Value.okWide P W .any base t v)
  (ht : DataW.Trod enc P W 0 (fun _ => true) true t v d ps) : okA (h0 W) s v := by
 obtain ⟨fuel, ht⟩ := ht
 unfold shA at hs
 split at hs
 ·rename_i fs hu
  simp only [Option.map_eq_some_iff] at hs
  obtain ⟨ts, hts, rfl⟩ := hs
  simp only [Value.okWide, hu] at hv
  obtain ⟨cs, rfl, _, _⟩ := hv
  exact ⟨cs.toList, by simp, trT 8 t ts hts H' enc W fuel _ _ ht⟩
 ·rename_i hns
  simp only [Option.bind_eq_some_iff] at hs
  obtain ⟨l, hl, hs⟩ := hs
  split at hs
  ·rename_i lt
   simp only [Option.some.injEq] at hs; subst hs
   have hone : v.cells.toList = [v] := by
    unfold shT at hl
    split at hl
    ·rename_i k hu; obtain ⟨n, rfl⟩ := WideShapes.okWide_int hu hv; rfl
    ·rename_i hu; obtain ⟨n, rfl⟩ := WideShapes.okWide_string hu hv; rfl
    ·rename_i hu; obtain ⟨n, rfl⟩ := WideShapes.okWide_bool hu hv; rfl
    ·rename_i e hu; obtain ⟨a, n, c, rfl⟩ := WideShapes.okWide_slice hu hv; rfl
    ·rename_i fs hu; exact absurd hu (hns fs)
    ·cases hl
   rw [hone] at ht
   exact (trT 8 t _ hl H' enc W fuel _ _ ht).1
  ·cases hs

theorem okAs_of : ∀ (ts : List TypeId) (ss : List AS) (W : World) (H' : Type) (enc : TypeId × Value → H') (args : List Value) (ds : List (DataW H')) (ps : List MemPlace), ts.map (shA P) = ss.map some →
  DataW.TrodAll enc P W 0 (fun _ => true) true ts args ds ps → (∀ (j : Nat) t v, ts[j]? = some t → args[j]? = some v → ∃ base, Value.okWide P W .any base t v) → okAs (h0 W) ss args
 | [], ss, W, H', enc, args, ds, ps, hs, ht, _ => by
  obtain ⟨rfl, rfl, rfl⟩ := trodAll_nil ht
  cases ss with
  | nil => trivial
  | cons s ss => simp at hs
 | t :: ts, ss, W, H', enc, args, ds, ps, hs, ht, hv => by
  obtain ⟨v, vs', d, ds', p, q, rfl, rfl, rfl, h1, h2⟩ := trodAll_cons ht
  cases ss with
  | nil => simp at hs
  | cons s ss =>
   simp only [List.map_cons, List.cons.injEq] at hs
   obtain ⟨base, hb⟩ := hv 0 t v rfl rfl
   exact ⟨okA_of hs.1 hb h1, okAs_of ts ss W H' enc vs' ds' q hs.2 h2 (fun j t v ht hv' => hv (j + 1) t v (by simpa using ht) (by simpa using hv'))⟩

theorem rows_of {α : Type} (c : α → List Value) (ok : α → Prop) : ∀ (rows : List (List Value)), (∀ r ∈ rows, ∃ a, r = c a ∧ ok a) → ∃ l : List α, rows = l.map c ∧ ∀ a ∈ l, ok a
 | [], _ => ⟨[], rfl, by simp⟩
 | r :: rows, h => by
  obtain ⟨a, rfl, ha⟩ := h r (by simp)
  obtain ⟨l, rfl, hl⟩ := rows_of c ok rows (fun r hr => h r (by simp [hr]))
  exact ⟨a :: l, rfl, by simpa using ⟨ha, hl⟩⟩

end
end Go.KH
namespace Go.KH
open Go.RowKit

def foldi {α β : Type} (f : β → Nat → α → β) (b : β) (l : List α) : β := l.zipIdx.foldl (fun b p => f b p.2 p.1) b
theorem foldi_take {α β : Type} (f : β → Nat → α → β) (b : β) (l : List α) (k : Nat) (hk : k < l.length) : foldi f b (l.take (k + 1)) = f (foldi f b (l.take k)) k l[k] := by
 unfold foldi
 have h1 : (l.take k).length = k := by simp; omega
 rw [List.take_succ_eq_append_getElem hk, List.zipIdx_append, List.foldl_append, h1]
 simp
def firstAt {α : Type} (p : α → Bool) (l : List α) : Int := match l.findIdx? p with | some i => i | none => -1
theorem firstAt_some {α : Type} {p : α → Bool} {l : List α} {k : Nat} (hk : k < l.length) (h : p l[k] = true) (hn : ∀ i, (hi : i < k) → p (l[i]'(by omega)) = false) : firstAt p l = k := by
 unfold firstAt
 rw [List.findIdx?_eq_some_iff_getElem.2 ⟨hk, h, fun j hj => by simp [hn j hj]⟩]
theorem firstAt_none {α : Type} {p : α → Bool} {l : List α} (hn : ∀ i, (hi : i < l.length) → p l[i] = false) : firstAt p l = -1 := by
 unfold firstAt
 rw [List.findIdx?_eq_none_iff.2 (fun x hx => by obtain ⟨i, hi, rfl⟩ := List.getElem_of_mem hx; exact hn i hi)]
theorem firstAt_le {α : Type} (p : α → Bool) (l : List α) : -1 ≤ firstAt p l ∧ firstAt p l < l.length := by
 unfold firstAt
 split
 ·rename_i i h
  have := (List.findIdx?_eq_some_iff_getElem.1 h).1
  omega
 ·omega
theorem firstAt_get {α : Type} {p : α → Bool} {l : List α} (h : 0 ≤ firstAt p l) : ∃ k, ∃ hk : k < l.length, firstAt p l = k ∧ p l[k] = true ∧ ∀ i, (hi : i < k) → p (l[i]'(by omega)) = false := by
 unfold firstAt at h ⊢
 split at h
 ·rename_i i hi
  obtain ⟨h1, h2, h3⟩ := List.findIdx?_eq_some_iff_getElem.1 hi
  exact ⟨i, h1, rfl, h2, fun j hj => by simpa using h3 j hj⟩
 ·omega

section
variable {P : Program}

def ifB (w : Nat) : C := (.seq (.ops [q 4 (.mv (.c (i64 0)))])
 (.seq (.seq (.ops [q 6 (.mv (.t 0)), q 7 (.len (.t 6)), q 8 (.mv (.c (i64 0)))])
 (.block 0 (.loop (.seq (.ops [q 9 (.bin .lss (.t 8) (.t 7))])
 (.seq (.cond (.t 9) .skip (.exit 0))
 (.seq (.block 1 (.seq (.ops [q 10 (.mv (.t 8)), q 5 (.mv (.t 10))])
 (.seq (.ops [q 11 (.mv (.t 1)), q 12 (.mv (.t 0)), q 13 (.mv (.t 5)), q 14 (.idx w (.t 12) (.t 13)), q 15 (.ld true w (.t 14)), ⟨(some 16), none, .call (.t 11) [(.t 15)]⟩])
 (.cond (.t 16) (.seq (.ops [q 17 (.mv (.t 5)), q 4 (.mv (.t 17))])
 .ret) .skip))))
 (.ops [q 18 (.bin .add (.t 8) (.c (i64 1))), q 8 (.mv (.t 18))])))))))
 (.seq (.ops [q 4 (.mv (.c (i64 (-1))))])
 .ret)))
theorem if_wpc {α : Type} {h : H} {v : Value} {l : List α} {ce : α → List Value} {p : α → Bool} {w n : Nat} {caps : List Value} (hv : Sl h v w (l.map ce)) (hn : l.length ≤ 1048576)
  (hc : ∀ x, x ∈ l → PC P n (.agg (ce x).toArray :: caps) h (.bool (p x))) {Q : Value → H → Prop} (hq : Q (i64 (firstAt p l)) h) :
  wpc P (ifB w) (retw [.tmp 4] Q) (argsFr [v, .func (.func n) #[] caps.toArray]) h := by
 obtain ⟨a, c, b, o, rfl, hcap, h2, h3⟩ := hv
 simp only [List.length_map] at h2
 unfold ifB
 simp -implicitDefEqProofs only [go_sem, List.length_map]
 refine loopW_of (fun m f h' => ∃ k, m + k = l.length ∧ h' = h ∧ f 0 = .slice a l.length c ∧ f 1 = .func (.func n) #[] caps.toArray ∧ f 7 = i64 l.length ∧ f 8 = i64 k ∧ ∀ i, (hi : i < l.length) → i < k → p l[i] = false) l.length
  ⟨0, by simp, rfl, by simp -implicitDefEqProofs only [go_sem, List.length_map], by simp -implicitDefEqProofs only [go_sem], by simp -implicitDefEqProofs only [go_sem], by simp -implicitDefEqProofs only [go_sem]; rfl, by omega⟩ ?_
 rintro m f h' ⟨k, hm, rfl, f0, f1, f7, f8, hno⟩
 skip
 by_cases hk : k < l.length
 ·have e1 := h3 k (ce l[k]) (by simp [hk])
  simp -implicitDefEqProofs only [go_sem, hk, e1, f0, f1, f7, f8, h2, Int.ofNat_lt, Int.natCast_nonneg]
  refine (hc l[k] (List.getElem_mem hk)).use ?_
  simp -implicitDefEqProofs only [go_sem, f0, f1, f7, f8, h2, Int.ofNat_lt, Int.natCast_nonneg]
  refine Br.of (fun h4 => ?_) (fun h4 => ?_)
  ·simp -implicitDefEqProofs only [go_sem, h4, f0, f1, f7, f8, h2, Int.ofNat_lt, Int.natCast_nonneg]
   rw [firstAt_some hk h4 (fun i hi => hno i (by omega) hi)] at hq
   exact hq
  ·simp -implicitDefEqProofs only [go_sem, h4, wrap_i64 (show -(9223372036854775808 : Int) ≤ ((k : Int) + 1) by omega) (show ((k : Int) + 1) < 9223372036854775808 by omega), f0, f1, f7, f8, h2, Int.ofNat_lt, Int.natCast_nonneg]
   refine ⟨m - 1, by omega, _, Ext.refl _, k + 1, by omega, rfl, rfl, fun i hi1 hi2 => ?_⟩
   by_cases e : i = k
   ·subst e; simpa using h4
   ·exact hno i hi1 (by omega)
 ·have e : k = l.length := by omega
  subst e
  simp -implicitDefEqProofs only [go_sem, Nat.lt_irrefl, f0, f1, f7, f8, h2, Int.ofNat_lt, Int.natCast_nonneg]
  rw [firstAt_none (fun i hi => hno i hi hi)] at hq
  exact hq
def ifB1 : C := (.seq (.ops [q 4 (.mv (.c (i64 0)))])
 (.seq (.seq (.ops [q 6 (.mv (.t 0)), q 7 (.len (.t 6)), q 8 (.mv (.c (i64 0)))])
 (.block 0 (.loop (.seq (.ops [q 9 (.bin .lss (.t 8) (.t 7))])
 (.seq (.cond (.t 9) .skip (.exit 0))
 (.seq (.block 1 (.seq (.ops [q 10 (.mv (.t 8)), q 5 (.mv (.t 10))])
 (.seq (.ops [q 11 (.mv (.t 1)), q 12 (.mv (.t 0)), q 13 (.mv (.t 5)), q 14 (.idx 1 (.t 12) (.t 13)), q 15 (.ld false 1 (.t 14)), ⟨(some 16), none, .call (.t 11) [(.t 15)]⟩])
 (.cond (.t 16) (.seq (.ops [q 17 (.mv (.t 5)), q 4 (.mv (.t 17))])
 .ret) .skip))))
 (.ops [q 18 (.bin .add (.t 8) (.c (i64 1))), q 8 (.mv (.t 18))])))))))
 (.seq (.ops [q 4 (.mv (.c (i64 (-1))))])
 .ret)))
theorem if1_wpc {α : Type} {h : H} {v : Value} {l : List α} {ce : α → Value} {p : α → Bool} {n : Nat} {caps : List Value} (hv : Sl h v 1 (l.map fun x => [ce x])) (hn : l.length ≤ 1048576)
  (hc : ∀ x, x ∈ l → PC P n (ce x :: caps) h (.bool (p x))) {Q : Value → H → Prop} (hq : Q (i64 (firstAt p l)) h) :
  wpc P ifB1 (retw [.tmp 4] Q) (argsFr [v, .func (.func n) #[] caps.toArray]) h := by
 obtain ⟨a, c, b, o, rfl, hcap, h2, h3⟩ := hv
 simp only [List.length_map] at h2
 unfold ifB1
 simp -implicitDefEqProofs only [go_sem, List.length_map]
 refine loopW_of (fun m f h' => ∃ k, m + k = l.length ∧ h' = h ∧ f 0 = .slice a l.length c ∧ f 1 = .func (.func n) #[] caps.toArray ∧ f 7 = i64 l.length ∧ f 8 = i64 k ∧ ∀ i, (hi : i < l.length) → i < k → p l[i] = false) l.length
  ⟨0, by simp, rfl, by simp -implicitDefEqProofs only [go_sem, List.length_map], by simp -implicitDefEqProofs only [go_sem], by simp -implicitDefEqProofs only [go_sem], by simp -implicitDefEqProofs only [go_sem]; rfl, by omega⟩ ?_
 rintro m f h' ⟨k, hm, rfl, f0, f1, f7, f8, hno⟩
 skip
 by_cases hk : k < l.length
 ·have e1 := h3 k [ce l[k]] (by simp [hk])
  simp -implicitDefEqProofs only [go_sem, hk, e1, f0, f1, f7, f8, h2, Int.ofNat_lt, Int.natCast_nonneg]
  refine (hc l[k] (List.getElem_mem hk)).use ?_
  simp -implicitDefEqProofs only [go_sem, f0, f1, f7, f8, h2, Int.ofNat_lt, Int.natCast_nonneg]
  refine Br.of (fun h4 => ?_) (fun h4 => ?_)
  ·simp -implicitDefEqProofs only [go_sem, h4, f0, f1, f7, f8, h2, Int.ofNat_lt, Int.natCast_nonneg]
   rw [firstAt_some hk h4 (fun i hi => hno i (by omega) hi)] at hq
   exact hq
  ·simp -implicitDefEqProofs only [go_sem, h4, wrap_i64 (show -(9223372036854775808 : Int) ≤ ((k : Int) + 1) by omega) (show ((k : Int) + 1) < 9223372036854775808 by omega), f0, f1, f7, f8, h2, Int.ofNat_lt, Int.natCast_nonneg]
   refine ⟨m - 1, by omega, _, Ext.refl _, k + 1, by omega, rfl, rfl, fun i hi1 hi2 => ?_⟩
   by_cases e : i = k
   ·subst e; simpa using h4
   ·exact hno i hi1 (by omega)
 ·have e : k = l.length := by omega
  subst e
  simp -implicitDefEqProofs only [go_sem, Nat.lt_irrefl, f0, f1, f7, f8, h2, Int.ofNat_lt, Int.natCast_nonneg]
  rw [firstAt_none (fun i hi => hno i hi hi)] at hq
  exact hq
end
end Go.KH