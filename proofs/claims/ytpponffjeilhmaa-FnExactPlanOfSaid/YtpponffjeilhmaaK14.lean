/- A helper of this seat's claims (the logic of the walks): what it shows is shown for every input that its statements name, on no other condition. -/
import Derived.Test.YtpponffjeilhmaaK13
import Derived.Carry
import Derived.ChangeSlices
import Derived.JoinedOf
import Derived.SizedLaws
import Derived.WalkKit
import Derived.OpenShut
set_option linter.unusedVariables false
set_option linter.unusedSimpArgs false
namespace Go.KH
open Go.RowKit Go.ChangeShapes

/-! ## From the rows of the laws to contracts -/
/-- What is known when a law is called: all cells. -/
def h0 (W : World) : H := { base := W.heap.size, get := fun b => match W.heap[b]? with | some (.cells c _ _) => some ⟨c.toList, c.size⟩ | _ => none, mp := fun _ => none }

theorem rel_h0 (W : World) : Rel W (h0 W) W := by
  refine ⟨Below.refl _ _, Nat.le_refl _, ?_, fun b l hb => (by cases hb), fun b l hb => (by cases hb)⟩
  intro b ob hb
  simp only [h0] at hb
  split at hb
  · rename_i c T fz hc
    simp only [Option.some.injEq] at hb; subst hb
    refine ⟨c, T, fz, hc, List.prefix_refl _, fun hle => ?_⟩
    have hlt : b < W.heap.size := by
      rcases Nat.lt_or_ge b W.heap.size with h | h
      · exact h
      · rw [Array.getElem?_eq_none h] at hc; cases hc
    exact absurd hle (Nat.not_le_of_lt hlt)
  · cases hb

/-- 'What is read of a value of type t is of the kind R.' -/
abbrev Tr (P : Program) (t : TypeId) (R : World → List Value → Prop) : Prop :=
  ∀ (H' : Type) (enc : TypeId × Value → H') (W : World) (fuel : Nat) (cs : List Value) (x : DataW H' × List MemPlace), DataW.trod enc P W 0 (fun _ => true) true fuel t cs = some x → R W cs

section
variable {P : Program}

theorem open_int' {t : TypeId} {k : IntKind} (hu : P.underlying t = some (.int k)) : Tr P t fun _ cs => ∃ n, cs = [.int k n] ∧ k.min ≤ n ∧ n ≤ k.max := by
  intro H' enc W fuel cs x h
  cases fuel with
  | zero => simp [DataW.trod] at h
  | succ fuel =>
    unfold DataW.trod at h
    rw [hu] at h
    split at h <;> simp_all
    obtain ⟨⟨rfl, hw⟩, _⟩ := h
    simpa [Lit.wf] using hw

theorem open_bool' {t : TypeId} (hu : P.underlying t = some .bool) : Tr P t fun _ cs => ∃ b, cs = [.bool b] := by
  intro H' enc W fuel cs x h
  cases fuel with
  | zero => simp [DataW.trod] at h
  | succ fuel =>
    unfold DataW.trod at h
    rw [hu] at h
    split at h <;> simp_all

theorem open_str' {t : TypeId} (hu : P.underlying t = some .string) : Tr P t fun _ cs => ∃ l : List UInt8, cs = [str l] ∧ l.length ≤ maxLen := by
  intro H' enc W fuel cs x h
  cases fuel with
  | zero => simp [DataW.trod] at h
  | succ fuel =>
    unfold DataW.trod at h
    rw [hu] at h
    split at h <;> simp_all
    rename_i s
    exact ⟨bl s, (str_bl s).symm, by rw [bl_length]; exact h.1⟩

theorem open_struct' {t : TypeId} {fs : Array Field} (hu : P.underlying t = some (.struct fs)) : Tr P t fun W cs => cs.length = P.cellsOf t ∧
    ∀ (i : Nat) f (R : World → List Value → Prop), fs[i]? = some f → Tr P f.type R → R W ((cs.drop f.offset).take (P.cellsOf f.type)) := by
  intro H' enc W fuel cs x h
  cases fuel with
  | zero => simp [DataW.trod] at h
  | succ fuel =>
    unfold DataW.trod at h
    rw [hu] at h
    have h : (if cs.length = P.cellsOf t then (fs.toList.mapM fun f => DataW.trod enc P W 0 (fun _ => true) true fuel f.type ((cs.drop f.offset).take (P.cellsOf f.type))).map fun xs => ((.agg (xs.map (·.1)), xs.flatMap (·.2)) : DataW H' × List MemPlace) else none) = some x := by
      split at h <;> simp_all
    split at h
    · rename_i hl
      refine ⟨hl, fun i f R hf hR => ?_⟩
      simp only [Option.map_eq_some_iff] at h
      obtain ⟨xs, hxs, _⟩ := h
      obtain ⟨hlen, hget⟩ := mapM_get _ _ hxs
      have hf' : fs.toList[i]? = some f := by simpa using hf
      have hi : i < xs.length := by rw [hlen]; exact (List.getElem?_eq_some_iff.1 hf').1
      exact hR H' enc W fuel _ _ (hget i f xs[i] hf' (by simp [hi]))
    · cases h

theorem cells?_ldc {W : World} {a : Addr} {n : Nat} {cs : List Value} (hn : n ≠ 0) (h : W.cells? 0 a n = some cs) : a.spot = none ∧ ldc (h0 W) a.block a.off n = some cs := by
  obtain ⟨h1, h2, h3⟩ := World.cells?_some h
  obtain ⟨b, o, sp⟩ := a
  have c0 := h3 0 (by omega)
  have hc0 : cs[0]? = some cs[0] := by simp
  rw [hc0] at c0
  have hsp : sp = none := by
    cases sp with
    | none => rfl
    | some s => simp [Addr.add, World.cell?] at c0; split at c0 <;> simp at c0
  subst hsp
  refine ⟨rfl, ?_⟩
  simp only [addr_add] at h3
  unfold World.cell? at c0
  simp only [addr_add] at c0
  split at c0
  · rename_i c T fz hc
    unfold ldc
    simp only [h0, hc]
    have hlen : o + n ≤ c.size := by
      have := h3 (n - 1) (by omega)
      have hl : cs[n - 1]? = some cs[n - 1] := by simp
      rw [hl] at this
      simp only [World.cell?, hc] at this
      have := (Array.getElem?_eq_some_iff.1 (by simpa using this)).1
      omega
    simp only [Array.length_toList, hlen, if_true]
    congr 1
    apply List.ext_getElem?
    intro i
    by_cases hi : i < n
    · have := h3 i hi
      simp only [World.cell?, hc] at this
      rw [List.getElem?_take, if_pos hi, List.getElem?_drop, ← this]
      simp
    · rw [List.getElem?_take, if_neg hi, List.getElem?_eq_none (by omega)]
  · cases c0

/-- A slice of flat elements. -/
theorem open_slice' {α : Type} (cells : α → List Value) (Ok : α → Prop) {t e : TypeId} (w : Nat) (hu : P.underlying t = some (.slice e)) (hw : P.cellsOf e = w) (hw0 : w ≠ 0)
    (he : Tr P e fun _ cs => ∃ a, cs = cells a ∧ Ok a) : Tr P t fun W cs => ∃ (v : Value) (l : List α), cs = [v] ∧ Sl (h0 W) v w (l.map cells) ∧ (∀ a ∈ l, Ok a) ∧ l.length ≤ maxLen ∧ v.oneCell' = true := by
  intro H' enc W fuel cs x h
  rcases DataW.trod_slice hu h with ⟨rfl, _⟩ | ⟨a, len, cap, elems, rest, n, _, rfl, _, _, hlc, hcm, hel, hget, _⟩
  · exact ⟨_, [], rfl, Sl.nil _ _, by simp, by simp, rfl⟩
  · have each : ∀ i, i < len → ∃ b, W.cells? 0 (a.add (i * w)) w = some (cells b) ∧ Ok b := by
      intro i hi
      have h1 := hget i hi
      have h2 : elems[i]? = some elems[i] := by simp [hel, hi]
      rw [h2, hw, Option.bind_eq_some_iff] at h1
      obtain ⟨cs, hcs, ht⟩ := h1
      obtain ⟨b, rfl, hb⟩ := he H' enc W n cs _ ht
      exact ⟨b, hcs, hb⟩
    have build : ∀ m, m ≤ len → ∃ l : List α, l.length = m ∧ ∀ i (hi : i < l.length), W.cells? 0 (a.add (i * w)) w = some (cells l[i]) ∧ Ok l[i] := by
      intro m
      induction m with
      | zero => intro _; exact ⟨[], rfl, by simp⟩
      | succ m ih =>
        intro hm
        obtain ⟨l, hl, hg⟩ := ih (by omega)
        obtain ⟨b, hb1, hb2⟩ := each m (by omega)
        refine ⟨l ++ [b], by simp [hl], ?_⟩
        intro i hi
        by_cases hlt : i < l.length
        · rw [List.getElem_append_left hlt]; exact hg i hlt
        · have : i = l.length := by simp at hi; omega
          subst this
          rw [List.getElem_append_right (Nat.le_refl _)]
          simp only [Nat.sub_self, List.getElem_cons_zero]
          rw [hl]; exact ⟨hb1, hb2⟩
    obtain ⟨l, hl, hg⟩ := build len (Nat.le_refl _)
    refine ⟨.slice (some a) len cap, l, rfl, ?_, ?_, by omega, rfl⟩
    · by_cases h0 : len = 0
      · subst h0
        have : l = [] := List.length_eq_zero_iff.1 hl
        subst this
        obtain ⟨b, o, sp⟩ := a
        cases sp with
        | none => exact ⟨_, cap, b, o, rfl, Nat.zero_le _, rfl, by simp⟩
        | some s => exact ⟨_, cap, 0, 0, rfl, Nat.zero_le _, rfl, by simp⟩
      · have hsp : a.spot = none := by
          have := (cells?_ldc hw0 (hg 0 (by omega)).1).1
          simpa [Addr.add] using this
        obtain ⟨b, o, sp⟩ := a
        simp only at hsp; subst hsp
        refine ⟨some ⟨b, o, none⟩, cap, b, o, by simp [hl], by simpa [hl] using hlc, by simp [hl], ?_⟩
        intro i r hr
        simp only [List.getElem?_map, Option.map_eq_some_iff] at hr
        obtain ⟨x, hx, rfl⟩ := hr
        obtain ⟨hi, rfl⟩ := List.getElem?_eq_some_iff.1 hx
        have := (cells?_ldc hw0 (hg i hi).1).2
        simpa [addr_add] using this
    · intro x hx
      obtain ⟨i, hi, rfl⟩ := List.getElem_of_mem hx
      exact (hg i hi).2

theorem trodAll_below {H' : Type} {enc : TypeId × Value → H'} (hl : laidOutB P = true) {W W' : World} (hb : Below W.heap.size W W') : ∀ (ts : List TypeId) (vs : List Value) (ds : List (DataW H')) (ps : List MemPlace),
    (∀ t ∈ ts, P.readableRec t = true ∧ t < P.types.size) → DataW.TrodAll enc P W 0 (fun _ => true) true ts vs ds ps → ds.length = ts.length ∧ vs.length = ts.length ∧ DataW.TrodAll enc P W' 0 (fun b => decide (b < W.heap.size)) true ts vs ds ps
  | [], vs, ds, ps, _, h => by
    obtain ⟨rfl, rfl, rfl⟩ := trodAll_nil h; exact ⟨rfl, rfl, rfl⟩
  | t :: ts, vs, ds, ps, hr, h => by
    obtain ⟨v, vs', d, ds', p, q, rfl, rfl, rfl, h1, h2⟩ := trodAll_cons h
    obtain ⟨e1, e2, h3⟩ := trodAll_below hl hb ts vs' ds' q (fun t ht => hr t (by simp [ht])) h2
    have hlt : ∀ x ∈ p, x.block < W.heap.size := by obtain ⟨m, hm⟩ := h1; exact DataW.trod_lt m _ _ _ hm
    exact ⟨by simp [e1], by simp [e2], trodAll_cons_mk (Below.trod hl (hr t (by simp)).1 (hr t (by simp)).2 h1 hb hlt) h3⟩

/-- A law's row out of a contract at 'all cells are known'. -/
theorem law_returns {Ck : Checked} {os : Os} {f : FuncId} {fn : Func} {s : ChangeSpec} {H' : Type} {enc : TypeId × Value → H'} {rt : TypeId} (own : ownKnob Ck.prog.godebug = none) (started : os.Started) (noInit : Ck.prog.inits.idxOf? f = none)
    (hfn : Ck.prog.funcs[f]? = some fn)
    (witness : ∃ (w : World) (tape : Tape) (i : Input), w.os = os ∧ (w.forCall tape i).Shaped Ck.prog ∧ i.vars = [] ∧ Input.okWide Ck.prog (w.forCall tape i) .any w.heap.size f i ∧
      s.pre6 enc Ck.prog fn [] false (w.forCall tape i).memory i.args ∧ ({} : Assume).holds Ck.prog (lone (Frame.enter Ck.prog f i.args .normal) [] (w.forCall tape i)))
    (hl : laidOutB Ck.prog = true) (hread : ∀ t ∈ fn.params.toList, Ck.prog.readableRec t = true ∧ t < Ck.prog.types.size) (hres : fn.resultTypes = #[rt]) (hrt : Ck.prog.underlying rt = some .bool)
    (hvars : s.vars = []) (hspec : ∀ ds : List (DataW H'), ds.length = fn.params.toList.length → s.fn H' ds = { results := [.lit (.bool true)], args := ds })
    (law : ∀ (W : World) (args : List Value) (ds : List (DataW H')) (ps : List MemPlace), DataW.TrodAll enc Ck.prog W 0 (fun _ => true) true fn.params.toList args ds ps → (∀ (j : Nat) t v, fn.params[j]? = some t → args[j]? = some v → ∃ base, Value.okWide Ck.prog W .any base t v) →
      AC Ck.prog f args (h0 W) fun r _ => r = .bool true) :
    ReturnsInHanded {} Ck os f .any (s.pre6 enc Ck.prog fn [] false) (s.post enc Ck.prog fn false true false false) := by
  refine returnsInHanded_of_change own started noInit hfn witness ?_
  intro W base args ds gs before hval hW _ _
  have hW' := hW
  obtain ⟨p, q, hA, hV, rfl, hfz, hnd⟩ := hW
  rw [hvars] at hV
  obtain ⟨rfl, rfl⟩ := trodVars_none hV
  have hc := law W args.toList ds p hA (fun j t v ht hv => ⟨base, hval j t v ht (by simpa using hv)⟩)
  have := hc.2 W W (rel_h0 W)
  rw [Array.toArray_toList] at this
  refine this.mono ?_
  rintro e W' ⟨v, h', rfl, hb, hr, rfl⟩
  have hbel : Below W.heap.size W W' := by have := hr.below; rw [hb] at this; exact this
  obtain ⟨e1, e2, hA'⟩ := trodAll_below hl hbel _ _ _ _ hread hA
  refine ⟨_, rfl, ds, [], p ++ [], [], p, [], hW', ?_, ?_, ?_, hbel.frame _, fun h => by cases h⟩
  · rw [List.append_nil, hspec ds e1, hres]
    exact trodAll_mk1 (shut_bool hrt _)
  · rw [List.append_nil, hspec ds e1]; exact hA'
  · rw [hvars, List.append_nil, hspec ds e1]; rfl
end
end Go.KH
