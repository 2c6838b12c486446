/- A helper of this seat's claims (the logic of the walks): what it shows is shown for every input that its statements name, on no other condition. -/
import Derived.Test.YtpponffjeilhmaaK18
import Derived.Test.YtpponffjeilhmaaK14
set_option linter.unusedVariables false
set_option linter.unusedSimpArgs false
namespace Go.KH
open Go.RowKit Go.ChangeShapes

/-! ## The arguments of a law, by their shapes -/
/-- A cell that holds no address. -/
inductive LF where
  | int (k : IntKind)
  | str
  | bool
inductive LT where
  | f (x : LF)
  | sl (e : List LF)
inductive AS where
  | one (t : LT)
  | agg (ts : List LT)

def okF : LF → Value → Prop
  | .int k, v => ∃ n, v = .int k n ∧ k.min ≤ n ∧ n ≤ k.max
  | .str, v => ∃ l : List UInt8, v = KH.str l ∧ l.length ≤ maxLen
  | .bool, v => ∃ b, v = .bool b
def fitsF : List LF → List Value → Prop
  | [], [] => True
  | t :: ts, c :: cs => okF t c ∧ fitsF ts cs
  | _, _ => False
def okT (h : H) : LT → Value → Prop
  | .f x, v => okF x v
  | .sl e, v => ∃ rows : List (List Value), Sl h v e.length rows ∧ (∀ r ∈ rows, fitsF e r) ∧ rows.length ≤ maxLen
def fitsT (h : H) : List LT → List Value → Prop
  | [], [] => True
  | t :: ts, c :: cs => okT h t c ∧ fitsT h ts cs
  | _, _ => False
def okA (h : H) : AS → Value → Prop
  | .one t, v => okT h t v
  | .agg ts, v => ∃ cs : List Value, v = .agg cs.toArray ∧ fitsT h ts cs
def okAs (h : H) : List AS → List Value → Prop
  | [], [] => True
  | t :: ts, c :: cs => okA h t c ∧ okAs h ts cs
  | _, _ => False

theorem fitsF_length : ∀ {ts : List LF} {cs : List Value}, fitsF ts cs → cs.length = ts.length
  | [], [], _ => rfl
  | t :: ts, c :: cs, h => by simp [fitsF_length h.2]
  | [], _ :: _, h => h.elim
  | _ :: _, [], h => h.elim
theorem fitsF_append : ∀ {ts us : List LF} {cs ds : List Value}, fitsF ts cs → fitsF us ds → fitsF (ts ++ us) (cs ++ ds)
  | [], _, [], _, _, k => k
  | t :: ts, _, c :: cs, _, h, k => ⟨h.1, fitsF_append h.2 k⟩
  | [], _, _ :: _, _, h, _ => h.elim
  | _ :: _, _, [], _, h, _ => h.elim
theorem fitsT_append {h0 : H} : ∀ {ts us : List LT} {cs ds : List Value}, fitsT h0 ts cs → fitsT h0 us ds → fitsT h0 (ts ++ us) (cs ++ ds)
  | [], _, [], _, _, k => k
  | t :: ts, _, c :: cs, _, h, k => ⟨h.1, fitsT_append h.2 k⟩
  | [], _, _ :: _, _, h, _ => h.elim
  | _ :: _, _, [], _, h, _ => h.elim

theorem fitsF_cons {t : LF} {ts : List LF} {r : List Value} (h : fitsF (t :: ts) r) : ∃ c cs, r = c :: cs ∧ okF t c ∧ fitsF ts cs := by
  cases r with
  | nil => exact h.elim
  | cons c cs => exact ⟨c, cs, rfl, h.1, h.2⟩
theorem fitsF_nil {r : List Value} (h : fitsF [] r) : r = [] := by
  cases r with
  | nil => rfl
  | cons c cs => exact h.elim
theorem fitsT_cons {h0 : H} {t : LT} {ts : List LT} {r : List Value} (h : fitsT h0 (t :: ts) r) : ∃ c cs, r = c :: cs ∧ okT h0 t c ∧ fitsT h0 ts cs := by
  cases r with
  | nil => exact h.elim
  | cons c cs => exact ⟨c, cs, rfl, h.1, h.2⟩
theorem fitsT_nil {h0 : H} {r : List Value} (h : fitsT h0 [] r) : r = [] := by
  cases r with
  | nil => rfl
  | cons c cs => exact h.elim
theorem okAs_cons {h0 : H} {t : AS} {ts : List AS} {r : List Value} (h : okAs h0 (t :: ts) r) : ∃ c cs, r = c :: cs ∧ okA h0 t c ∧ okAs h0 ts cs := by
  cases r with
  | nil => exact h.elim
  | cons c cs => exact ⟨c, cs, rfl, h.1, h.2⟩
theorem okAs_nil {h0 : H} {r : List Value} (h : okAs h0 [] r) : r = [] := by
  cases r with
  | nil => rfl
  | cons c cs => exact h.elim
section
variable {P : Program}

def joinF {α : Type} (P : Program) (g : TypeId → Option (List α)) : List Field → Nat → Option (List α)
  | [], _ => some []
  | f :: fs, off => (g f.type).bind fun m => if f.offset = off ∧ P.cellsOf f.type = m.length then (joinF P g fs (off + m.length)).map (m ++ ·) else none
def shF (P : Program) : Nat → TypeId → Option (List LF)
  | 0, _ => none
  | d + 1, t =>
    match P.underlying t with
    | some (.int k) => some [.int k]
    | some .string => some [.str]
    | some .bool => some [.bool]
    | some (.struct fs) => (joinF P (shF P d) fs.toList 0).bind fun pl => if P.cellsOf t = pl.length then some pl else none
    | _ => none
def shT (P : Program) : Nat → TypeId → Option (List LT)
  | 0, _ => none
  | d + 1, t =>
    match P.underlying t with
    | some (.int k) => some [.f (.int k)]
    | some .string => some [.f .str]
    | some .bool => some [.f .bool]
    | some (.slice e) => (shF P d e).bind fun pl => if P.cellsOf e = pl.length ∧ pl.length ≠ 0 then some [.sl pl] else none
    | some (.struct fs) => (joinF P (shT P d) fs.toList 0).bind fun pl => if P.cellsOf t = pl.length then some pl else none
    | _ => none
def shA (P : Program) (t : TypeId) : Option AS :=
  match P.underlying t with
  | some (.struct _) => (shT P 8 t).map .agg
  | _ => (shT P 8 t).bind fun l => match l with | [t] => some (.one t) | _ => none

theorem joinF_get {α : Type} {g : TypeId → Option (List α)} {fit : List α → List Value → Prop} (fnil : fit [] []) (fapp : ∀ {ts us : List α} {cs ds : List Value}, fit ts cs → fit us ds → fit (ts ++ us) (cs ++ ds)) :
    ∀ (fs : List Field) (off : Nat) (ts : List α) (cs : List Value), joinF P g fs off = some ts → cs.length = off + ts.length → (∀ (i : Nat) f m, fs[i]? = some f → g f.type = some m → fit m ((cs.drop f.offset).take (P.cellsOf f.type))) → fit ts (cs.drop off)
  | [], off, ts, cs, h, hl, _ => by
    simp only [joinF, Option.some.injEq] at h; subst h
    have hl2 : cs.length = off := by simpa using hl
    rw [List.drop_eq_nil_of_le (by omega)]; exact fnil
  | f :: fs, off, ts, cs, h, hl, hg => by
    simp only [joinF, Option.bind_eq_some_iff] at h
    obtain ⟨m, hm, h⟩ := h
    split at h
    · rename_i hc
      obtain ⟨ho, hsz⟩ := hc
      simp only [Option.map_eq_some_iff] at h
      obtain ⟨us, hus, rfl⟩ := h
      have h1 := hg 0 f m rfl hm
      rw [ho, hsz] at h1
      have h2 := joinF_get fnil fapp fs (off + m.length) us cs hus (by rw [hl]; simp; omega) (fun i f' m' hf' hm' => hg (i + 1) f' m' (by simpa using hf') hm')
      have h3 := fapp h1 h2
      rw [show (cs.drop off).take m.length ++ cs.drop (off + m.length) = cs.drop off by rw [← List.drop_drop, List.take_append_drop]] at h3
      exact h3
    · cases h

theorem trF : ∀ (d : Nat) (t : TypeId) (ts : List LF), shF P d t = some ts → Tr P t fun _ cs => fitsF ts cs
  | 0, _, _, h => by simp [shF] at h
  | d + 1, t, ts, h => by
    intro H' enc W fuel cs x hx
    unfold shF at h
    split at h
    · rename_i k hu
      simp only [Option.some.injEq] at h; subst h
      obtain ⟨n, rfl, h1⟩ := open_int' hu H' enc W fuel cs x hx
      exact ⟨⟨n, rfl, h1⟩, trivial⟩
    · rename_i hu
      simp only [Option.some.injEq] at h; subst h
      obtain ⟨l, rfl, h1⟩ := open_str' hu H' enc W fuel cs x hx
      exact ⟨⟨l, rfl, h1⟩, trivial⟩
    · rename_i hu
      simp only [Option.some.injEq] at h; subst h
      obtain ⟨b, rfl⟩ := open_bool' hu H' enc W fuel cs x hx
      exact ⟨⟨b, rfl⟩, trivial⟩
    · rename_i fs hu
      simp only [Option.bind_eq_some_iff] at h
      obtain ⟨pl, hpl, h⟩ := h
      split at h
      · rename_i hc
        simp only [Option.some.injEq] at h; subst h
        obtain ⟨hl, hf⟩ := open_struct' hu H' enc W fuel cs x hx
        have := joinF_get (P := P) (fit := fitsF) trivial fitsF_append fs.toList 0 pl cs hpl (by rw [hl, hc]; simp) (fun i f m hf' hm => hf i f (fun _ cs => fitsF m cs) (by simpa using hf') (trF d f.type m hm))
        simpa using this
      · cases h
    · cases h

theorem trT : ∀ (d : Nat) (t : TypeId) (ts : List LT), shT P d t = some ts → Tr P t fun W cs => fitsT (h0 W) ts cs
  | 0, _, _, h => by simp [shT] at h
  | d + 1, t, ts, h => by
    intro H' enc W fuel cs x hx
    unfold shT at h
    split at h
    · rename_i k hu
      simp only [Option.some.injEq] at h; subst h
      obtain ⟨n, rfl, h1⟩ := open_int' hu H' enc W fuel cs x hx
      exact ⟨⟨n, rfl, h1⟩, trivial⟩
    · rename_i hu
      simp only [Option.some.injEq] at h; subst h
      obtain ⟨l, rfl, h1⟩ := open_str' hu H' enc W fuel cs x hx
      exact ⟨⟨l, rfl, h1⟩, trivial⟩
    · rename_i hu
      simp only [Option.some.injEq] at h; subst h
      obtain ⟨b, rfl⟩ := open_bool' hu H' enc W fuel cs x hx
      exact ⟨⟨b, rfl⟩, trivial⟩
    · rename_i e hu
      simp only [Option.bind_eq_some_iff] at h
      obtain ⟨pl, hpl, h⟩ := h
      split at h
      · rename_i hc
        simp only [Option.some.injEq] at h; subst h
        obtain ⟨v, l, rfl, hs, ha, hn, _⟩ := open_slice' (cells := fun r : List Value => r) (Ok := fun r => fitsF pl r) pl.length hu hc.1 hc.2
          (fun H' enc W fuel cs x hx => ⟨cs, rfl, trF d e pl hpl H' enc W fuel cs x hx⟩) H' enc W fuel cs x hx
        rw [List.map_id''] at hs
        · exact ⟨⟨l, hs, ha, hn⟩, trivial⟩
        · intro r; rfl
      · cases h
    · rename_i fs hu
      simp only [Option.bind_eq_some_iff] at h
      obtain ⟨pl, hpl, h⟩ := h
      split at h
      · rename_i hc
        simp only [Option.some.injEq] at h; subst h
        obtain ⟨hl, hf⟩ := open_struct' hu H' enc W fuel cs x hx
        have := joinF_get (P := P) (fit := fitsT (h0 W)) trivial fitsT_append fs.toList 0 pl cs hpl (by rw [hl, hc]; simp) (fun i f m hf' hm => hf i f (fun W cs => fitsT (h0 W) m cs) (by simpa using hf') (trT d f.type m hm))
        simpa using this
      · cases h
    · cases h

theorem okA_of {t : TypeId} {s : AS} (hs : shA P t = some s) {W : World} {base : Nat} {v : Value} {H' : Type} {enc : TypeId × Value → H'} {d : DataW H'} {ps : List MemPlace} (hv : Value.okWide P W .any base t v)
    (ht : DataW.Trod enc P W 0 (fun _ => true) true t v d ps) : okA (h0 W) s v := by
  obtain ⟨fuel, ht⟩ := ht
  unfold shA at hs
  split at hs
  · rename_i fs hu
    simp only [Option.map_eq_some_iff] at hs
    obtain ⟨ts, hts, rfl⟩ := hs
    simp only [Value.okWide, hu] at hv
    obtain ⟨cs, rfl, _, _⟩ := hv
    exact ⟨cs.toList, by simp, trT 8 t ts hts H' enc W fuel _ _ ht⟩
  · rename_i hns
    simp only [Option.bind_eq_some_iff] at hs
    obtain ⟨l, hl, hs⟩ := hs
    split at hs
    · rename_i lt
      simp only [Option.some.injEq] at hs; subst hs
      have hone : v.cells.toList = [v] := by
        unfold shT at hl
        split at hl
        · rename_i k hu; obtain ⟨n, rfl⟩ := WideShapes.okWide_int hu hv; rfl
        · rename_i hu; obtain ⟨n, rfl⟩ := WideShapes.okWide_string hu hv; rfl
        · rename_i hu; obtain ⟨n, rfl⟩ := WideShapes.okWide_bool hu hv; rfl
        · rename_i e hu; obtain ⟨a, n, c, rfl⟩ := WideShapes.okWide_slice hu hv; rfl
        · rename_i fs hu; exact absurd hu (hns fs)
        · cases hl
      rw [hone] at ht
      exact (trT 8 t _ hl H' enc W fuel _ _ ht).1
    · cases hs

theorem okAs_of : ∀ (ts : List TypeId) (ss : List AS) (W : World) (H' : Type) (enc : TypeId × Value → H') (args : List Value) (ds : List (DataW H')) (ps : List MemPlace), ts.map (shA P) = ss.map some →
    DataW.TrodAll enc P W 0 (fun _ => true) true ts args ds ps → (∀ (j : Nat) t v, ts[j]? = some t → args[j]? = some v → ∃ base, Value.okWide P W .any base t v) → okAs (h0 W) ss args
  | [], ss, W, H', enc, args, ds, ps, hs, ht, _ => by
    obtain ⟨rfl, rfl, rfl⟩ := trodAll_nil ht
    cases ss with
    | nil => trivial
    | cons s ss => simp at hs
  | t :: ts, ss, W, H', enc, args, ds, ps, hs, ht, hv => by
    obtain ⟨v, vs', d, ds', p, q, rfl, rfl, rfl, h1, h2⟩ := trodAll_cons ht
    cases ss with
    | nil => simp at hs
    | cons s ss =>
      simp only [List.map_cons, List.cons.injEq] at hs
      obtain ⟨base, hb⟩ := hv 0 t v rfl rfl
      exact ⟨okA_of hs.1 hb h1, okAs_of ts ss W H' enc vs' ds' q hs.2 h2 (fun j t v ht hv' => hv (j + 1) t v (by simpa using ht) (by simpa using hv'))⟩

/-- Rows that are all of one kind. -/
theorem rows_of {α : Type} (c : α → List Value) (ok : α → Prop) : ∀ (rows : List (List Value)), (∀ r ∈ rows, ∃ a, r = c a ∧ ok a) → ∃ l : List α, rows = l.map c ∧ ∀ a ∈ l, ok a
  | [], _ => ⟨[], rfl, by simp⟩
  | r :: rows, h => by
    obtain ⟨a, rfl, ha⟩ := h r (by simp)
    obtain ⟨l, rfl, hl⟩ := rows_of c ok rows (fun r hr => h r (by simp [hr]))
    exact ⟨a :: l, rfl, by simpa using ⟨ha, hl⟩⟩

/-- A law's row out of a contract of its arguments. -/
theorem law_row {Ck : Checked} {os : Os} {f : FuncId} {fn : Func} {s : ChangeSpec} {H' : Type} {enc : TypeId × Value → H'} {rt : TypeId} (ss : List AS) (own : ownKnob Ck.prog.godebug = none) (started : os.Started) (noInit : Ck.prog.inits.idxOf? f = none)
    (hfn : Ck.prog.funcs[f]? = some fn)
    (witness : ∃ (w : World) (tape : Tape) (i : Input), w.os = os ∧ (w.forCall tape i).Shaped Ck.prog ∧ i.vars = [] ∧ Input.okWide Ck.prog (w.forCall tape i) .any w.heap.size f i ∧
      s.pre6 enc Ck.prog fn [] false (w.forCall tape i).memory i.args ∧ ({} : Assume).holds Ck.prog (lone (Frame.enter Ck.prog f i.args .normal) [] (w.forCall tape i)))
    (hl : laidOutB Ck.prog = true) (hread : fn.params.toList.all (fun t => Ck.prog.readableRec t && decide (t < Ck.prog.types.size)) = true) (hres : fn.resultTypes = #[rt]) (hrt : Ck.prog.underlying rt = some .bool)
    (hvars : s.vars = []) (hspec : ∀ ds : List (DataW H'), ds.length = fn.params.toList.length → s.fn H' ds = { results := [.lit (.bool true)], args := ds })
    (hsh : fn.params.toList.map (shA Ck.prog) = ss.map some)
    (law : ∀ (h : H) (args : List Value), okAs h ss args → AC Ck.prog f args h fun r _ => r = .bool true) :
    ReturnsInHanded {} Ck os f .any (s.pre6 enc Ck.prog fn [] false) (s.post enc Ck.prog fn false true false false) :=
  law_returns own started noInit hfn witness hl (fun t ht => by
      have := List.all_eq_true.1 hread t ht
      simpa using this) hres hrt hvars hspec
    (fun W args ds ps hA hv => law (h0 W) args (okAs_of _ ss W H' enc args ds ps hsh hA (fun j t v ht hv' => hv j t v (by simpa using ht) hv')))
end
end Go.KH
