/- A helper of this seat's claims (the logic of the walks): what it shows is shown for every input that its statements name, on no other condition. -/
import Derived.Test.YtpponffjeilhmaaK12
set_option linter.unusedVariables false
set_option linter.unusedSimpArgs false
namespace Go.KH
open Go.RowKit

/-! ## Memory, for the walks -/
theorem Ext.set {a h : H} (e : Ext a h) {b : Nat} (hn : h.get b = none) (ob : Ob) : Ext a (h.set b ob) :=
  ⟨e.1, fun c oc hc => by
    rw [H.set_get]
    split
    · rename_i e'; subst e'; have := e.2.g _ _ hc; rw [hn] at this; cases this
    · exact e.2.g c oc hc, e.2.m⟩
theorem Sub.set {a h : H} (e : Sub a h) {b : Nat} (hn : h.get b = none) (ob : Ob) : Sub a (h.set b ob) := ⟨fun c oc hc => by
    rw [H.set_get]
    split
    · rename_i e'; subst e'; have := e.g _ _ hc; rw [hn] at this; cases this
    · exact e.g c oc hc, e.m⟩
/-- A block that a heap before does not know. -/
theorem Ext.none {a h : H} (e : Ext a h) {b : Nat} (hn : h.get b = .none) : a.get b = .none := by
  cases hb : a.get b with
  | none => rfl
  | some ob => have := e.2.g _ _ hb; rw [hn] at this; cases this
/-- A write into a block that the first heap does not know. -/
theorem Ext.set' {a h : H} (e : Ext a h) {b : Nat} (hn : a.get b = .none) (ob : Ob) : Ext a (h.set b ob) :=
  ⟨e.1, fun c oc hc => by
    rw [H.set_get]
    split
    · rename_i e'; subst e'; rw [hn] at hc; cases hc
    · exact e.2.g c oc hc, e.2.m⟩

theorem ldc_sub {h h' : H} (s : Sub h h') {b o n : Nat} {cs : List Value} (hl : ldc h b o n = some cs) : ldc h' b o n = some cs := by
  unfold ldc at hl ⊢
  cases hb : h.get b with
  | none => rw [hb] at hl; cases hl
  | some ob => rw [s.g b ob hb]; rw [hb] at hl; exact hl
theorem ldc_set_same (h : H) (b o n : Nat) (ob : Ob) : ldc (h.set b ob) b o n = if o + n ≤ ob.cells.length then some ((ob.cells.drop o).take n) else none := by
  simp [ldc]
theorem ldc_set_fresh {h : H} {b c o n : Nat} {ob : Ob} (hn : h.get b = none) (hs : (ldc h c o n).isSome = true) : ldc (h.set b ob) c o n = ldc h c o n := by
  obtain ⟨cs, hc⟩ := Option.isSome_iff_exists.1 hs
  rw [hc]
  exact ldc_sub (Sub.set (Sub.refl h) hn ob) hc
theorem ldc_set_ne {h : H} {b c o n : Nat} {ob : Ob} (hn : c ≠ b) : ldc (h.set b ob) c o n = ldc h c o n := by
  simp [ldc, H.set_get_ne _ _ _ _ hn]
theorem ldc_part {h : H} {b o n : Nat} {cs : List Value} (hl : ldc h b o n = some cs) (k m : Nat) (hk : k + m ≤ n) : ldc h b (o + k) m = some ((cs.drop k).take m) := by
  unfold ldc at hl ⊢
  cases hb : h.get b with
  | none => rw [hb] at hl; cases hl
  | some ob =>
    rw [hb] at hl
    simp only at hl ⊢
    split at hl
    · simp only [Option.some.injEq] at hl; subst hl
      rw [if_pos (by omega), List.drop_take, List.take_take, List.drop_drop, Nat.min_eq_left (by omega)]
    · cases hl
theorem stc_same (h : H) (b o n : Nat) (ob : Ob) (cs : List Value) : stc (h.set b ob) b o cs n = if cs.length = n ∧ o + n ≤ ob.cells.length ∧ cs.all Value.oneCell' = true then some (h.set b ⟨splice ob.cells o cs, ob.size⟩) else none := by
  simp [stc, H.set_set]
theorem stc_of {h : H} {b o n : Nat} {ob : Ob} {cs : List Value} (hb : h.get b = some ob) (h1 : cs.length = n) (h2 : o + n ≤ ob.cells.length) (h3 : cs.all Value.oneCell' = true) : stc h b o cs n = some (h.set b ⟨splice ob.cells o cs, ob.size⟩) := by
  simp [stc, hb, h1, h2]
  intro x hx
  exact List.all_eq_true.1 h3 x hx
theorem ldc_set (h : H) (b c o n : Nat) (ob : Ob) : ldc (h.set b ob) c o n = if c = b then (if o + n ≤ ob.cells.length then some ((ob.cells.drop o).take n) else none) else ldc h c o n := by
  split
  · rename_i e; subst e; exact ldc_set_same ..
  · rename_i e; exact ldc_set_ne e
theorem H.set_comm (h : H) {b c : Nat} (x y : Ob) (hn : c ≠ b) : (h.set b x).set c y = (h.set c y).set b x := by
  simp only [H.set]
  congr 1
  funext d
  by_cases h1 : d = c
  · subst h1; simp [hn]
  · simp [h1]
theorem stc_set (h : H) (b c o n : Nat) (ob : Ob) (cs : List Value) : stc (h.set b ob) c o cs n = if c = b then (if cs.length = n ∧ o + n ≤ ob.cells.length ∧ cs.all Value.oneCell' = true then some (h.set b ⟨splice ob.cells o cs, ob.size⟩) else none) else (stc h c o cs n).map fun h' => h'.set b ob := by
  split
  · rename_i e; subst e; exact stc_same ..
  · rename_i e
    unfold stc
    rw [H.set_get_ne _ _ _ _ e]
    cases h.get c with
    | none => rfl
    | some oc =>
      simp only [Option.bind_some]
      split
      · simp only [Option.map_some]; rw [H.set_comm _ _ _ e]
      · rfl
/-- A new block is none of those before. -/
theorem fne {h : H} {b c : Nat} {o : Ob} (hn : (h.set c o).get b = none) : (b = c) = False ∧ (c = b) = False ∧ h.get b = none := by
  have : b ≠ c := fun e => by subst e; simp at hn
  exact ⟨eq_false this, eq_false (Ne.symm this), by rw [H.set_get_ne _ _ _ _ this] at hn; exact hn⟩
theorem withO_map {α β : Type} (o : Option α) (g : α → β) (K : β → Prop) : withO (o.map g) K = withO o fun a => K (g a) := by cases o <;> simp
theorem get_set_false {h : H} {b c : Nat} {o : Ob} (e : (c = b) = False) : (h.set b o).get c = h.get c := H.set_get_ne _ _ _ _ (of_eq_false e)
theorem oneCell_int (k : IntKind) (n : Int) : Value.oneCell' (.int k n) = true := rfl
theorem oneCell_bool (b : Bool) : Value.oneCell' (.bool b) = true := rfl
theorem oneCell_str (l : List UInt8) : Value.oneCell' (str l) = true := rfl
theorem oneCell_slice (a : Option Addr) (n c : Nat) : Value.oneCell' (.slice a n c) = true := rfl
theorem oneCell_ptr (a : Option Addr) : Value.oneCell' (.pointer a) = true := rfl
theorem cells_agg (l : List Value) : vcl (Value.agg l.toArray) = l := rfl
theorem cells_int (k : IntKind) (n : Int) : vcl (Value.int k n) = [.int k n] := rfl
theorem cells_bool (b : Bool) : vcl (Value.bool b) = [.bool b] := rfl
theorem cells_str (l : List UInt8) : vcl (str l) = [str l] := rfl
theorem cells_slice (a : Option Addr) (n c : Nat) : vcl (Value.slice a n c) = [.slice a n c] := rfl
theorem cells_ptr (a : Option Addr) : vcl (Value.pointer a) = [.pointer a] := rfl

/-- v is a slice whose elements, w cells each, are rows. -/
def Sl (h : H) (v : Value) (w : Nat) (rows : List (List Value)) : Prop :=
  ∃ a c b o, v = .slice a rows.length c ∧ rows.length ≤ c ∧ asR v = some (b, o, rows.length) ∧ ∀ (i : Nat) r, rows[i]? = some r → ldc h b (o + i * w) w = some r
theorem Sl.sub {h h' : H} {v : Value} {w : Nat} {rows : List (List Value)} (s : Sl h v w rows) (e : Sub h h') : Sl h' v w rows := by
  obtain ⟨a, c, b, o, h1, hc, h2, h3⟩ := s
  exact ⟨a, c, b, o, h1, hc, h2, fun i r hr => ldc_sub e (h3 i r hr)⟩
theorem Sl.ext {h h' : H} {v : Value} {w : Nat} {rows : List (List Value)} (s : Sl h v w rows) (e : Ext h h') : Sl h' v w rows := s.sub e.2
theorem Sl.nil (h : H) (w : Nat) : Sl h nils w [] := ⟨none, 0, 0, 0, rfl, Nat.le_refl _, rfl, by simp⟩
theorem asR_off {a : Option Addr} {n c b o : Nat} (h : asR (.slice a n c) = some (b, o, n)) (lo w m c' : Nat) (hm : m ≠ 0) (hn : n ≠ 0) : asR (.slice (if c = lo then a else a.map (·.add (lo * w))) m c') = some (b, o + (if c = lo then 0 else lo * w), m) := by
  unfold asR at h
  split at h
  · rename_i b' o' n' c'' e
    simp only [Option.some.injEq, Prod.mk.injEq] at h
    obtain ⟨rfl, rfl, rfl⟩ := h
    simp only [Value.slice.injEq] at e
    obtain ⟨rfl, _, rfl⟩ := e
    by_cases hc : c = lo
    · rw [if_pos hc, if_pos hc]; rfl
    · rw [if_neg hc, if_neg hc]
      simp only [Option.map_some, addr_add]
      rfl
  · rename_i e
    simp only [Value.slice.injEq] at e
    exact absurd e.2.1 hn
  · cases h
/-- A part of a slice. -/
theorem Sl.part {h : H} {a : Option Addr} {n c : Nat} {w : Nat} {rows : List (List Value)} (s : Sl h (.slice a n c) w rows) {lo hi : Nat} (h1 : lo ≤ hi) (h2 : hi ≤ n) :
    Sl h (.slice (if c = lo then a else a.map (·.add (lo * w))) (hi - lo) (c - lo)) w ((rows.take hi).drop lo) := by
  obtain ⟨a', c', b, o, e, hc, hr, hl⟩ := s
  simp only [Value.slice.injEq] at e
  obtain ⟨rfl, rfl, rfl⟩ := e
  have hlen : ((rows.take hi).drop lo).length = hi - lo := by simp; omega
  by_cases h0 : hi - lo = 0
  · have e0 : (rows.take hi).drop lo = [] := List.length_eq_zero_iff.1 (by rw [hlen, h0])
    rw [h0, e0]
    have : ∃ b o, asR (.slice (if c = lo then a else a.map (·.add (lo * w))) 0 (c - lo)) = some (b, o, 0) := by
      unfold asR
      split
      · rename_i e; simp only [Value.slice.injEq] at e; exact ⟨_, _, by rw [← e.2.1]⟩
      · exact ⟨_, _, rfl⟩
      · rename_i e1 e2; exact absurd rfl (e2 _ _)
    obtain ⟨b', o', hb⟩ := this
    exact ⟨_, _, b', o', rfl, Nat.zero_le _, hb, by simp⟩
  · refine ⟨_, _, b, o + (if c = lo then 0 else lo * w), by rw [hlen], by omega, by rw [hlen]; exact asR_off hr lo w _ _ h0 (by omega), ?_⟩
    intro i r hi'
    rw [List.getElem?_drop, List.getElem?_take] at hi'
    split at hi'
    · have := hl (lo + i) r hi'
      rw [if_neg (by omega), Nat.add_assoc, ← Nat.add_mul]
      exact this
    · cases hi'
theorem Sl.take {h : H} {a : Option Addr} {n c w : Nat} {rows : List (List Value)} (s : Sl h (.slice a n c) w rows) {hi : Nat} (h2 : hi ≤ n) : Sl h (.slice a hi c) w (rows.take hi) := by
  have := s.part (Nat.zero_le hi) h2
  rw [Nat.sub_zero, Nat.sub_zero, List.drop_zero] at this
  have e : (if c = 0 then a else a.map (·.add (0 * w))) = a := by
    split
    · rfl
    · cases a with
      | none => rfl
      | some a => simp only [Option.map_some, Nat.zero_mul, Addr.add, if_true]
  rw [e] at this; exact this
end Go.KH
