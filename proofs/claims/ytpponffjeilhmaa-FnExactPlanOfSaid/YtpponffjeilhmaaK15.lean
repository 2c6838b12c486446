/- A helper of this seat's claims (the logic of the walks): what it shows is shown for every input that its statements name, on no other condition. -/
import Derived.Test.YtpponffjeilhmaaK13
set_option linter.unusedVariables false
set_option linter.unusedSimpArgs false
namespace Go.KH
open Go.RowKit

/-! ## Rows of cells: slices of one's own -/
def Wid (w : Nat) (rows : List (List Value)) : Prop := ∀ r ∈ rows, r.length = w
theorem Wid.nil (w : Nat) : Wid w [] := by intro r hr; cases hr
theorem Wid.append {w : Nat} {a b : List (List Value)} (ha : Wid w a) (hb : Wid w b) : Wid w (a ++ b) := by
  intro r hr; rcases List.mem_append.1 hr with h | h; exact ha r h; exact hb r h
theorem Wid.take {w : Nat} {a : List (List Value)} (ha : Wid w a) (k : Nat) : Wid w (a.take k) := fun r hr => ha r (List.mem_of_mem_take hr)
theorem Wid.set {w : Nat} {a : List (List Value)} (ha : Wid w a) (k : Nat) {r : List Value} (hr : r.length = w) : Wid w (a.set k r) := fun x hx => by
  rcases List.mem_or_eq_of_mem_set hx with h | h
  · exact ha x h
  · rw [h]; exact hr
theorem Wid.map {α : Type} {w : Nat} {l : List α} {f : α → List Value} (h : ∀ a, (f a).length = w) : Wid w (l.map f) := fun r hr => by
  obtain ⟨a, _, rfl⟩ := List.mem_map.1 hr; exact h a
theorem Wid.rep {w : Nat} {z : List Value} (h : z.length = w) (n : Nat) : Wid w (List.replicate n z) := fun r hr => by rw [(List.mem_replicate.1 hr).2]; exact h

theorem flat_length {w : Nat} : ∀ {rows : List (List Value)}, Wid w rows → rows.flatten.length = rows.length * w
  | [], _ => by simp
  | r :: rows, h => by
    simp only [List.flatten_cons, List.length_append, List.length_cons, flat_length (fun x hx => h x (List.mem_cons_of_mem _ hx)), h r (List.mem_cons_self ..), Nat.add_mul]; omega
theorem flat_take {w : Nat} : ∀ {rows : List (List Value)} (k : Nat), Wid w rows → k ≤ rows.length → rows.flatten.take (k * w) = (rows.take k).flatten
  | rows, 0, h, _ => by simp
  | r :: rows, k + 1, h, hk => by
    have e := h r (by simp)
    rw [List.flatten_cons, List.take_append, List.take_of_length_le (by rw [e, Nat.add_mul]; omega), e, List.take_succ_cons, List.flatten_cons]
    congr 1
    have := flat_take (rows := rows) k (fun x hx => h x (by simp [hx])) (by simpa using hk)
    rw [show (k + 1) * w - w = k * w by rw [Nat.add_mul]; omega, this]
theorem flat_drop {w : Nat} : ∀ {rows : List (List Value)} (k : Nat), Wid w rows → k ≤ rows.length → rows.flatten.drop (k * w) = (rows.drop k).flatten
  | rows, 0, h, _ => by simp
  | r :: rows, k + 1, h, hk => by
    have e := h r (by simp)
    rw [List.flatten_cons, List.drop_append, List.drop_of_length_le (by rw [e, Nat.add_mul]; omega), e, List.drop_succ_cons, List.nil_append]
    have := flat_drop (rows := rows) k (fun x hx => h x (by simp [hx])) (by simpa using hk)
    rw [show (k + 1) * w - w = k * w by rw [Nat.add_mul]; omega, this]
theorem flat_get {w : Nat} {rows : List (List Value)} (h : Wid w rows) (k : Nat) (hk : k < rows.length) : (rows.flatten.drop (k * w)).take w = rows[k] := by
  rw [flat_drop k h (by omega), List.drop_eq_getElem_cons hk, List.flatten_cons, List.take_append_of_le_length (by rw [h _ (List.getElem_mem hk)]; exact Nat.le_refl _), List.take_of_length_le (by rw [h _ (List.getElem_mem hk)]; exact Nat.le_refl _)]
theorem flat_splice {w : Nat} {rows : List (List Value)} (h : Wid w rows) (k : Nat) (hk : k < rows.length) {r : List Value} (hr : r.length = w) : splice rows.flatten (k * w) r = (rows.set k r).flatten := by
  unfold splice
  rw [hr, flat_take k h (by omega), show k * w + w = (k + 1) * w by rw [Nat.add_mul]; omega, flat_drop (k + 1) h (by omega), List.set_eq_take_append_cons_drop, if_pos hk]
  simp

/-- A slice of the call's own (its block was not known in h0), as long as what its block is known to hold. -/
def Own (h0 h : H) (v : Value) (w : Nat) (rows : List (List Value)) : Prop :=
  (v = nils ∧ rows = []) ∨ ∃ b c z, v = sl b 0 rows.length c ∧ rows.length ≤ c ∧ h.base ≤ b ∧ h0.get b = none ∧ h.get b = some ⟨rows.flatten, z⟩ ∧ c * w ≤ z ∧ Wid w rows

/-- A slice whose block was not known in h0, and that may be written. -/
def Fre (h0 h : H) (v : Value) (w : Nat) (rows : List (List Value)) : Prop :=
  (∃ a c, v = .slice a 0 c ∧ rows = []) ∨ ∃ b c ob, v = sl b 0 rows.length c ∧ rows.length ≤ c ∧ h.base ≤ b ∧ h0.get b = none ∧ h.get b = some ob ∧ rows.flatten <+: ob.cells ∧ Wid w rows

/-- The block of a slice. -/
def blk : Value → Option Nat | .slice (some a) (_ + 1) _ => some a.block | _ => none

theorem Own.nil (h0 h : H) (w : Nat) : Own h0 h nils w [] := .inl ⟨rfl, rfl⟩
theorem Own.wid {h0 h : H} {v : Value} {w : Nat} {rows : List (List Value)} (o : Own h0 h v w rows) : Wid w rows := by
  rcases o with ⟨_, rfl⟩ | ⟨b, c, z, _, _, _, _, _, _, hw⟩
  · exact Wid.nil w
  · exact hw
theorem ldc_pre {h : H} {b w k : Nat} {ob : Ob} {rows : List (List Value)} (hb : h.get b = some ob) (hp : rows.flatten <+: ob.cells) (hw : Wid w rows) (hk : k < rows.length) : ldc h b (k * w) w = some rows[k] := by
  obtain ⟨t, ht⟩ := hp
  have hl := flat_length hw
  have h1 : k * w + w ≤ rows.length * w := by rw [show k * w + w = (k + 1) * w by rw [Nat.add_mul]; omega]; exact Nat.mul_le_mul_right _ hk
  unfold ldc
  rw [hb]
  simp only
  rw [if_pos (by rw [← ht, List.length_append, hl]; omega), ← ht, List.drop_append_of_le_length (by omega), List.take_append_of_le_length (by rw [List.length_drop]; omega), flat_get hw k hk]
theorem Fre.sl {h0 h : H} {v : Value} {w : Nat} {rows : List (List Value)} (o : Fre h0 h v w rows) : Sl h v w rows := by
  rcases o with ⟨a, c, rfl, rfl⟩ | ⟨b, c, ob, rfl, hlc, _, _, hg, hp, hw⟩
  · cases a with
    | none => exact ⟨_, c, 0, 0, rfl, Nat.zero_le _, rfl, by simp⟩
    | some a =>
      obtain ⟨b, o, sp⟩ := a
      cases sp with
      | none => exact ⟨_, c, b, o, rfl, Nat.zero_le _, rfl, by simp⟩
      | some s => exact ⟨_, c, 0, 0, rfl, Nat.zero_le _, rfl, by simp⟩
  · refine ⟨_, c, b, 0, rfl, hlc, rfl, ?_⟩
    intro i r hr
    obtain ⟨hi, rfl⟩ := List.getElem?_eq_some_iff.1 hr
    rw [Nat.zero_add]
    exact ldc_pre hg hp hw hi
theorem Own.fre {h0 h : H} {v : Value} {w : Nat} {rows : List (List Value)} (o : Own h0 h v w rows) : Fre h0 h v w rows := by
  rcases o with ⟨rfl, rfl⟩ | ⟨b, c, z, rfl, hlc, hb, h0b, hg, _, hw⟩
  · exact .inl ⟨none, 0, rfl, rfl⟩
  · exact .inr ⟨b, c, _, rfl, hlc, hb, h0b, hg, List.prefix_refl _, hw⟩
theorem Own.sl {h0 h : H} {v : Value} {w : Nat} {rows : List (List Value)} (o : Own h0 h v w rows) : Sl h v w rows := o.fre.sl
theorem Fre.ext {h0 h h' : H} {v : Value} {w : Nat} {rows : List (List Value)} (o : Fre h0 h v w rows) (e : Ext h h') : Fre h0 h' v w rows := by
  rcases o with o | ⟨b, c, ob, rfl, hlc, hb, h0b, hg, hp, hw⟩
  · exact .inl o
  · exact .inr ⟨b, c, ob, rfl, hlc, by rw [e.1]; exact hb, h0b, e.2.g _ _ hg, hp, hw⟩
theorem Own.ext {h0 h h' : H} {v : Value} {w : Nat} {rows : List (List Value)} (o : Own h0 h v w rows) (e : Ext h h') : Own h0 h' v w rows := by
  rcases o with o | ⟨b, c, z, rfl, hlc, hb, h0b, hg, hp, hw⟩
  · exact .inl o
  · exact .inr ⟨b, c, z, rfl, hlc, by rw [e.1]; exact hb, h0b, e.2.g _ _ hg, hp, hw⟩
/-- Known earlier: not known even earlier. -/
theorem Fre.back {h0 h1 h : H} {v : Value} {w : Nat} {rows : List (List Value)} (o : Fre h1 h v w rows) (e : Ext h0 h1) : Fre h0 h v w rows := by
  rcases o with o | ⟨b, c, ob, rfl, hlc, hb, h0b, hg, hp, hw⟩
  · exact .inl o
  · exact .inr ⟨b, c, ob, rfl, hlc, hb, e.none h0b, hg, hp, hw⟩
theorem Own.back {h0 h1 h : H} {v : Value} {w : Nat} {rows : List (List Value)} (o : Own h1 h v w rows) (e : Ext h0 h1) : Own h0 h v w rows := by
  rcases o with o | ⟨b, c, z, rfl, hlc, hb, h0b, hg, hp, hw⟩
  · exact .inl o
  · exact .inr ⟨b, c, z, rfl, hlc, hb, e.none h0b, hg, hp, hw⟩

theorem Sl.src {h : H} {v : Value} {w : Nat} {rows : List (List Value)} (s : Sl h v w rows) (hw : Wid w rows) (hw0 : w ≠ 0) : srcOf h w v = some (rows.length, rows.flatten) := by
  obtain ⟨a, c, b, o, rfl, hlc, hr, hl⟩ := s
  cases hrows : rows with
  | nil => simp [srcOf]
  | cons r rs =>
    rw [hrows] at hr
    unfold asR at hr
    split at hr
    · rename_i b' o' n' c' e
      simp only [Option.some.injEq, Prod.mk.injEq] at hr
      obtain ⟨rfl, rfl, rfl⟩ := hr
      simp only [Value.slice.injEq] at e
      obtain ⟨rfl, _, rfl⟩ := e
      have hld : ldc h b' o' (rows.length * w) = some rows.flatten := by
        have key : ∀ m, m ≤ rows.length → ldc h b' o' (m * w) = some (rows.take m).flatten ∨ m = 0 := by
          intro m
          induction m with
          | zero => intro _; exact .inr rfl
          | succ m ih =>
            intro hm
            left
            have hrow := hl m rows[m] (by simp)
            have hwid := hw rows[m] (List.getElem_mem _)
            unfold ldc at hrow ⊢
            cases hg : h.get b' with
            | none => rw [hg] at hrow; cases hrow
            | some ob =>
              rw [hg] at hrow
              simp only at hrow ⊢
              split at hrow
              · rename_i hle
                simp only [Option.some.injEq] at hrow
                have e1 : (m + 1) * w = m * w + w := by rw [Nat.add_mul]; omega
                rw [if_pos (by omega), e1, List.take_add, List.drop_drop]
                congr 1
                rw [List.take_succ_eq_append_getElem (by omega), List.flatten_append]
                rcases ih (by omega) with h2 | h2
                · unfold ldc at h2
                  rw [hg] at h2
                  simp only at h2
                  rw [if_pos (by omega)] at h2
                  simp only [Option.some.injEq] at h2
                  rw [h2, hrow]; simp
                · subst h2
                  simp only [Nat.zero_mul, Nat.add_zero] at hrow ⊢
                  rw [hrow]; simp
              · cases hrow
        rcases key rows.length (Nat.le_refl _) with h2 | h2
        · rw [List.take_length] at h2; exact h2
        · rw [hrows] at h2; cases h2
      simp only [srcOf]
      rw [hrows] at hld
      simp only [List.length_cons] at hld ⊢
      rw [hld]; rfl
    · rename_i e
      simp only [Value.slice.injEq, List.length_cons] at e
      omega
    · cases hr

/-- append onto a slice of one's own, as the walk meets it. -/
theorem appW_own {h0 h : H} {K : Value → H → Prop} {w by_ n c : Nat} {a : Option Addr} {q : Nat × List Value} {rows new : List (List Value)} (e : Ext h0 h) (o : Own h0 h (.slice a n c) w rows)
    (hq : q = (new.length, new.flatten)) (hw : Wid w new) (h1 : new.flatten.all Value.oneCell' = true) (hb : (rows.length + new.length) * by_ ≤ 70368744177664)
    (hK : ∀ v' h', Ext h0 h' → Own h0 h' v' w (rows ++ new) → (∀ c' ob, h.get c' = some ob → (∀ b k m, (.slice a n c : Value) = sl b 0 k m → c' ≠ b) → h'.get c' = some ob) → K v' h') : appW h w by_ (a, n, c) q K := by
  subst hq
  unfold appW
  rcases o with ⟨hv, rfl⟩ | ⟨b, c', z, hv, hlc, hbb, h0b, hg, hcz, hww⟩
  · simp only [nils, Value.slice.injEq] at hv
    obtain ⟨rfl, rfl, rfl⟩ := hv
    refine ⟨by simpa using hb, h1, by rw [flat_length hw], rfl, ?_⟩
    by_cases hn : new.length = 0
    · have : new = [] := List.length_eq_zero_iff.1 hn
      subst this
      simp only [List.length_nil, if_true]
      exact hK nils h e (.inl ⟨rfl, rfl⟩) (fun c ob hc _ => hc)
    · rw [if_neg hn]
      intro b hb1 hb2 c hc
      exact hK _ _ (e.set hb2 _) (.inr ⟨b, c, c * w, by simp, by simpa using hc, hb1, e.none hb2, by simp, Nat.le_refl _, by simpa using hw⟩) (fun k ob hk _ => by
        rw [H.set_get_ne _ _ _ _ (fun e' => by rw [e', hb2] at hk; cases hk)]; exact hk)
  · simp only [sl, Value.slice.injEq] at hv
    obtain ⟨rfl, rfl, rfl⟩ := hv
    refine ⟨hb, h1, by rw [flat_length hw], rfl, hbb, ⟨⟨rows.flatten, z⟩, hg, hcz, .inl ⟨by rw [flat_length hww], ?_⟩⟩⟩
    intro b' c' z' hb' hbase hc hz
    have hn : h0.get b' = none := by
      rcases hb' with rfl | hb'
      · exact h0b
      · exact e.none hb'
    refine hK _ _ (e.set' hn _) (.inr ⟨b', c', z', by simp, by simpa using hc, hbase, hn, by simp, hz, hww.append hw⟩) (fun k ob hk hne => ?_)
    rw [H.set_get_ne _ _ _ _ (fun e' => by
      subst e'
      rcases hb' with rfl | hb'
      · exact hne _ _ _ rfl rfl
      · rw [hb'] at hk; cases hk)]
    exact hk
end Go.KH
