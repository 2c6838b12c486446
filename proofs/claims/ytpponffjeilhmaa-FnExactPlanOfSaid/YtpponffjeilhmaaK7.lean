/- A helper of this seat's claims (the logic of the walks): what it shows is shown for every input that its statements name, on no other condition. -/
import Derived.Test.YtpponffjeilhmaaK6
set_option linter.unusedVariables false
set_option linter.unusedSimpArgs false
namespace Go.KH
open Go.RowKit

section
variable {P : Program}

theorem Rel.lt {w0 w : World} {h : H} (r : Rel w0 h w) {b : Nat} {ob : Ob} (hb : h.get b = some ob) : b < w.heap.size := by
  obtain ⟨c, T, fz, h1, _⟩ := r.obs b ob hb
  rcases Nat.lt_or_ge b w.heap.size with h | h
  · exact h
  · rw [Array.getElem?_eq_none h] at h1; cases h1

theorem Rel.ltm {w0 w : World} {h : H} (r : Rel w0 h w) {b : Nat} {l : List (Value × Value)} (hb : h.mp b = some l) : b < w.heap.size := by
  obtain ⟨es, clock, h1, _⟩ := r.maps b l hb
  rcases Nat.lt_or_ge b w.heap.size with h | h
  · exact h
  · rw [Array.getElem?_eq_none h] at h1; cases h1

theorem Rel.freshm {w0 w : World} {h : H} (r : Rel w0 h w) : h.mp w.heap.size = none := by
  cases hg : h.mp w.heap.size with
  | none => rfl
  | some ob => exact absurd (r.ltm hg) (Nat.lt_irrefl _)

theorem Rel.fresh {w0 w : World} {h : H} (r : Rel w0 h w) : h.base ≤ w.heap.size ∧ h.get w.heap.size = none := by
  refine ⟨Nat.le_trans r.baseLe r.below.size, ?_⟩
  cases hg : h.get w.heap.size with
  | none => rfl
  | some ob => exact absurd (r.lt hg) (Nat.lt_irrefl _)

theorem Rel.push {w0 w : World} {h : H} (r : Rel w0 h w) (c : Array Value) (T : TypeId) (fz : Nat × Nat) (hf : ∀ i, i < c.size → ¬ (fz.1 ≤ i ∧ i < fz.2)) (cs : List Value) (hc : cs <+: c.toList) :
    Rel w0 (h.set w.heap.size ⟨cs, c.size⟩) { w with heap := w.heap.push (.cells c T fz) } := by
  refine ⟨r.below.trans ⟨rfl, rfl, rfl, by simp, fun k hk => ?_⟩, r.baseLe, ?_, ?_, r.own⟩
  · show (w.heap.push _)[k]? = _
    have := r.fresh.1
    have hk : k < h.base := hk
    rw [Array.getElem?_push, if_neg (by omega)]
  rotate_left
  · intro b l hb
    have hlt := r.ltm hb
    obtain ⟨es, clock, h1, h2⟩ := r.maps b l hb
    refine ⟨es, clock, ?_, h2⟩
    show (w.heap.push _)[b]? = _
    rw [Array.getElem?_push, if_neg (by omega)]; exact h1
  · intro b ob hb
    rw [H.set_get] at hb
    show ∃ c' T' fz', (w.heap.push _)[b]? = _ ∧ _
    split at hb
    · rename_i e; subst e
      simp only [Option.some.injEq] at hb; subst hb
      exact ⟨c, T, fz, by simp, hc, fun _ => ⟨rfl, hf⟩⟩
    · obtain ⟨c', T', fz', h1, h2⟩ := r.obs b ob hb
      refine ⟨c', T', fz', ?_, h2⟩
      rw [Array.getElem?_push, if_neg (by have := r.lt hb; omega)]
      exact h1

theorem Rel.newRow {w0 w : World} {h : H} (r : Rel w0 h w) (c : Array Value) (T : TypeId) :
    (newRow T c).run P w = .ok ⟨w.heap.size, 0, none⟩ { w with heap := w.heap.push (.cells c T (0, 0)) } := by
  simp [Go.newRow]

theorem Rel.drew {w0 w : World} {h : H} (r : Rel w0 h w) : Rel w0 h { w with drawn := w.drawn + 1 } :=
  ⟨r.below.trans ⟨rfl, rfl, rfl, Nat.le_refl _, fun _ _ => rfl⟩, r.baseLe, r.obs, r.maps, r.own⟩

theorem splice_cons (l : List Value) (o : Nat) (v : Value) (vs : List Value) (ho : o ≤ l.length) : splice (splice l o [v]) (o + 1) vs = splice l o (v :: vs) := by
  unfold splice
  have e1 : (List.take o l ++ [v] ++ List.drop (o + [v].length) l).take (o + 1) = List.take o l ++ [v] := by
    rw [List.take_append_of_le_length (by simp; omega), List.take_of_length_le (by simp; omega)]
  have e2 : (List.take o l ++ [v] ++ List.drop (o + [v].length) l).drop (o + 1 + vs.length) = List.drop (o + (v :: vs).length) l := by
    have hl : (List.take o l ++ [v]).length = o + 1 := by simp; omega
    rw [List.drop_append, List.drop_of_length_le (by rw [hl]; omega), hl]
    simp only [List.nil_append, List.length_singleton, List.drop_drop, List.length_cons, List.length_nil]
    congr 1; omega
  rw [e1, e2]; simp

theorem splice_nil (l : List Value) (o : Nat) : splice l o [] = l := by simp [splice]
theorem splice_length (l cs : List Value) (o : Nat) (h : o ≤ l.length) : (splice l o cs).length = Nat.max l.length (o + cs.length) := by
  simp only [splice, List.length_append, List.length_take, List.length_drop]; have : Nat.max l.length (o + cs.length) = max l.length (o + cs.length) := rfl
  rw [this, Nat.max_def]; split <;> omega

theorem Rel.set1 {w0 w : World} {h : H} (r : Rel w0 h w) {b o : Nat} {ob : Ob} (hg : h.get b = some ob) (hb : h.base ≤ b) (ho : o ≤ ob.cells.length) (hs : o < ob.size) {v : Value} (hv : v.oneCell' = true) :
    (store ⟨b, o, none⟩ v).run P w = .ok () (w.setCell ⟨b, o, none⟩ v) ∧ Rel w0 (h.set b ⟨splice ob.cells o [v], ob.size⟩) (w.setCell ⟨b, o, none⟩ v) := by
  obtain ⟨c, T, fz, h1, ⟨t, h2⟩, h3⟩ := r.obs b ob hg
  obtain ⟨hsz, hfz⟩ := h3 hb
  constructor
  · rw [run_store P w _ v _ hv]
    have hc : w.cell? ⟨b, o, none⟩ = some c[o] := by simp [World.cell?, h1, hsz, hs]
    have hf : w.frozen? ⟨b, o, none⟩ = false := by
      simp only [World.frozen?, h1]
      have := hfz o hs
      simpa using this
    simp [hc, hf]
  · have hheap : ∀ k, (w.setCell ⟨b, o, none⟩ v).heap[k]? = if k = b then some (.cells (c.setIfInBounds o v) T fz) else w.heap[k]? := by
      intro k
      simp only [World.setCell, Array.getElem?_modify]
      by_cases hk : k = b
      · subst hk; simp [h1]
      · have : ¬ b = k := fun e => hk e.symm
        simp [hk, this]
    refine ⟨r.below.setCell hb v, r.baseLe, ?_, ?_, r.own⟩
    rotate_left
    · intro k l hk
      obtain ⟨es, clock, g1, g2⟩ := r.maps k l hk
      refine ⟨es, clock, ?_, g2⟩
      rw [hheap, if_neg (fun e => by subst e; rw [h1] at g1; cases g1)]; exact g1
    intro k oc hk
    rw [H.set_get] at hk
    rw [hheap]
    split at hk
    · rename_i e; subst e
      simp only [Option.some.injEq] at hk; subst hk
      refine ⟨c.setIfInBounds o v, T, fz, by simp, ?_, fun _ => ⟨by simpa using hsz, hfz⟩⟩
      rw [Array.toList_setIfInBounds, ← h2]
      unfold splice
      refine ⟨?_, ?_⟩
      · exact if o < ob.cells.length then t else t.drop 1
      · have hlen : ob.cells.length + t.length = ob.size := by rw [← hsz, ← Array.length_toList, ← h2]; simp
        by_cases hlt : o < ob.cells.length
        · rw [if_pos hlt, List.set_append_left _ _ hlt, List.set_eq_take_append_cons_drop, if_pos hlt]; simp
        · have : o = ob.cells.length := by omega
          subst this
          rw [if_neg hlt, List.set_append_right _ _ (Nat.le_refl _), Nat.sub_self]
          cases t with
          | nil => simp at hlen; omega
          | cons x t => simp
    · rename_i e
      obtain ⟨c', T', fz', g1, g2⟩ := r.obs k oc hk
      refine ⟨c', T', fz', ?_, g2⟩
      rw [if_neg e]; exact g1

theorem Rel.pushm {w0 w : World} {h : H} (r : Rel w0 h w) : Rel w0 (h.setm w.heap.size []) { w with heap := w.heap.push (.map #[] 0) } := by
  have hp : ∀ k, k < w.heap.size → (w.heap.push (.map #[] 0))[k]? = w.heap[k]? := fun k hk => by rw [Array.getElem?_push, if_neg (by omega)]
  refine ⟨r.below.trans ⟨rfl, rfl, rfl, by simp, fun k hk => hp k (Nat.lt_of_lt_of_le hk r.fresh.1)⟩, r.baseLe, ?_, ?_, ?_⟩
  · intro b ob hb
    obtain ⟨c, T, fz, h1, h2⟩ := r.obs b ob hb
    exact ⟨c, T, fz, by show (w.heap.push _)[b]? = _; rw [hp b (r.lt hb)]; exact h1, h2⟩
  · intro b l hb
    rw [H.setm_mp] at hb
    show ∃ es clock, (w.heap.push _)[b]? = _ ∧ _
    split at hb
    · rename_i e; subst e; simp only [Option.some.injEq] at hb; subst hb
      exact ⟨#[], 0, by simp, rfl⟩
    · obtain ⟨es, clock, g1, g2⟩ := r.maps b l hb
      exact ⟨es, clock, by rw [hp b (r.ltm hb)]; exact g1, g2⟩
  · intro b l hb
    rw [H.setm_mp] at hb
    split at hb
    · rename_i e; subst e; exact r.fresh.1
    · exact r.own b l hb

theorem Rel.setm {w0 w : World} {h : H} (r : Rel w0 h w) {b : Nat} {l : List (Value × Value)} (hb : h.mp b = some l) {es' : Array MapEntry} {clock' : Nat} :
    Rel w0 (h.setm b (es'.toList.map fun e => (e.key, e.val))) { w with heap := w.heap.setIfInBounds b (.map es' clock') } := by
  have hp : ∀ k, k ≠ b → (w.heap.setIfInBounds b (.map es' clock'))[k]? = w.heap[k]? := fun k hk => by rw [Array.getElem?_setIfInBounds_ne (Ne.symm hk)]
  obtain ⟨es, clock, g1, g2⟩ := r.maps b l hb
  refine ⟨r.below.trans ⟨rfl, rfl, rfl, by simp, fun k hk => hp k (fun e => by subst e; exact absurd (r.own _ _ hb) (Nat.not_le_of_lt hk))⟩, r.baseLe, ?_, ?_, ?_⟩
  · intro k ob hk
    obtain ⟨c, T, fz, h1, h2⟩ := r.obs k ob hk
    refine ⟨c, T, fz, ?_, h2⟩
    show (w.heap.setIfInBounds b _)[k]? = _
    rw [hp k (fun e => by subst e; rw [g1] at h1; cases h1)]; exact h1
  · intro k m hk
    rw [H.setm_mp] at hk
    show ∃ es clock, (w.heap.setIfInBounds b _)[k]? = _ ∧ _
    split at hk
    · rename_i e; subst e; simp only [Option.some.injEq] at hk; subst hk
      exact ⟨es', clock', by simp [r.ltm hb], rfl⟩
    · rename_i e
      obtain ⟨es2, clock2, k1, k2⟩ := r.maps k m hk
      exact ⟨es2, clock2, by rw [hp k e]; exact k1, k2⟩
  · intro k m hk
    rw [H.setm_mp] at hk
    split at hk
    · rename_i e; subst e; exact r.own _ _ hb
    · exact r.own k m hk

theorem H.set_set (h : H) (b : Nat) (o o' : Ob) : (h.set b o).set b o' = h.set b o' := by
  unfold H.set; congr 1; funext c; split <;> simp_all

theorem H.set_self (h : H) (b : Nat) (o : Ob) (hg : h.get b = some o) : h.set b o = h := by
  unfold H.set; cases h; congr 1; funext c; split <;> simp_all

theorem Rel.setN {w0 : World} {b : Nat} : ∀ (vs : List Value) (o i : Nat) (w : World) (h : H) (ob : Ob), Rel w0 h w → h.get b = some ob → h.base ≤ b → o + i ≤ ob.cells.length → o + i + vs.length ≤ ob.size → vs.all Value.oneCell' = true →
    ∃ w', (storeCells ⟨b, o, none⟩ vs i).run P w = .ok () w' ∧ Rel w0 (h.set b ⟨splice ob.cells (o + i) vs, ob.size⟩) w'
  | [], o, i, w, h, ob, r, hg, hb, ho, hs, hv => ⟨w, by simp [storeCells], by rw [splice_nil, H.set_self h b ob hg]; exact r⟩
  | v :: vs, o, i, w, h, ob, r, hg, hb, ho, hs, hv => by
    simp only [List.all_cons, Bool.and_eq_true] at hv
    simp only [List.length_cons] at hs
    obtain ⟨h1, h2⟩ := r.set1 (P := P) hg hb ho (by omega) hv.1
    obtain ⟨w', h3, h4⟩ := Rel.setN vs o (i + 1) _ _ ⟨splice ob.cells (o + i) [v], ob.size⟩ h2 (by simp) hb (by
      simp only [splice_length _ _ _ ho, List.length_singleton]; have := Nat.le_max_right ob.cells.length (o + i + 1); omega) (by simp only; omega) hv.2
    refine ⟨w', ?_, ?_⟩
    · simp only [storeCells, Sem.run_bind, addr_add, h1, Result.andThen_ok]; exact h3
    · rw [H.set_set] at h4
      have := splice_cons ob.cells (o + i) v vs ho
      rw [show o + (i + 1) = o + i + 1 by omega, this] at h4
      exact h4

theorem run_srcOf {h : H} {w : World} (hh : Has h w) {wd : Nat} {x : Value} {n : Nat} {cs : List Value} (hx : srcOf h wd x = some (n, cs)) :
    (Builtin.lenOf x).run P w = .ok n w ∧ (Builtin.firstCells wd n x).run P w = .ok cs.toArray w := by
  unfold srcOf at hx
  split at hx
  · rename_i s
    simp only [Option.some.injEq, Prod.mk.injEq] at hx
    obtain ⟨rfl, rfl⟩ := hx
    refine ⟨by simp [Builtin.lenOf, bl_length], ?_⟩
    simp only [Builtin.firstCells, bl_length, Sem.run_pure]
    congr 1
    rw [← Array.toList_inj]
    have : s.extract 0 s.size = s := by simp
    rw [this]
    simp [u8s, bl]
  · simp only [Option.some.injEq, Prod.mk.injEq] at hx
    obtain ⟨rfl, rfl⟩ := hx
    rename_i a c
    exact ⟨by simp [Builtin.lenOf], by cases a <;> simp [Builtin.firstCells, loadCells, loadCellsFrom]⟩
  · simp only [Option.bind_eq_some_iff, Option.some.injEq, Prod.mk.injEq] at hx
    obtain ⟨cs', hc, rfl, rfl⟩ := hx
    exact ⟨by simp [Builtin.lenOf], by simp only [Builtin.firstCells]; exact run_ldc hh hc⟩
  · cases hx
end
end Go.KH
