/- A helper of this seat's claims (contracts of the functions): what it shows is shown for every input that its statements name, on no other condition. -/
import Derived.Test.YtdofcojbjcpikaaCHs
import Derived.Test.YtdofcojbjcpikaaKD
set_option linter.unusedVariables false
set_option linter.unusedSimpArgs false
set_option maxRecDepth 100000
namespace Go.Proofs.Ytdofcojbjcpikaa
open Go.KH

/-! ## Flash memories written -/
theorem dirty_wid (l : List UDirty) : Wid 2 (l.map UDirty.cells) := Wid.map fun _ => rfl
theorem dirty_one (l : List UDirty) : (l.map UDirty.cells).flatten.all Value.oneCell' = true := by
  induction l with
  | nil => rfl
  | cons d l ih => simp only [List.map_cons, List.flatten_cons, List.all_append, ih, Bool.and_true]; rfl
theorem sects_wid (l : List (List UInt8)) : Wid 1 (sects l) := Wid.map fun _ => rfl
theorem sects_one (l : List (List UInt8)) : (sects l).flatten.all Value.oneCell' = true := by simp [sects, oneCell_str]
theorem flat_cut {l : List UDirty} {k : Nat} (hk : k < l.length) : (l.map UDirty.cells).flatten = ((l.take k).map UDirty.cells).flatten ++ (i64 l[k].place :: str l[k].data :: ((l.drop (k + 1)).map UDirty.cells).flatten) := by
  conv => lhs; rw [← List.take_append_drop k l, List.drop_eq_getElem_cons hk]
  rw [List.map_append, List.flatten_append, List.map_cons, List.flatten_cons]
  rfl
theorem own_putD {h0 h : H} {v : Value} {l : List UDirty} (f : Own h0 h v 2 (l.map UDirty.cells)) {k : Nat} (hk : k < l.length) (d : List UInt8) :
    ∃ b c z, v = sl b 0 l.length c ∧ h.base ≤ b ∧ h0.get b = none ∧ h.get b = some ⟨(l.map UDirty.cells).flatten, z⟩ ∧ stc h b (k * 2 + 1) [str d] 1 = some (h.set b ⟨((l.set k ⟨l[k].place, d⟩).map UDirty.cells).flatten, z⟩) ∧ Own h0 (h.set b ⟨((l.set k ⟨l[k].place, d⟩).map UDirty.cells).flatten, z⟩) v 2 ((l.set k ⟨l[k].place, d⟩).map UDirty.cells) := by
  rcases f with ⟨rfl, e⟩ | ⟨b, c, z, rfl, hlc, hb, h0b, hg, hcz, hw⟩
  · have : l = [] := List.map_eq_nil_iff.1 e
    subst this; simp at hk
  have hl := flat_length hw
  rw [List.length_map] at hl hlc
  refine ⟨b, c, z, by rw [List.length_map], hb, h0b, hg, ?_, .inr ⟨b, c, z, by simp, by simpa using hlc, hb, h0b, H.set_get_same _ _ _, hcz, dirty_wid _⟩⟩
  rw [stc_get hg, if_pos ⟨rfl, by simp only [hl]; omega, rfl⟩]
  simp only
  congr 3
  have h1 : (((l.take k).map UDirty.cells).flatten).length = k * 2 := by rw [flat_length (dirty_wid _)]; simp; omega
  rw [flat_cut hk, splice_app _ _ _ 1 (by omega), splice_s, splice_z]
  rw [List.set_eq_take_append_cons_drop, if_pos hk, List.map_append, List.flatten_append, List.map_cons, List.flatten_cons]
  rfl
/-- Two slices of the call's own, of different blocks. -/
def FlO (h0 h : H) (f : UFlash) (vs vd : Value) : Prop := Own h0 h vs 1 (sects f.sec) ∧ Own h0 h vd 2 (f.dirty.map UDirty.cells) ∧ Ap vs vd
theorem FlO.f {h0 h : H} {f : UFlash} {vs vd : Value} (o : FlO h0 h f vs vd) : FlF h0 h f vs vd := ⟨o.1.fre, o.2.1.fre, o.2.2.dj⟩
theorem FlO.r {h0 h : H} {f : UFlash} {vs vd : Value} (o : FlO h0 h f vs vd) : FlR h f vs vd := o.f.r
theorem FlO.ext {h0 h h' : H} {f : UFlash} {vs vd : Value} (o : FlO h0 h f vs vd) (e : Ext h h') : FlO h0 h' f vs vd := ⟨o.1.ext e, o.2.1.ext e, o.2.2⟩
theorem FlO.back {h0 h1 h : H} {f : UFlash} {vs vd : Value} (o : FlO h1 h f vs vd) (e : Ext h0 h1) : FlO h0 h f vs vd := ⟨o.1.back e, o.2.1.back e, o.2.2⟩
theorem FlO.setK {h0 h : H} {f : UFlash} {vs vd : Value} (o : FlO h0 h f vs vd) {b : Nat} {x : Ob} (hb : h0.get b = some x) (y : Ob) : FlO h0 (h.set b y) f vs vd :=
  ⟨o.1.setOb (fun e => by rw [(o.1.ob_new e).1] at hb; cases hb) y, o.2.1.setOb (fun e => by rw [(o.2.1.ob_new e).1] at hb; cases hb) y, o.2.2⟩
theorem Box.flO {h0 h : H} {b : Nat} {f : UFlash} (x : Box h0 h b f) : ∃ vs vd, h.get b = some ⟨[vs, vd], 2⟩ ∧ FlO h0 h f vs vd := by
  obtain ⟨vs, vd, g, o1, o2, ap, _⟩ := x
  exact ⟨vs, vd, g, o1, o2, ap⟩
theorem Box.of {h0 h : H} {b : Nat} {f : UFlash} {vs vd : Value} (o : FlO h0 h f vs vd) (e : Ext h0 h) (n : h.get b = none) (hb : h.base ≤ b) : Box h0 (h.set b ⟨[vs, vd], 2⟩) b f := by
  have n1 : ob vs ≠ some b := fun q => by obtain ⟨_, _, z, hg⟩ := o.1.ob_new q; rw [n] at hg; cases hg
  have n2 : ob vd ≠ some b := fun q => by obtain ⟨_, _, z, hg⟩ := o.2.1.ob_new q; rw [n] at hg; cases hg
  exact ⟨vs, vd, H.set_get_same _ _ _, o.1.setOb n1 _, o.2.1.setOb n2 _, o.2.2, n1, n2, e.none n, hb, e.set n _⟩
end Go.Proofs.Ytdofcojbjcpikaa
