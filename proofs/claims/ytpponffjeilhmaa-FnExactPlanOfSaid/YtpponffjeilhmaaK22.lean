/- A helper of this seat's claims (the logic of the walks): what it shows is shown for every input that its statements name, on no other condition. -/
import Derived.Test.YtpponffjeilhmaaK18
set_option linter.unusedVariables false
set_option linter.unusedSimpArgs false
namespace Go.KH
open Go.RowKit

/-! ## Blocks: what is apart, what is kept -/
theorem ldc_get {h : H} {b : Nat} {ob : Ob} (hb : h.get b = some ob) (o n : Nat) : ldc h b o n = if o + n ≤ ob.cells.length then some ((ob.cells.drop o).take n) else none := by
  unfold ldc; rw [hb]
theorem stc_get {h : H} {b : Nat} {ob : Ob} (hb : h.get b = some ob) (o n : Nat) (cs : List Value) : stc h b o cs n = if cs.length = n ∧ o + n ≤ ob.cells.length ∧ cs.all Value.oneCell' = true then some (h.set b ⟨splice ob.cells o cs, ob.size⟩) else none := by
  unfold stc; rw [hb]; rfl
def New (h0 : H) (v : Value) : Prop := ∀ b, blk v = some b → h0.get b = none
def Known (h : H) (v : Value) : Prop := ∀ b, blk v = some b → h.get b ≠ none
/-- Two slices that share nothing. -/
def Dj (u v : Value) : Prop := ∀ b, blk u = some b → blk v ≠ some b
theorem Dj.symm {u v : Value} (d : Dj u v) : Dj v u := fun b h1 h2 => d b h2 h1
theorem Dj.of {h : H} {u v : Value} (k : Known h u) (n : New h v) : Dj u v := fun b h1 h2 => k b h1 (n b h2)
theorem blk_some {v : Value} {b : Nat} (h : blk v = some b) : ∃ a n c, v = .slice (some a) (n + 1) c ∧ a.block = b := by
  unfold blk at h; split at h
  · simp only [Option.some.injEq] at h; exact ⟨_, _, _, rfl, h⟩
  · cases h
theorem Fre.new {h0 h : H} {v : Value} {w : Nat} {rows : List (List Value)} (f : Fre h0 h v w rows) : New h0 v := fun b hb => by
  obtain ⟨a, n, c, rfl, rfl⟩ := blk_some hb
  rcases f with ⟨a', c', e, _⟩ | ⟨b', c', ob, e, _, _, h0b, _⟩
  · simp only [Value.slice.injEq] at e; omega
  · simp only [sl, Value.slice.injEq, Option.some.injEq] at e
    rw [e.1]; exact h0b
theorem asR_blk {a : Addr} {n c b o m : Nat} (h : asR (.slice (some a) (n + 1) c) = some (b, o, m)) : a = ⟨b, o, none⟩ := by
  obtain ⟨b', o', sp⟩ := a
  cases sp with
  | none => simp [asR] at h; rw [h.1, h.2.1]
  | some s => simp [asR] at h
theorem Sl.known {h : H} {v : Value} {w : Nat} {rows : List (List Value)} (s : Sl h v w rows) : Known h v := fun b hb => by
  obtain ⟨a, n, c, rfl, rfl⟩ := blk_some hb
  obtain ⟨a', c', b, o, e, hc, h2, h3⟩ := s
  simp only [Value.slice.injEq] at e
  obtain ⟨rfl, e2, rfl⟩ := e
  rw [← e2] at h2
  have := asR_blk h2
  subst this
  have h4 := h3 0 (rows[0]'(by omega)) (by simp)
  intro hn
  unfold ldc at h4
  rw [hn] at h4
  cases h4
theorem Fre.known {h0 h : H} {v : Value} {w : Nat} {rows : List (List Value)} (f : Fre h0 h v w rows) : Known h v := f.sl.known
theorem New.back {h0 h : H} {v : Value} (n : New h v) (e : Ext h0 h) : New h0 v := fun b hb => e.none (n b hb)
theorem Known.ext {h h' : H} {v : Value} (n : Known h v) (e : Ext h h') : Known h' v := fun b hb => by
  cases hc : h.get b with
  | none => exact absurd hc (n b hb)
  | some ob => rw [e.2.g _ _ hc]; simp
theorem Sl.shape {h : H} {v : Value} {w : Nat} {rows : List (List Value)} (s : Sl h v w rows) : ∃ a c, v = .slice a rows.length c := by obtain ⟨a, c, b, o, rfl, _⟩ := s; exact ⟨a, c, rfl⟩
theorem Sl.one {h : H} {v : Value} {w : Nat} {rows : List (List Value)} (s : Sl h v w rows) : v.oneCell' = true := by obtain ⟨a, c, b, o, rfl, _⟩ := s; rfl
theorem Sl.vcl {h : H} {v : Value} {w : Nat} {rows : List (List Value)} (s : Sl h v w rows) : vcl v = [v] := by obtain ⟨a, c, b, o, rfl, _⟩ := s; rfl
theorem Fre.shape {h0 h : H} {v : Value} {w : Nat} {rows : List (List Value)} (f : Fre h0 h v w rows) : ∃ a c, v = .slice a rows.length c := f.sl.shape
theorem asR_none {n c : Nat} {x : Nat × Nat × Nat} (h : asR (.slice none n c) = some x) : n = 0 := by
  cases n with
  | zero => rfl
  | succ n => simp [asR] at h
theorem Sl.none {h : H} {c n w : Nat} {rows : List (List Value)} (hv : Sl h (.slice none n c) w rows) : rows = [] := by
  obtain ⟨a, c', b, o, e, hcap, h2, h3⟩ := hv
  rw [e] at h2
  simp only [Value.slice.injEq] at e
  obtain ⟨rfl, _, _⟩ := e
  exact List.length_eq_zero_iff.1 (asR_none h2)
/-- All that is known outside of some blocks is kept. -/
def Keep (S : Nat → Prop) (h h' : H) : Prop := h'.base = h.base ∧ (∀ b ob, ¬ S b → h.get b = some ob → h'.get b = some ob) ∧ (∀ b l, h.mp b = some l → h'.mp b = some l) ∧ ∀ b, h.get b ≠ none → h'.get b ≠ none
theorem Keep.refl (S : Nat → Prop) (h : H) : Keep S h h := ⟨rfl, fun _ _ _ e => e, fun _ _ e => e, fun _ e => e⟩
theorem Keep.trans {S : Nat → Prop} {a b c : H} (h : Keep S a b) (k : Keep S b c) : Keep S a c := ⟨k.1.trans h.1, fun x y n e => k.2.1 x y n (h.2.1 x y n e), fun x y e => k.2.2.1 x y (h.2.2.1 x y e), fun x e => k.2.2.2 x (h.2.2.2 x e)⟩
theorem Keep.mono {S T : Nat → Prop} {a b : H} (h : Keep S a b) (st : ∀ x, S x → T x) : Keep T a b := ⟨h.1, fun x y n e => h.2.1 x y (fun s => n (st x s)) e, h.2.2⟩
theorem Ext.keep {h h' : H} (e : Ext h h') (S : Nat → Prop) : Keep S h h' := ⟨e.1, fun b ob _ hb => e.2.g b ob hb, e.2.m, fun b hb => by
    cases hc : h.get b with
    | none => exact absurd hc hb
    | some ob => rw [e.2.g _ _ hc]; simp⟩
theorem Keep.set {S : Nat → Prop} {h h' : H} (k : Keep S h h') {b : Nat} (hb : S b ∨ h.get b = none) (ob : Ob) : Keep S h (h'.set b ob) :=
  ⟨k.1, fun c oc n hc => by
    rw [H.set_get]
    split
    · rename_i e; subst e
      rcases hb with hb | hb
      · exact absurd hb n
      · rw [hb] at hc; cases hc
    · exact k.2.1 c oc n hc, k.2.2.1, fun c hc => by
    rw [H.set_get]
    split
    · simp
    · exact k.2.2.2 c hc⟩
/-- What a heap knows that is kept is kept: an extension of the part before. -/
theorem Keep.ext {S : Nat → Prop} {h0 h h' : H} (e : Ext h0 h) (k : Keep S h h') (hS : ∀ b, S b → h0.get b = none) : Ext h0 h' :=
  ⟨k.1.trans e.1, fun b ob hb => k.2.1 b ob (fun s => by rw [hS b s] at hb; cases hb) (e.2.g b ob hb), fun b l hl => k.2.2.1 b l (e.2.m b l hl)⟩
/-- The blocks of values. -/
def blks (vs : List Value) (b : Nat) : Prop := ∃ v ∈ vs, blk v = some b
theorem Sl.keep {S : Nat → Prop} {h h' : H} {v : Value} {w : Nat} {rows : List (List Value)} (s : Sl h v w rows) (k : Keep S h h') (hS : ∀ b, blk v = some b → ¬ S b) : Sl h' v w rows := by
  obtain ⟨a, c, b, o, rfl, hc, h2, h3⟩ := s
  refine ⟨a, c, b, o, rfl, hc, h2, fun i r hr => ?_⟩
  have hi : i < rows.length := (List.getElem?_eq_some_iff.1 hr).1
  cases a with
  | none =>
    obtain ⟨n, hn⟩ : ∃ n, rows.length = n + 1 := ⟨rows.length - 1, by omega⟩
    rw [hn] at h2
    simp [asR] at h2
  | some a =>
    obtain ⟨n, hn⟩ : ∃ n, rows.length = n + 1 := ⟨rows.length - 1, by omega⟩
    rw [hn] at h2
    have := asR_blk h2
    subst this
    have h4 := h3 i r hr
    unfold ldc at h4 ⊢
    cases hg : h.get b with
    | none => rw [hg] at h4; cases h4
    | some ob => rw [k.2.1 b ob (hS b (by rw [hn]; rfl)) hg]; rw [hg] at h4; exact h4
theorem Fre.keep {S : Nat → Prop} {h0 h h' : H} {v : Value} {w : Nat} {rows : List (List Value)} (s : Fre h0 h v w rows) (k : Keep S h h') (hS : ∀ b, blk v = some b → ¬ S b) : Fre h0 h' v w rows := by
  rcases s with s | ⟨b, c, ob, rfl, hlc, hb, h0b, hg, hp, hw⟩
  · exact .inl s
  · cases hr : rows with
    | nil => exact .inl ⟨some ⟨b, 0, none⟩, c, by simp [sl], rfl⟩
    | cons r rs => rw [← hr]; exact .inr ⟨b, c, ob, rfl, hlc, by rw [k.1]; exact hb, h0b, k.2.1 b ob (hS b (by rw [hr]; rfl)) hg, hp, hw⟩
/-- A write into a block that was known before the slice came. -/
theorem Fre.set {h0 h : H} {v : Value} {w : Nat} {rows : List (List Value)} (s : Fre h0 h v w rows) {b : Nat} {x : Ob} (hb : h0.get b = some x) (ob : Ob) : Fre h0 (h.set b ob) v w rows := by
  rcases s with s | ⟨b', c, ob', rfl, hlc, hb', h0b, hg, hp, hw⟩
  · exact .inl s
  · refine .inr ⟨b', c, ob', rfl, hlc, hb', h0b, ?_, hp, hw⟩
    rw [H.set_get_ne _ _ _ _ (fun e => by rw [← e, h0b] at hb; cases hb)]; exact hg
theorem Sl.set {h : H} {v : Value} {w : Nat} {rows : List (List Value)} (s : Sl h v w rows) {b : Nat} (hn : ∀ c, blk v = some c → c ≠ b) (ob : Ob) : Sl (h.set b ob) v w rows :=
  s.keep ((Keep.refl (fun c => c = b) h).set (.inl rfl) ob) hn

theorem fre_cases {h0 h : H} {v : Value} {w : Nat} {rows : List (List Value)} (f : Fre h0 h v w rows) : (∃ a c, v = .slice a 0 c ∧ rows = []) ∨
    ∃ b c cells z, v = sl b 0 rows.length c ∧ rows.length ≤ c ∧ h.base ≤ b ∧ h0.get b = none ∧ h.get b = some ⟨rows.flatten ++ cells, z⟩ ∧ Wid w rows ∧ blk v = some b := by
  rcases f with f | ⟨b, c, ob, rfl, hlc, hb, h0b, hg, ⟨t, ht⟩, hw⟩
  · exact .inl f
  · cases hr : rows with
    | nil => exact .inl ⟨some ⟨b, 0, none⟩, c, by simp [sl], rfl⟩
    | cons r rs =>
      rw [← hr]
      obtain ⟨cells, z⟩ := ob
      simp only at ht; subst ht
      exact .inr ⟨b, c, t, z, rfl, hlc, hb, h0b, hg, hw, by rw [hr]; rfl⟩
theorem H.set_id {h : H} {b : Nat} {ob : Ob} (hb : h.get b = some ob) : h.set b ob = h := by
  obtain ⟨x, g, m⟩ := h
  simp only at hb
  simp only [H.set, H.mk.injEq, true_and, and_true]
  funext d
  split
  · rename_i e; subst e; exact hb.symm
  · rfl

theorem set_over {h : H} {b c : Nat} {x y z : Ob} (hn : c ≠ b) : ((h.set b x).set c y).set b z = (h.set b z).set c y := by
  rw [H.set_comm _ _ _ hn, H.set_set, H.set_comm _ _ _ hn.symm]

/-! ## Values of many cells -/
def NewL (h : H) (cs : List Value) : Prop := ∀ v ∈ cs, New h v
def KnownL (h : H) (cs : List Value) : Prop := ∀ v ∈ cs, Known h v
def DjL (cs ds : List Value) : Prop := ∀ u ∈ cs, ∀ v ∈ ds, Dj u v
theorem DjL.of {h : H} {cs ds : List Value} (k : KnownL h cs) (n : NewL h ds) : DjL cs ds := fun u hu v hv => Dj.of (k u hu) (n v hv)
theorem DjL.symm {cs ds : List Value} (d : DjL cs ds) : DjL ds cs := fun u hu v hv => (d v hv u hu).symm
theorem NewL.back {h0 h : H} {cs : List Value} (n : NewL h cs) (e : Ext h0 h) : NewL h0 cs := fun v hv => (n v hv).back e
theorem KnownL.ext {h h' : H} {cs : List Value} (n : KnownL h cs) (e : Ext h h') : KnownL h' cs := fun v hv => (n v hv).ext e
theorem KnownL.keep {S : Nat → Prop} {h h' : H} {cs : List Value} (n : KnownL h cs) (k : Keep S h h') : KnownL h' cs := fun v hv b hb => k.2.2.2 b (n v hv b hb)
theorem DjL.not {cs ds : List Value} (d : DjL cs ds) {v : Value} (hv : v ∈ cs) : ∀ b, blk v = some b → ¬ blks ds b := fun b hb ⟨u, hu, hb'⟩ => d v hv u hu b hb hb'
/-- A block that is none of a value's. -/
theorem KnownL.ne {h : H} {cs : List Value} (n : KnownL h cs) {b : Nat} (hb : h.get b = none) : ¬ blks cs b := fun ⟨v, hv, e⟩ => n v hv b e hb
theorem NewL.ne {h : H} {cs : List Value} (n : NewL h cs) {b : Nat} {ob : Ob} (hb : h.get b = some ob) : ¬ blks cs b := fun ⟨v, hv, e⟩ => by rw [n v hv b e] at hb; cases hb
theorem New.of_none {h : H} {v : Value} (e : blk v = none) : New h v := fun b hb => by rw [e] at hb; cases hb
theorem Known.of_none {h : H} {v : Value} (e : blk v = none) : Known h v := fun b hb => by rw [e] at hb; cases hb
theorem ldc_keep {S : Nat → Prop} {h h' : H} (k : Keep S h h') {b : Nat} {ob : Ob} (hb : h.get b = some ob) (hS : ¬ S b) : h'.get b = some ob := k.2.1 b ob hS hb
theorem take_len {α : Type} {l : List α} {n : Nat} (h : l.length = n) : l.take n = l := List.take_of_length_le (by omega)

/-- append onto an empty slice just made: a copy. -/
theorem src0 {h : H} {b w : Nat} {v : Value} {rows : List (List Value)} (hn : h.get b = none) (hv : Sl h v w rows) (hw : Wid w rows) (hw0 : w ≠ 0) : srcOf (h.set b ⟨[], 0⟩) w v = some (rows.length, rows.flatten) :=
  (hv.ext ((Ext.refl h).set hn _)).src hw hw0
theorem app0 {h : H} {K : Value → H → Prop} {w by_ b : Nat} {rows : List (List Value)} {q : Nat × List Value} (hb : h.base ≤ b) (hn : h.get b = none) (hq : q = (rows.length, rows.flatten)) (hw : Wid w rows)
    (h1 : rows.flatten.all Value.oneCell' = true) (hbd : rows.length * by_ ≤ 70368744177664) (hK : ∀ v' h', Ext h h' → Own h h' v' w rows → K v' h') : appW (h.set b ⟨[], 0⟩) w by_ (some ⟨b, 0, none⟩, 0, 0) q K :=
  appW_own (rows := []) (new := rows) ((Ext.refl h).set hn _) (.inr ⟨b, 0, 0, rfl, Nat.le_refl _, hb, hn, H.set_get_same _ _ _, by simp, Wid.nil w⟩) hq hw h1 (by simpa using hbd) fun v' h' e o _ => hK v' h' e (by simpa using o)

/-! ## Marks -/
def mks (g : Int → List Value) (f : Nat) (k0 : Int) (n : Nat) : List (List Value) := (List.range n).map fun i => g (k0 + (f * i : Nat))
theorem mks_len (g : Int → List Value) (f : Nat) (k0 : Int) (n : Nat) : (mks g f k0 n).length = n := by simp [mks]
theorem mks_succ (g : Int → List Value) (f : Nat) (k0 : Int) (n : Nat) : mks g f k0 (n + 1) = mks g f k0 n ++ [g (k0 + (f * n : Nat))] := by simp [mks, List.range_succ]
theorem mks_get (g : Int → List Value) (f : Nat) (k0 : Int) (n i : Nat) (hi : i < n) : (mks g f k0 n)[i]? = some (g (k0 + (f * i : Nat))) := by simp [mks, hi]
theorem mks_wid {g : Int → List Value} {w : Nat} (hg : ∀ k, (g k).length = w) (f : Nat) (k0 : Int) (n : Nat) : Wid w (mks g f k0 n) := Wid.map fun _ => hg _
theorem splice_app (A B r : List Value) (j : Nat) {m : Nat} (hm : m = A.length + j) : splice (A ++ B) m r = A ++ splice B j r := by
  subst hm
  unfold splice
  rw [List.take_append, List.take_of_length_le (by omega), List.drop_append, List.drop_of_length_le (by omega), Nat.add_sub_cancel_left, show A.length + j + r.length - A.length = j + r.length by omega]
  simp
/-- The first cells of a block. -/
theorem cut_cells {l : List Value} {n : Nat} (h : n ≤ l.length) : ∃ A B, l = A ++ B ∧ A.length = n := ⟨l.take n, l.drop n, (List.take_append_drop n l).symm, by simp; omega⟩
def mkB1 : C := (.seq (.ops [q 4 (.mv (.c (i64 0)))])
 (.seq (.seq (.ops [q 5 (.mv (.c (i64 0)))])
 (.block 0 (.loop (.seq (.seq (.ops [q 6 (.mv (.t 5)), q 7 (.mv (.t 0)), q 8 (.len (.t 7)), q 9 (.bin .lss (.t 6) (.t 8))])
 (.cond (.t 9) .skip (.exit 0)))
 (.seq (.block 1 (.seq (.ops [q 12 (.mv (.t 0)), q 13 (.mv (.t 5)), q 14 (.mv (.t 1)), q 15 (.idx 1 (.t 12) (.t 13)), ⟨none, none, .st 1 (.t 15) (.t 14)⟩])
 (.ops [q 16 (.mv (.t 1)), q 17 (.bin .add (.t 16) (.c (i64 1))), q 1 (.mv (.t 17))])))
 (.ops [q 10 (.mv (.t 5)), q 11 (.bin .add (.t 10) (.c (i64 1))), q 5 (.mv (.t 11))]))))))
 (.seq (.ops [q 18 (.mv (.t 1)), q 4 (.mv (.t 18))])
 .ret)))
section
variable {P : Program}
abbrev gInt (k : Int) : List Value := [i64 k]
/-- What a mark leaves. -/
def Marked (h0 h h' : H) (v : Value) (w : Nat) (rows : List (List Value)) : Prop := Keep (fun b => blk v = some b) h h' ∧ Fre h0 h' v w rows
theorem mk1_wpc {h0 h : H} {v : Value} {rows : List (List Value)} {k0 : Int} (hv : Fre h0 h v 1 rows) (hn : rows.length ≤ 1099511627776) (hk : 0 ≤ k0 ∧ k0 ≤ 1099511627776) {Q : Value → H → Prop}
    (hq : ∀ h', Keep (fun b => blk v = some b) h h' → Fre h0 h' v 1 (mks gInt 1 k0 rows.length) → Q (i64 (k0 + (1 * rows.length : Nat))) h') :
    wpc P mkB1 (retw [.tmp 4] Q) (argsFr [v, i64 k0]) h := by
  unfold mkB1
  rcases fre_cases hv with ⟨a, c, rfl, rfl⟩ | ⟨b, c, cells, z, rfl, hlc, hb, h0b, hg, hw, hbl⟩
  · simp -implicitDefEqProofs only [go_sem, ↓reduceIte, reduceCtorEq, Int.reduceEq, Int.reduceLT, Int.reduceLE, Nat.reduceEqDiff, Nat.reduceAdd, Nat.reduceMul, Nat.reduceLeDiff, Nat.reduceSub, Int.reduceNeg, Int.lt_irrefl]
    refine loopW_of (fun m f h' => h' = h ∧ f 0 = .slice a 0 c ∧ f 1 = i64 k0 ∧ f 5 = i64 0) 0 ⟨rfl, by simp -implicitDefEqProofs only [go_sem, ↓reduceIte, reduceCtorEq, Int.reduceEq, Int.reduceLT, Int.reduceLE, Nat.reduceEqDiff, Nat.reduceAdd, Nat.reduceMul, Nat.reduceLeDiff, Nat.reduceSub, Int.reduceNeg], by simp -implicitDefEqProofs only [go_sem, ↓reduceIte, reduceCtorEq, Int.reduceEq, Int.reduceLT, Int.reduceLE, Nat.reduceEqDiff, Nat.reduceAdd, Nat.reduceMul, Nat.reduceLeDiff, Nat.reduceSub, Int.reduceNeg], by simp -implicitDefEqProofs only [go_sem, ↓reduceIte, reduceCtorEq, Int.reduceEq, Int.reduceLT, Int.reduceLE, Nat.reduceEqDiff, Nat.reduceAdd, Nat.reduceMul, Nat.reduceLeDiff, Nat.reduceSub, Int.reduceNeg]⟩ ?_
    rintro m f h' ⟨rfl, f0, f1, f5⟩
    simp -implicitDefEqProofs only [go_sem, ↓reduceIte, reduceCtorEq, Int.reduceEq, Int.reduceLT, Int.reduceLE, Nat.reduceEqDiff, Nat.reduceAdd, Nat.reduceMul, Nat.reduceLeDiff, Nat.reduceSub, Int.reduceNeg, f0, f1, f5, Int.lt_irrefl, Int.ofNat_lt, Nat.lt_irrefl, show ((0 : Nat) : Int) = 0 from rfl]
    have := hq h' (Keep.refl _ _) (.inl ⟨a, c, rfl, by simp [mks]⟩)
    simpa using this
  · have hfl := flat_length hw
    have hw1 : ∀ k, (gInt k).length = 1 := fun _ => rfl
    simp -implicitDefEqProofs only [go_sem, ↓reduceIte, reduceCtorEq, Int.reduceEq, Int.reduceLT, Int.reduceLE, Nat.reduceEqDiff, Nat.reduceAdd, Nat.reduceMul, Nat.reduceLeDiff, Nat.reduceSub, Int.reduceNeg]
    refine loopW_of (fun m f h' => ∃ k B, m + k = rows.length ∧ h' = h.set b ⟨(mks gInt 1 k0 k).flatten ++ B, z⟩ ∧ B.length = m + cells.length ∧ f 0 = sl b 0 rows.length c ∧ f 1 = i64 (k0 + k) ∧ f 5 = i64 k) rows.length
      ⟨0, rows.flatten ++ cells, by simp, ?_, by simp [hfl], by simp -implicitDefEqProofs only [go_sem, ↓reduceIte, reduceCtorEq, Int.reduceEq, Int.reduceLT, Int.reduceLE, Nat.reduceEqDiff, Nat.reduceAdd, Nat.reduceMul, Nat.reduceLeDiff, Nat.reduceSub, Int.reduceNeg], by simp -implicitDefEqProofs only [go_sem, ↓reduceIte, reduceCtorEq, Int.reduceEq, Int.reduceLT, Int.reduceLE, Nat.reduceEqDiff, Nat.reduceAdd, Nat.reduceMul, Nat.reduceLeDiff, Nat.reduceSub, Int.reduceNeg]; simp, by simp -implicitDefEqProofs only [go_sem, ↓reduceIte, reduceCtorEq, Int.reduceEq, Int.reduceLT, Int.reduceLE, Nat.reduceEqDiff, Nat.reduceAdd, Nat.reduceMul, Nat.reduceLeDiff, Nat.reduceSub, Int.reduceNeg]; rfl⟩ ?_
    · simp only [mks, List.range_zero, List.map_nil, List.flatten_nil, List.nil_append]
      exact (H.set_id hg).symm
    rintro m f h' ⟨k, B, hm, rfl, hB, f0, f1, f5⟩
    have hml : (mks gInt 1 k0 k).flatten.length = k := by rw [flat_length (mks_wid hw1 _ _ _), mks_len]; omega
    by_cases hkk : k < rows.length
    · obtain ⟨x, B', rfl⟩ : ∃ x B', B = x :: B' := by
        cases B with
        | nil => simp at hB; omega
        | cons x B' => exact ⟨x, B', rfl⟩
      simp only [List.length_cons] at hB
      have hsp := splice_app (mks gInt 1 k0 k).flatten (x :: B') [i64 (k0 + k)] 0 (m := k) (by omega)
      simp -implicitDefEqProofs only [go_sem, ↓reduceIte, reduceCtorEq, Int.reduceEq, Int.reduceLT, Int.reduceLE, Nat.reduceEqDiff, Nat.reduceAdd, Nat.reduceMul, Nat.reduceLeDiff, Nat.reduceSub, Int.reduceNeg, f0, f1, f5, hkk, hb, hsp, Int.ofNat_lt, Int.natCast_nonneg, List.length_append, hml, Nat.mul_one, show k + 1 ≤ k + (B'.length + 1) by omega, wrap_i64 (show -(9223372036854775808 : Int) ≤ ((k : Int) + 1) by omega) (show ((k : Int) + 1) < 9223372036854775808 by omega), wrap_i64 (show -(9223372036854775808 : Int) ≤ (k0 + (k : Int) + 1) by omega) (show (k0 + (k : Int) + 1) < 9223372036854775808 by omega)]
      refine ⟨m - 1, by omega, _, Ext.refl _, k + 1, B', by omega, ?_, by omega, by push_cast; rw [Int.add_assoc], rfl⟩
      rw [mks_succ]; simp
    · have e : k = rows.length := by omega
      subst e
      simp -implicitDefEqProofs only [go_sem, ↓reduceIte, reduceCtorEq, Int.reduceEq, Int.reduceLT, Int.reduceLE, Nat.reduceEqDiff, Nat.reduceAdd, Nat.reduceMul, Nat.reduceLeDiff, Nat.reduceSub, Int.reduceNeg, f0, f1, f5, Int.ofNat_lt, Nat.lt_irrefl]
      have := hq (h.set b ⟨(mks gInt 1 k0 rows.length).flatten ++ B, z⟩) ((Keep.refl _ h).set (.inl hbl) _)
        (.inr ⟨b, c, _, by rw [mks_len], by rw [mks_len]; exact hlc, hb, h0b, H.set_get_same _ _ _, List.prefix_append _ _, mks_wid hw1 _ _ _⟩)
      simpa using this
def hdB1 : C := (.seq (.ops [q 4 (.mv (.c (i64 0)))])
 (.seq (.seq (.ops [q 5 (.mv (.c (i64 0)))])
 (.block 0 (.loop (.seq (.seq (.ops [q 6 (.mv (.t 5)), q 7 (.mv (.t 0)), q 8 (.len (.t 7)), q 9 (.bin .lss (.t 6) (.t 8))])
 (.cond (.t 9) .skip (.exit 0)))
 (.seq (.block 1 (.seq (.seq (.ops [q 12 (.mv (.t 0)), q 13 (.mv (.t 5)), q 14 (.idx 1 (.t 12) (.t 13)), q 15 (.ld false 1 (.t 14)), q 16 (.mv (.t 1)), q 17 (.bin .neq (.t 15) (.t 16))])
 (.cond (.t 17) (.seq (.ops [q 4 (.mv (.c (i64 (-1))))])
 .ret) .skip))
 (.ops [q 18 (.mv (.t 1)), q 19 (.bin .add (.t 18) (.c (i64 1))), q 1 (.mv (.t 19))])))
 (.ops [q 10 (.mv (.t 5)), q 11 (.bin .add (.t 10) (.c (i64 1))), q 5 (.mv (.t 11))]))))))
 (.seq (.ops [q 20 (.mv (.t 1)), q 4 (.mv (.t 20))])
 .ret)))
theorem hd1_wpc {h : H} {v : Value} {n : Nat} {k0 : Int} (hv : Sl h v 1 (mks gInt 1 k0 n)) (hn : n ≤ 1099511627776) (hk : 0 ≤ k0 ∧ k0 ≤ 1099511627776) {Q : Value → H → Prop} (hq : Q (i64 (k0 + (1 * n : Nat))) h) :
    wpc P hdB1 (retw [.tmp 4] Q) (argsFr [v, i64 k0]) h := by
  unfold hdB1
  obtain ⟨a, c, b, o, rfl, hcap, h2, h3⟩ := hv
  rw [mks_len] at h2 hcap
  simp -implicitDefEqProofs only [go_sem, ↓reduceIte, reduceCtorEq, Int.reduceEq, Int.reduceLT, Int.reduceLE, Nat.reduceEqDiff, Nat.reduceAdd, Nat.reduceMul, Nat.reduceLeDiff, Nat.reduceSub, Int.reduceNeg, mks_len]
  refine loopW_of (fun m f h' => ∃ k, m + k = n ∧ h' = h ∧ f 0 = .slice a n c ∧ f 1 = i64 (k0 + k) ∧ f 5 = i64 k) n ⟨0, by simp, rfl, by simp -implicitDefEqProofs only [go_sem, ↓reduceIte, reduceCtorEq, Int.reduceEq, Int.reduceLT, Int.reduceLE, Nat.reduceEqDiff, Nat.reduceAdd, Nat.reduceMul, Nat.reduceLeDiff, Nat.reduceSub, Int.reduceNeg, mks_len], by simp -implicitDefEqProofs only [go_sem, ↓reduceIte, reduceCtorEq, Int.reduceEq, Int.reduceLT, Int.reduceLE, Nat.reduceEqDiff, Nat.reduceAdd, Nat.reduceMul, Nat.reduceLeDiff, Nat.reduceSub, Int.reduceNeg]; simp, by simp -implicitDefEqProofs only [go_sem, ↓reduceIte, reduceCtorEq, Int.reduceEq, Int.reduceLT, Int.reduceLE, Nat.reduceEqDiff, Nat.reduceAdd, Nat.reduceMul, Nat.reduceLeDiff, Nat.reduceSub, Int.reduceNeg]; rfl⟩ ?_
  rintro m f h' ⟨k, hm, rfl, f0, f1, f5⟩
  by_cases hkk : k < n
  · have e1 := h3 k _ (mks_get gInt 1 k0 n k hkk)
    simp only [Nat.mul_one, Nat.one_mul] at e1
    simp -implicitDefEqProofs only [go_sem, ↓reduceIte, reduceCtorEq, Int.reduceEq, Int.reduceLT, Int.reduceLE, Nat.reduceEqDiff, Nat.reduceAdd, Nat.reduceMul, Nat.reduceLeDiff, Nat.reduceSub, Int.reduceNeg, f0, f1, f5, hkk, h2, e1, Int.ofNat_lt, Int.natCast_nonneg, Nat.mul_one, Nat.one_mul, wrap_i64 (show -(9223372036854775808 : Int) ≤ ((k : Int) + 1) by omega) (show ((k : Int) + 1) < 9223372036854775808 by omega), wrap_i64 (show -(9223372036854775808 : Int) ≤ (k0 + (k : Int) + 1) by omega) (show (k0 + (k : Int) + 1) < 9223372036854775808 by omega)]
    refine ⟨m - 1, by omega, _, Ext.refl _, k + 1, by omega, rfl, by push_cast; rw [Int.add_assoc], rfl⟩
  · have e : k = n := by omega
    subst e
    simp -implicitDefEqProofs only [go_sem, ↓reduceIte, reduceCtorEq, Int.reduceEq, Int.reduceLT, Int.reduceLE, Nat.reduceEqDiff, Nat.reduceAdd, Nat.reduceMul, Nat.reduceLeDiff, Nat.reduceSub, Int.reduceNeg, f0, f1, f5, Int.ofNat_lt, Nat.lt_irrefl]
    simpa using hq
end
end Go.KH
