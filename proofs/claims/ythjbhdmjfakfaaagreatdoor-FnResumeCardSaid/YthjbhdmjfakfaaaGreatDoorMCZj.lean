/- A helper of this seat's claims (contracts of the functions): what it shows is shown for every input that its statements name, on no other condition. -/
import Derived.Test.YthjbhdmjfakfaaaGreatDoorMCZh
import Derived.Test.YthjbhdmjfakfaaaGreatDoorMC08
import Derived.Test.YthjbhdmjfakfaaaGreatDoorMC14z
import Derived.Test.YthjbhdmjfakfaaaGreatDoorMC10t
import Derived.Test.YthjbhdmjfakfaaaGreatDoorMP15
import Derived.Test.YthjbhdmjfakfaaaGreatDoorCRe
import Derived.Test.YthjbhdmjfakfaaaGreatDoorMC14m
import Derived.Test.YthjbhdmjfakfaaaGreatDoorMC09r
set_option linter.unusedVariables false
set_option linter.unusedSimpArgs false
set_option maxRecDepth 100000
namespace Go.Proofs.YthjbhdmjfakfaaaGreatDoor
open Go.KH

structure PkgDrawn (h h' : H) (p : UPkg) (T : List (List UInt8)) (vs vo : Value) : Prop where
 blocks : 0 ≤ p.blocks ∧ p.blocks ≤ 100
 digest : p.digest.length ≤ 40
 steps : ∀ s ∈ p.steps, okd s
 few : p.steps.length ≤ 30
 own : Own h h' vs 4 (p.steps.map UStep.cells)
 old : Own h h' vo 1 (strs T)
 img : imageOk T
theorem pkgSteps_len {old fresh : List (List UInt8)} (ho : imageOk old) : (pkgSteps old fresh).length ≤ 9 := by
 have := stepsTo_len old fresh old.length
 have := ho.1
 simp [pkgSteps]; omega
structure PkgIn (v : Value) (l : List UInt8) (b b2 b6 : Nat) (T : List (List UInt8)) (vo : Value) (h : H) (p : UPkg) (vs : Value) (h' : H) : Prop where
 q2 : b2 ≠ b
 q6 : b6 ≠ b
 z26 : b2 ≠ b6
 n2h : h.get b2 = none
 n6h : h.get b6 = none
 hs : Src v l h b
 g6 : h'.get b6 = some ⟨p.cells vs, 3⟩
 b6b : h'.base ≤ b6
 g2 : h'.get b2 = some ⟨[i64 0, str [], nils], 3⟩
 b2b : h'.base ≤ b2
 D : PkgDrawn h h' p T vs vo
 n6 : ob vs ≠ some b6
 n2 : ob vs ≠ some b2
 o6 : ob vo ≠ some b6
 o2 : ob vo ≠ some b2
 ap : Ap vo vs
 W : Drew v l b h h'
theorem PkgIn.drew {v : Value} {l : List UInt8} {b b2 b6 : Nat} {T : List (List UInt8)} {vo : Value} {h : H} {p : UPkg} {vs : Value} {h1 h2 : H} (k : PkgIn v l b b2 b6 T vo h p vs h1) (d : Drew v l b h1 h2) : PkgIn v l b b2 b6 T vo h p vs h2 := by
 have hS : ∀ x, x = b → h.get x ≠ none := fun x e => by subst e; exact k.hs.known
 exact ⟨k.q2, k.q6, k.z26, k.n2h, k.n6h, k.hs, d.1.2.1 b6 _ k.q6 k.g6, by rw [d.1.1]; exact k.b6b, d.1.2.1 b2 _ k.q2 k.g2, by rw [d.1.1]; exact k.b2b,
  ⟨k.D.blocks, k.D.digest, k.D.steps, k.D.few, k.D.own.keepS d.1 hS, k.D.old.keepS d.1 hS, k.D.img⟩, k.n6, k.n2, k.o6, k.o2, k.ap, k.W.trans d⟩
theorem PkgIn.ext {v : Value} {l : List UInt8} {b b2 b6 : Nat} {T : List (List UInt8)} {vo : Value} {h : H} {p : UPkg} {vs : Value} {h1 h2 : H} (k : PkgIn v l b b2 b6 T vo h p vs h1) (e : Ext h1 h2) : PkgIn v l b b2 b6 T vo h p vs h2 := k.drew (Drew.of_ext k.W.2 e)
theorem PkgIn.put {v : Value} {l : List UInt8} {b b2 b6 : Nat} {T : List (List UInt8)} {vo : Value} {h : H} {p : UPkg} {vs : Value} {h1 : H} (k : PkgIn v l b b2 b6 T vo h p vs h1) (p' : UPkg) (vs' : Value) (hb : 0 ≤ p'.blocks ∧ p'.blocks ≤ 100) (hd : p'.digest.length ≤ 40) (hst : ∀ s ∈ p'.steps, okd s) (hf : p'.steps.length ≤ 30)
  (ho : Own h h1 vs' 4 (p'.steps.map UStep.cells)) (m6 : ob vs' ≠ some b6) (m2 : ob vs' ≠ some b2) (mp : Ap vo vs') : PkgIn v l b b2 b6 T vo h p' vs' (h1.set b6 ⟨p'.cells vs', 3⟩) :=
 ⟨k.q2, k.q6, k.z26, k.n2h, k.n6h, k.hs, H.set_get_same _ _ _, by rw [H.set_base]; exact k.b6b, by rw [H.set_get_ne _ _ _ _ k.z26]; exact k.g2, by rw [H.set_base]; exact k.b2b,
  ⟨hb, hd, hst, hf, ho.setOb m6 _, k.D.old.setOb k.o6 _, k.D.img⟩, m6, m2, k.o6, k.o2, mp, Drew.set k.W k.n6h k.hs _⟩
theorem ownBN {h0 h1 h : H} {v : Value} {w : Nat} {rows : List (List Value)} (o : Own h1 h v w rows) (e : ∀ b, h1.get b = none → h0.get b = none) : Own h0 h v w rows := by
 rcases o with o | ⟨b, c, z, h1, h2, h3, h4, h5⟩
 ·exact .inl o
 ·exact .inr ⟨b, c, z, h1, h2, h3, e _ h4, h5⟩
end Go.Proofs.YthjbhdmjfakfaaaGreatDoor
namespace Go.Proofs.YthjbhdmjfakfaaaGreatDoor
open Go.KH

theorem xor_xor : ∀ {a b : List UInt8}, a.length = b.length → xorB a (xorB a b) = b
 | [], [], _ => rfl
 | x :: a, y :: b, h => by
  have ih := xor_xor (a := a) (b := b) (by simpa using h)
  show (x ^^^ (x ^^^ y)) :: xorB a (xorB a b) = _
  rw [ih]
  congr 1
  apply UInt8.toBitVec_inj.1
  simp [← BitVec.xor_assoc]
theorem stepFor_make {old : List (List UInt8)} (ho : imageOk old) {d : Nat} {y : List UInt8} (hy : y.length = 8) : makeB (stepFor old d y) (at8 old (stepFor old d y).src) = y := by
 unfold stepFor
 split
 ·rename_i h; simp [makeB, h]
 ·split
  ·rename_i h
   obtain ⟨k, hk, e, hp, _⟩ := firstAt_get h
   simp only [makeB, e]
   have : y = old[k] := by simpa [isP] using hp
   simp [at8, hk, this]
  ·split
   ·rename_i h
    obtain ⟨k, hk, e, eat⟩ := near_get ho h
    simp only [makeB, e, eat]
    simp
    exact xor_xor (by rw [ho.2 _ (List.getElem_mem hk), hy])
   ·simp [makeB]
theorem stepFor_kind (old : List (List UInt8)) (d : Nat) (y : List UInt8) : (stepFor old d y).kind ≠ 5 ∧ (stepFor old d y).dst = d := by
 unfold stepFor
 repeat' split
 all_goals exact ⟨by simp, rfl⟩
theorem stepFor_stepOk {old : List (List UInt8)} (ho : imageOk old) {d : Nat} (hd : d < old.length) {y : List UInt8} (hy : y.length = 8) : stepOk (stepFor old d y) old.length := by
 have h1 := ho.1
 have a1 := firstAt_le (isP y) old
 have a2 := firstAt_le (nearP y) old
 unfold stepFor
 split
 ·refine ⟨by simp, by simp; omega, by simp, by simp⟩
 ·split
  ·refine ⟨by simp, by simp; omega, by simp; omega, by simp⟩
  ·split
   ·rename_i q
    obtain ⟨k, hk, e, eat⟩ := near_get ho q
    have hx := ho.2 _ (List.getElem_mem hk)
    refine ⟨by simp, by simp; omega, by simp; omega, ?_⟩
    simp only [e, eat]
    simp
    rw [xorB_len (by omega), hx]
   ·refine ⟨by simp, by simp; omega, by simp, by simp [hy]⟩
theorem mem_stepsTo {old fresh : List (List UInt8)} {k : Nat} {s : UStep} (h : s ∈ stepsTo old fresh k) : ∃ i, i < k ∧ ¬ old[i]? = fresh[i]? ∧ s = stepFor old i (fresh.getD i []) := by
 unfold stepsTo at h
 obtain ⟨i, hi, e⟩ := List.mem_filterMap.1 h
 split at e
 ·cases e
 ·rename_i hn
  cases e
  exact ⟨i, List.mem_range.1 hi, hn, rfl⟩
theorem of_stepsTo {old fresh : List (List UInt8)} {k i : Nat} (hi : i < k) (hn : ¬ old[i]? = fresh[i]?) : stepFor old i (fresh.getD i []) ∈ stepsTo old fresh k := by
 unfold stepsTo
 exact List.mem_filterMap.2 ⟨i, List.mem_range.2 hi, by rw [if_neg hn]⟩
theorem getD_8 {fresh : List (List UInt8)} (hf : imageOk fresh) {i : Nat} (h : i < fresh.length) : fresh[i]? = some (fresh.getD i []) ∧ (fresh.getD i []).length = 8 := by
 have e : fresh.getD i [] = fresh[i] := by simp [List.getD, List.getElem?_eq_getElem h]
 rw [e]
 exact ⟨List.getElem?_eq_getElem h, hf.2 _ (List.getElem_mem h)⟩
theorem pkg_rising : ∀ (l : List UStep), (∀ s ∈ l, s.kind ≠ 5) → risingFrom (-1) (l ++ [labS]) = true
 | [], _ => rfl
 | s :: l, h => by
  rw [List.cons_append, risingFrom, if_neg (h s (List.mem_cons_self ..))]
  exact pkg_rising l fun x hx => h x (List.mem_cons_of_mem _ hx)
theorem stepsTo_apart (old fresh : List (List UInt8)) : ∀ k, (stepsTo old fresh k).Pairwise fun x y => x.dst ≠ y.dst
 | 0 => by simp [stepsTo]
 | k + 1 => by
  have ih := stepsTo_apart old fresh k
  by_cases h : old[k]? = fresh[k]?
  ·rw [stepsTo_same h]; exact ih
  ·rw [stepsTo_new h, List.pairwise_append]
   refine ⟨ih, by simp, fun x hx y hy => ?_⟩
   obtain ⟨i, hi, _, rfl⟩ := mem_stepsTo hx
   simp only [List.mem_singleton] at hy
   subst hy
   rw [(stepFor_kind ..).2, (stepFor_kind ..).2]
   omega
theorem pkgSteps_code {old fresh : List (List UInt8)} (ho : imageOk old) (hf : imageOk fresh) (hl : old.length = fresh.length) : codeOf (pkgSteps old fresh) old.length = 0 := by
 have h1 := ho.1
 have hlen := pkgSteps_len (old := old) (fresh := fresh) ho
 have hk : ∀ s ∈ stepsTo old fresh old.length, s.kind ≠ 5 := fun s hs => by
  obtain ⟨i, hi, _, rfl⟩ := mem_stepsTo hs
  exact (stepFor_kind ..).1
 have hst : stepsOk (pkgSteps old fresh) old.length := by
  refine ⟨by omega, by omega, fun s hs => ?_⟩
  rcases List.mem_append.1 hs with h | h
  ·obtain ⟨i, hi, _, rfl⟩ := mem_stepsTo h
   exact stepFor_stepOk ho hi (getD_8 hf (by omega)).2
  ·simp only [List.mem_singleton] at h
   subst h
   exact ⟨by simp [labS], by simp [labS], by simp [labS], by simp [labS]⟩
 have ht : ¬ twice (pkgSteps old fresh) := by
  rintro ⟨i, k, hi, hk2, k1, k2, e⟩
  have hp := stepsTo_apart old fresh old.length
  have hin : ∀ j (hj : j < (pkgSteps old fresh).length), ((pkgSteps old fresh)[j]).kind ≠ 5 → ∃ hj2 : j < (stepsTo old fresh old.length).length, (pkgSteps old fresh)[j] = (stepsTo old fresh old.length)[j] := by
   intro j hj h5
   by_cases h : j < (stepsTo old fresh old.length).length
   ·exact ⟨h, by simp only [pkgSteps]; rw [List.getElem_append_left h]⟩
   ·exfalso
    apply h5
    simp only [pkgSteps]
    rw [List.getElem_append_right (by omega)]
    simp [labS]
  obtain ⟨a1, a2⟩ := hin i hi k1
  obtain ⟨b1, b2⟩ := hin k (by omega) k2
  rw [a2, b2] at e
  exact (List.pairwise_iff_getElem.1 hp k i b1 a1 hk2) e.symm
 unfold codeOf
 rw [if_pos hst, if_neg ht, if_pos (show risingFrom (-1) (pkgSteps old fresh) = true from pkg_rising _ hk)]
theorem pkgSteps_apply {old fresh : List (List UInt8)} (ho : imageOk old) (hf : imageOk fresh) (hl : old.length = fresh.length) : applyB old (pkgSteps old fresh) = fresh := by
 obtain ⟨hst, ht, _⟩ := code_zero (pkgSteps_code ho hf hl)
 apply List.ext_getElem?
 intro b
 by_cases hb : b < old.length
 ·have h0 : ∀ s ∈ pkgSteps old fresh, 0 ≤ s.dst := fun s hs => by
   have := (hst.2.2 s hs).2.1
   split at this <;> omega
  obtain ⟨i1, i2⟩ := applyB_touch (im := old) ht h0 hb
  by_cases e : old[b]? = fresh[b]?
  ·rw [i2 fun s hs h5 => ?_, e]
   rcases List.mem_append.1 hs with h | h
   ·obtain ⟨i, hi, hn, rfl⟩ := mem_stepsTo h
    rw [(stepFor_kind ..).2]
    intro q
    exact hn (by rw [show i = b by omega]; exact e)
   ·simp only [List.mem_singleton] at h
    subst h
    exact absurd rfl h5
  ·have hm := of_stepsTo (old := old) (fresh := fresh) hb e
   have g := getD_8 hf (i := b) (by omega)
   rw [i1 _ (List.mem_append_left _ hm) (stepFor_kind ..).1 (stepFor_kind ..).2, stepFor_make ho g.2, g.1]
 ·rw [List.getElem?_eq_none (by rw [applyB_len]; omega), List.getElem?_eq_none (by omega)]
end Go.Proofs.YthjbhdmjfakfaaaGreatDoor
namespace Go.Proofs.YthjbhdmjfakfaaaGreatDoor
open Go.KH

end Go.Proofs.YthjbhdmjfakfaaaGreatDoor
namespace Go.Proofs.YthjbhdmjfakfaaaGreatDoor
open Go.KH

theorem rising_append : ∀ (l m : List UStep) (last : Int), risingFrom last (l ++ m) = true → risingFrom last l = true
 | [], m, last, _ => rfl
 | s :: l, m, last, h => by
  unfold risingFrom at h ⊢
  simp only [List.cons_append] at h
  split at h
  ·rename_i h5
   rw [if_pos h5]
   simp only [Bool.and_eq_true] at h ⊢
   exact ⟨h.1, rising_append l m _ h.2⟩
  ·rename_i h5
   rw [if_neg h5]
   exact rising_append l m _ h
theorem code_take {l : List UStep} {n : Int} {k : Nat} (h : codeOf l n = 0) (hk : k ≤ l.length) : codeOf (l.take k) n = 0 := by
 obtain ⟨h1, h2, h3⟩ := code_zero h
 refine code_ok ⟨?_, h1.2.1, fun s hs => h1.2.2 s (List.mem_of_mem_take hs)⟩ ?_ ?_
 ·have := h1.1; rw [List.length_take]; omega
 ·rintro ⟨i, j, hi, hj, q1, q2, q3⟩
  rw [List.length_take] at hi
  refine h2 ⟨i, j, by omega, hj, ?_, ?_, ?_⟩
  ·simpa using q1
  ·simpa using q2
  ·simpa using q3
 ·have : l = l.take k ++ l.drop k := (List.take_append_drop k l).symm
  rw [this] at h3
  exact rising_append _ _ _ h3
end Go.Proofs.YthjbhdmjfakfaaaGreatDoor
namespace Go.Proofs.YthjbhdmjfakfaaaGreatDoor
open Go.KH

def after (m : UMach) (l : List UAct) : UMach := ⟨m.blocks, actsDo m.flash l⟩
theorem Dev.fin1 {m : UMach} {im : List (List UInt8)} {s : UState} {g : Int} (d : Dev m im s g) : m.flash.fin1 := by
 have := flashOk_small d.fit.2.1
 exact ⟨by omega, by omega⟩
theorem Dev.genOk {m : UMach} {im : List (List UInt8)} {s : UState} {g : Int} (d : Dev m im s g) (hg : g < 1000000) : (metaGet m.flash).1.1.1 ≠ 1000000 := by rw [d.said]; simp only; omega
def Recs (m : UMach) (s : UState) (l : List UStep) : Prop :=
 (∀ i, (hi : i < l.length) → areaOf m (s.mine.getD (s.stash.toNat + i) 0) = recordB ((i : Nat) : Int) l[i]) ∧ ∀ i, l.length ≤ i → s.stash.toNat + i < s.mine.length → areaOf m (s.mine.getD (s.stash.toNat + i) 0) = []
theorem Recs.log {m : UMach} {s : UState} {l : List UStep} (r : Recs m s l) (hl : ∀ x ∈ l, x.ok ∧ stepOk x 8) (h20 : l.length ≤ 20) (hin : s.stash.toNat + l.length ≤ s.mine.length) : logOf m s = l :=
 log_recs hl (by omega) hin r.1 fun h => by rw [r.2 _ (Nat.le_refl _) h]; exact recR_nil _
theorem Recs.same {m m' : UMach} {s : UState} {l : List UStep} (r : Recs m s l) (hok : stateOk s) (hin : s.stash.toNat + l.length ≤ s.mine.length) (h : ∀ n : Int, 0 ≤ n → n < 24 → areaOf m' n = areaOf m n) : Recs m' s l := by
 have hm := (stateOk_log hok).2.2.2
 have hg : ∀ i, i < s.mine.length → 0 ≤ s.mine.getD i 0 ∧ s.mine.getD i 0 < 24 := fun i hi => by
  have := hm (s.mine.getD i 0) (by rw [List.getD_eq_getElem?_getD, List.getElem?_eq_getElem hi]; exact List.getElem_mem hi)
  omega
 refine ⟨fun i hi => ?_, fun i hi h2 => ?_⟩
 ·have := hg (s.stash.toNat + i) (by omega)
  rw [h _ this.1 this.2]; exact r.1 i hi
 ·have := hg (s.stash.toNat + i) h2
  rw [h _ this.1 this.2]; exact r.2 i hi h2
theorem mine_apart {s : UState} (hok : stateOk s) {i j : Nat} (hi : i < s.mine.length) (hj : j < s.mine.length) (h : s.mine.getD i 0 = s.mine.getD j 0) : i = j := by
 rw [List.getD_eq_getElem?_getD, List.getElem?_eq_getElem hi, List.getD_eq_getElem?_getD, List.getElem?_eq_getElem hj] at h
 simp only [Option.getD_some] at h
 rcases Nat.lt_trichotomy i j with q | q | q
 ·have := listOk_lt hok.2.2.1 j i hj q; omega
 ·exact q
 ·have := listOk_lt hok.2.2.1 i j hi q; omega
theorem get_step {m : UMach} {s : UState} {n : Nat} {x : UStep} (ho : flashOk m.flash) (hA : ∀ a ∈ stepActs m s n x, actOk m.flash.sec.length a) {k : Int} (hk : 0 ≤ k ∧ k < m.flash.sec.length) :
  flashGet (actsDo m.flash (stepActs m s n x)) k = if k = 3 + m.blocks + s.mine.getD (s.stash.toNat + n) 0 then recordB n x else flashGet m.flash k := by
 unfold stepActs at hA ⊢
 have h1 := get_act ho (a := ⟨false, 3 + m.blocks + s.mine.getD (s.stash.toNat + n) 0, recordB n x⟩) hk
 simp only [true_and] at h1
 by_cases h5 : x.kind = 5
 ·rw [if_pos h5] at hA ⊢
  show flashGet (actDo (actDo m.flash ⟨false, _, _⟩) ⟨true, 0, []⟩) k = _
  rw [get_act (actDo_ok ho (hA _ (List.mem_cons_self ..))) (by rw [actDo_len]; exact hk), if_neg (by simp), h1]
 ·rw [if_neg h5]
  exact h1
theorem Dev.step {m : UMach} {im : List (List UInt8)} {s : UState} {g : Int} {l : List UStep} {x : UStep} (d : Dev m im s g) (r : Recs m s l) (hn : l.length ≤ 20) (hin : s.stash.toNat + l.length < s.mine.length) (hx : x.ok) (hk : stepOk x m.blocks) :
  Dev (after m (stepActs m s l.length x)) im s g ∧ Recs (after m (stepActs m s l.length x)) s (l ++ [x]) := by
 have hA := stepActs_ok d.fit d.st hn hin hx hk
 have h27 := d.fit.2.2
 have hb := d.fit.1
 have hm := (stateOk_log d.st).2.2.2
 have hg : ∀ i, i < s.mine.length → 0 ≤ s.mine.getD i 0 ∧ s.mine.getD i 0 ≤ 23 := fun i hi =>
  hm (s.mine.getD i 0) (by rw [List.getD_eq_getElem?_getD, List.getElem?_eq_getElem hi]; exact List.getElem_mem hi)
 have hget : ∀ i, i < s.mine.length → areaOf (after m (stepActs m s l.length x)) (s.mine.getD i 0) = if i = s.stash.toNat + l.length then recordB (l.length : Int) x else areaOf m (s.mine.getD i 0) := fun i hi => by
  have h1 := hg i hi
  show flashGet (actsDo m.flash _) (3 + m.blocks + s.mine.getD i 0) = _
  rw [get_step d.fit.2.1 hA (by omega)]
  by_cases h : i = s.stash.toNat + l.length
  ·rw [if_pos h, if_pos (by rw [h])]
  ·rw [if_neg h, if_neg (fun q => h (mine_apart d.st hi hin (by omega)))]; rfl
 refine ⟨(d.acts hA (fun a ha hs => ?_)).1, ⟨fun i hi => ?_, fun i hi h2 => ?_⟩⟩
 ·unfold stepActs at ha
  rcases List.mem_cons.1 ha with rfl | ha
  ·have := hg _ hin
   simp only; omega
  ·split at ha
   ·rw [List.mem_singleton.1 ha] at hs; cases hs
   ·cases ha
 ·simp only [List.length_append, List.length_cons, List.length_nil] at hi
  rw [hget _ (by omega)]
  by_cases h : i = l.length
  ·subst h
   rw [if_pos rfl]; simp
  ·rw [if_neg (by omega), r.1 i (by omega), List.getElem_append_left (by omega)]
 ·simp only [List.length_append, List.length_cons, List.length_nil] at hi
  rw [hget _ h2, if_neg (by omega)]
  exact r.2 i (by omega) h2
theorem Dev.begin {m : UMach} {im : List (List UInt8)} {s : UState} {g : Int} {c : UCmd} {x : Nat} (d : Dev m im s g) (hg : g < 1000000) (hh : s.held = runI 0 x) (ha : 1 ≤ c.a ∧ c.a ≤ 20) (hb : 0 ≤ c.b ∧ c.b ≤ 4) (hd : c.digest.length = 32) (h24 : x + (c.a + c.b).toNat ≤ 24) :
  beginOut m s c x = (wipeAll m (runI x (c.a + c.b).toNat) ++ saveActs m (beginS s c (runI x (c.a + c.b).toNat)), 0) ∧
  Dev (after m (beginOut m s c x).1) im (beginS s c (runI x (c.a + c.b).toNat)) (g + 1) ∧ Recs (after m (beginOut m s c x).1) (beginS s c (runI x (c.a + c.b).toNat)) [] ∧ (after m (beginOut m s c x).1).flash.dirty = [] := by
 have hS2 := beginS_ok (c := c) (x := x) d.st hh ha hb hd h24
 have he : beginOut m s c x = (wipeAll m (runI x (c.a + c.b).toNat) ++ saveActs m (beginS s c (runI x (c.a + c.b).toNat)), 0) := by unfold beginOut; rw [if_pos h24]
 refine ⟨he, ?_⟩
 rw [he]
 obtain ⟨L, hL⟩ : ∃ L, L = runI x (c.a + c.b).toNat := ⟨_, rfl⟩
 rw [← hL] at hS2 ⊢
 have hm : ∀ y ∈ L, 0 ≤ y ∧ y ≤ 23 := fun y hy => by rw [hL] at hy; have := runI_mem hy; omega
 have hA := wipeAll_ok d.fit hm
 have h27 := d.fit.2.2
 have hbl := d.fit.1
 obtain ⟨d1, q1⟩ := d.acts hA (fun a ha hs => by
  unfold wipeAll at ha
  rcases List.mem_append.1 ha with ha | ha
  ·obtain ⟨y, hy, rfl⟩ := List.mem_map.1 ha
   have := hm y hy
   unfold wipe; simp only; omega
  ·rw [List.mem_singleton.1 ha] at hs; cases hs)
 obtain ⟨d2, q2, q3⟩ := d1.save (m0 := m) q1 hS2 hg
 have e : after m (wipeAll m L ++ saveActs m (beginS s c L)) = ⟨m.blocks, actsDo (actsDo m.flash (wipeAll m L)) (saveActs m (beginS s c L))⟩ := by unfold after; rw [actsDo_app]
 simp only
 rw [e]
 refine ⟨d2, ⟨fun i hi => by simp at hi, fun i _ h2 => ?_⟩, q3⟩
 have hy : (beginS s c L).mine.getD ((beginS s c L).stash.toNat + i) 0 ∈ L := by
  show L.getD _ 0 ∈ L
  have h2' : (beginS s c L).stash.toNat + i < L.length := h2
  rw [List.getD_eq_getElem?_getD, List.getElem?_eq_getElem h2']
  exact List.getElem_mem h2'
 generalize (beginS s c L).mine.getD ((beginS s c L).stash.toNat + i) 0 = y at hy
 have h23 := hm y hy
 rw [q2 y h23.1 (by omega)]
 show flashGet (actsDo m.flash (wipeAll m L)) (3 + m.blocks + y) = []
 refine get_wipes (d := []) _ d.fit.2.1 hA (fun a ha => ?_) (by omega) (.inl ⟨wipe m y, ?_, rfl, rfl⟩)
 ·unfold wipeAll at ha
  rcases List.mem_append.1 ha with ha | ha
  ·obtain ⟨z, _, rfl⟩ := List.mem_map.1 ha; rfl
  ·rw [List.mem_singleton.1 ha]
 ·unfold wipeAll
  exact List.mem_append_left _ (List.mem_map.2 ⟨y, hy, rfl⟩)
theorem made_of {A B : List (List UInt8)} (h : (packageOut A B).2 = 0) : imageOk A ∧ imageOk B ∧ A.length = B.length ∧ (packageOut A B).1 = ⟨A.length, shaL B.flatten, pkgSteps A B⟩ := by
 unfold packageOut at h ⊢
 by_cases h1 : 400 < A.length ∨ 400 < B.length
 ·rw [if_pos h1] at h; simp at h
 rw [if_neg h1] at h ⊢
 by_cases h2 : imageOk A ∧ imageOk B ∧ A.length = B.length
 rotate_left
 ·rw [if_pos h2] at h; simp at h
 rw [if_neg (fun q => q h2)]
 exact ⟨h2.1, h2.2.1, h2.2.2, rfl⟩
theorem stepOk_ok {s : UStep} {b : Int} (h : stepOk s b) (hb : b ≤ 8) : s.ok := by
 have e := show maxLen = 9223372036854775807 from rfl
 have hd := stepOk_data h
 obtain ⟨a1, a2, a3, a4⟩ := h
 refine ⟨in64_small (by omega), in64_small ?_, in64_small ?_, by omega⟩
 ·split at a2 <;> omega
 ·split at a3
  ·omega
  ·split at a3 <;> omega
theorem made_steps {A B : List (List UInt8)} (iA : imageOk A) (iB : imageOk B) (hl : A.length = B.length) : ∀ x ∈ pkgSteps A B, x.ok ∧ stepOk x A.length ∧ x.data.length ≤ 8 := fun x hx => by
 have h := (code_zero (pkgSteps_code iA iB hl)).1.2.2 x hx
 have hd := stepOk_data h
 exact ⟨stepOk_ok h (by have := iA.1; omega), h, hd⟩
theorem take_snoc {α : Type} {l : List α} {k : Nat} (hk : k < l.length) : l.take k ++ [l[k]] = l.take (k + 1) := (List.take_succ_eq_append_getElem hk).symm
theorem Dev.blocks {m : UMach} {im : List (List UInt8)} {s : UState} {g : Int} (d : Dev m im s g) : m.blocks = (im.length : Int) := by
 have := (baseOf_len d.fit).2
 rw [d.base] at this
 exact this.symm
end Go.Proofs.YthjbhdmjfakfaaaGreatDoor
namespace Go.Proofs.YthjbhdmjfakfaaaGreatDoor
open Go.KH

def labN (n : Nat) : UStep := ⟨5, 0, n, []⟩
def mixL (W : List UStep) (k : Nat) : List UStep := (List.range k).flatMap fun j => [W.getD j step0, labN j]
def fullL (W : List UStep) : List UStep := mixL W W.length ++ [labN 100]
theorem mix_succ (W : List UStep) (k : Nat) : mixL W (k + 1) = mixL W k ++ [W.getD k step0, labN k] := by
 unfold mixL; rw [List.range_succ, List.flatMap_append]; rfl
theorem mix_len (W : List UStep) : ∀ k, (mixL W k).length = 2 * k
 | 0 => rfl
 | k + 1 => by rw [mix_succ, List.length_append, mix_len W k]; simp; omega
theorem mix_get (W : List UStep) : ∀ k j, j < k → (mixL W k)[2 * j]? = some (W.getD j step0) ∧ (mixL W k)[2 * j + 1]? = some (labN j)
 | 0, j, h => by omega
 | k + 1, j, h => by
  have hl := mix_len W k
  rw [mix_succ]
  by_cases e : j = k
  ·subst e
   rw [List.getElem?_append_right (by omega), List.getElem?_append_right (by omega), hl]
   simp
  ·rw [List.getElem?_append_left (by omega), List.getElem?_append_left (by omega)]
   exact mix_get W k j (by omega)
theorem full_len (W : List UStep) : (fullL W).length = 2 * W.length + 1 := by unfold fullL; rw [List.length_append, mix_len]; rfl
theorem full_get {W : List UStep} {q : Nat} (hq : q < (fullL W).length) : (∃ j, ∃ h : j < W.length, q = 2 * j ∧ (fullL W)[q] = W[j]) ∨ (∃ j, j < W.length ∧ q = 2 * j + 1 ∧ (fullL W)[q] = labN j) ∨ (q = 2 * W.length ∧ (fullL W)[q] = labN 100) := by
 have hl := full_len W
 have hm := mix_len W W.length
 have hg : (fullL W)[q]? = some (fullL W)[q] := List.getElem?_eq_getElem hq
 have hu : (fullL W)[q]? = (mixL W W.length ++ [labN 100])[q]? := rfl
 by_cases h : q = 2 * W.length
 ·right; right
  refine ⟨h, ?_⟩
  rw [hu, List.getElem?_append_right (by omega), hm] at hg
  rw [show q - 2 * W.length = 0 by omega, List.getElem?_cons_zero] at hg
  exact (Option.some.inj hg).symm
 ·rw [hu, List.getElem?_append_left (by omega)] at hg
  rcases Nat.mod_two_eq_zero_or_one q with e | e
  ·left
   refine ⟨q / 2, by omega, by omega, ?_⟩
   have := (mix_get W W.length (q / 2) (by omega)).1
   rw [show 2 * (q / 2) = q by omega, hg] at this
   have h2 := Option.some.inj this
   rw [h2, List.getD_eq_getElem?_getD, List.getElem?_eq_getElem (by omega)]; rfl
  ·right; left
   refine ⟨q / 2, by omega, by omega, ?_⟩
   have := (mix_get W W.length (q / 2) (by omega)).2
   rw [show 2 * (q / 2) + 1 = q by omega, hg] at this
   exact Option.some.inj this
theorem lab_kind (n : Nat) : (labN n).kind = 5 := rfl
theorem lab_ok {n : Nat} (hn : n ≤ 1000000) : (labN n).ok ∧ (∀ b : Int, stepOk (labN n) b) ∧ (labN n).data.length ≤ 8 := by
 refine ⟨⟨?_, ?_, ?_, ?_⟩, fun b => ⟨?_, ?_, ?_, ?_⟩, ?_⟩
 ·exact in64_small (show -1000000000 ≤ (5 : Int) ∧ (5 : Int) ≤ 1000000000 by omega)
 ·exact in64_small (show -1000000000 ≤ (0 : Int) ∧ (0 : Int) ≤ 1000000000 by omega)
 ·exact in64_small (show -1000000000 ≤ (n : Int) ∧ (n : Int) ≤ 1000000000 by omega)
 ·have e := show maxLen = 9223372036854775807 from rfl
  show ([] : List UInt8).length ≤ maxLen
  simp
 ·exact ⟨show (1 : Int) ≤ 5 by omega, show (5 : Int) ≤ 5 by omega⟩
 ·rw [if_pos (lab_kind n)]; rfl
 ·rw [if_pos (lab_kind n)]; exact ⟨show (0 : Int) ≤ (n : Int) by omega, show (n : Int) ≤ 1000000 by omega⟩
 ·rw [if_neg (by rw [lab_kind]; decide)]; rfl
 ·show ([] : List UInt8).length ≤ 8; simp
structure Wr (W : List UStep) (n : Nat) : Prop where
 few : W.length ≤ 8
 kinds : ∀ x ∈ W, x.kind ≠ 5
 oks : ∀ x ∈ W, x.ok ∧ stepOk x n ∧ x.data.length ≤ 8
 apart : W.Pairwise fun x y => x.dst ≠ y.dst
 room : 1 ≤ n ∧ n ≤ 8
theorem Wr.mem {W : List UStep} {n : Nat} (w : Wr W n) : ∀ x ∈ fullL W, x.ok ∧ stepOk x n ∧ x.data.length ≤ 8 := fun x hx => by
 have h8 := w.few
 obtain ⟨q, hq, rfl⟩ := List.getElem_of_mem hx
 rcases full_get hq with ⟨j, hj, _, e⟩ | ⟨j, hj, _, e⟩ | ⟨_, e⟩
 ·rw [e]; exact w.oks _ (List.getElem_mem hj)
 ·rw [e]; have := lab_ok (n := j) (by omega); exact ⟨this.1, this.2.1 _, this.2.2⟩
 ·rw [e]; have := lab_ok (n := 100) (by omega); exact ⟨this.1, this.2.1 _, this.2.2⟩
theorem rising_mix (W : List UStep) (hk : ∀ x ∈ W, x.kind ≠ 5) : ∀ k, k ≤ W.length → (mixL W k).foldl labStep (true, -1) = (true, (k : Int) - 1)
 | 0, _ => rfl
 | k + 1, h => by
  have hw : W.getD k step0 = W[k]'(by omega) := by rw [List.getD_eq_getElem?_getD, List.getElem?_eq_getElem (by omega)]; rfl
  have h5 := hk _ (List.getElem_mem (show k < W.length by omega))
  rw [mix_succ, List.foldl_append, rising_mix W hk k (by omega), hw, List.foldl_cons, List.foldl_cons, List.foldl_nil]
  unfold labStep
  rw [if_neg h5, if_pos (lab_kind k)]
  have e : (labN k).src = (k : Int) := rfl
  simp only [e, Bool.true_and, Prod.mk.injEq, decide_eq_true_eq]
  omega
theorem Wr.code {W : List UStep} {n : Nat} (w : Wr W n) : codeOf (fullL W) n = 0 := by
 have h8 := w.few
 have hl := full_len W
 have hr := w.room
 refine code_ok ⟨by omega, by omega, fun s hs => (w.mem s hs).2.1⟩ ?_ ?_
 ·rintro ⟨i, k, hi, hk, q1, q2, q3⟩
  rcases full_get hi with ⟨j, hj, ei, e⟩ | ⟨j, hj, _, e⟩ | ⟨_, e⟩
  ·rcases full_get (show k < (fullL W).length by omega) with ⟨j2, hj2, ek, e2⟩ | ⟨j2, hj2, _, e2⟩ | ⟨_, e2⟩
   ·rw [e, e2] at q3
    exact List.pairwise_iff_getElem.1 w.apart j2 j hj2 hj (by omega) q3.symm
   ·exact q2 (by rw [e2]; rfl)
   ·exact q2 (by rw [e2]; rfl)
  ·exact q1 (by rw [e]; rfl)
  ·exact q1 (by rw [e]; rfl)
 ·have h1 := lab_fold (fullL W) true (-1)
  unfold fullL at h1
  rw [List.foldl_append, rising_mix W w.kinds _ (Nat.le_refl _)] at h1
  simp only [List.foldl_cons, List.foldl_nil, Bool.true_and] at h1
  unfold fullL
  rw [← h1]
  unfold labStep
  rw [if_pos (lab_kind 100)]
  have e : (labN 100).src = 100 := rfl
  simp only [e, Bool.true_and, decide_eq_true_eq]
  omega
theorem mix_filter (W : List UStep) (hk : ∀ x ∈ W, x.kind ≠ 5) : ∀ k, k ≤ W.length → (mixL W k).filter isW = W.take k
 | 0, _ => by simp [mixL]
 | k + 1, h => by
  have hw : W.getD k step0 = W[k]'(by omega) := by rw [List.getD_eq_getElem?_getD, List.getElem?_eq_getElem (by omega)]; rfl
  have h5 := hk _ (List.getElem_mem (show k < W.length by omega))
  rw [mix_succ, List.filter_append, mix_filter W hk k (by omega), hw, List.take_succ_eq_append_getElem (by omega)]
  congr 1
  have e1 : isW (W[k]'(by omega)) = true := by simp [isW, h5]
  have e2 : isW (labN k) = false := by simp [isW, labN]
  rw [List.filter_cons_of_pos e1, List.filter_cons_of_neg (by simp [e2]), List.filter_nil]
theorem full_filter {W : List UStep} (hk : ∀ x ∈ W, x.kind ≠ 5) : (fullL W).filter isW = W := by
 unfold fullL
 rw [List.filter_append, mix_filter W hk _ (Nat.le_refl _), List.take_length]
 have e2 : isW (labN 100) = false := by simp [isW, labN]
 rw [List.filter_cons_of_neg (by simp [e2]), List.filter_nil, List.append_nil]
theorem kept_snoc (l : List UStep) {k : Nat} (hk : k < l.length) : kept (l.take (k + 1)) = if l[k].kind = 5 then (k : Int) + 1 else kept (l.take k) := foldi_take _ _ _ _ hk
theorem full_kept {W : List UStep} (hk : ∀ x ∈ W, x.kind ≠ 5) : ∀ q, q ≤ (fullL W).length → kept ((fullL W).take q) = if q % 2 = 0 ∨ q = 2 * W.length + 1 then (q : Int) else (q : Int) - 1
 | 0, _ => by rw [List.take_zero, if_pos (.inl rfl)]; rfl
 | q + 1, h => by
  have hl := full_len W
  rw [kept_snoc _ (by omega)]
  rcases full_get (show q < (fullL W).length by omega) with ⟨j, hj, ei, e⟩ | ⟨j, hj, ei, e⟩ | ⟨ei, e⟩
  ·rw [e, if_neg (hk _ (List.getElem_mem hj)), full_kept hk q (by omega), if_pos (.inl (by omega)), if_neg (by omega)]
   push_cast; omega
  ·rw [e, if_pos (lab_kind j), if_pos (.inl (by omega))]; rfl
  ·rw [e, if_pos (lab_kind 100), if_pos (.inr (by omega))]; rfl
theorem Wr.slots {W : List UStep} {n : Nat} (w : Wr W n) : slots (planB ((fullL W).filter isW)) ≤ 4 := by
 have h8 := w.few
 rw [full_filter w.kinds]
 obtain ⟨k, _, h2, h3⟩ := plan_has w.apart
 have h4 := congrArg List.length h2
 simp only [List.length_map, List.length_range] at h4
 have h5 : Proofs.YthjbhdmjfakfaaaGreatDoor.slots (planB W) = ((stashes (planB W)).length : Int) := rfl
 omega
end Go.Proofs.YthjbhdmjfakfaaaGreatDoor