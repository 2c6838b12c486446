/- A helper of this seat's claims (contracts of the functions): what it shows is shown for every input that its statements name, on no other condition. -/
import Derived.Test.YthjbhdmjfakfaaaGreatDoorMCZj
set_option linter.unusedVariables false
set_option linter.unusedSimpArgs false
set_option maxRecDepth 100000
namespace Go.Proofs.YthjbhdmjfakfaaaGreatDoor
open Go.KH

theorem torn_take (r : List UInt8) (fate : Int) : ∃ j, tornB [] r fate = r.take j := by
 unfold tornB
 split
 ·exact ⟨0, by simp⟩
 ·split
  ·exact ⟨r.length, by simp⟩
  ·exact ⟨_, rfl⟩
theorem crash_ok {f : UFlash} (h : flashOk f) (fs : List Int) : flashOk (crashF f fs) := by
 have hs : ∀ k, k ≤ f.dirty.length → ∀ s ∈ crashS f.sec f.dirty fs k, s.length ≤ 96 := by
  intro k
  induction k with
  | zero => intro _; exact h.2.2.1
  | succ k ih =>
   intro hk s hs
   rw [crashS_step (by omega)] at hs
   rcases List.mem_or_eq_of_mem_set hs with h1 | h1
   ·exact ih (by omega) s h1
   ·rw [h1]
    refine tornB_len _ ?_ (h.2.2.2 k (by omega)).2.1
    rw [List.getD_eq_getElem?_getD]
    cases hg : f.sec[(f.dirty[k]'(by omega)).place.toNat]? with
    | none => simp
    | some t => exact h.2.2.1 t (List.mem_of_getElem? hg)
 refine ⟨by unfold crashF; rw [crashS_len]; exact h.1, by simp [crashF], hs _ (Nat.le_refl _), fun i hi => by simp [crashF] at hi⟩
theorem crash_none {f : UFlash} (h : f.dirty = []) (fs : List Int) : crashF f fs = f := by
 obtain ⟨sec, dirty⟩ := f
 simp only at h
 subst h
 rfl
theorem crash_one {f : UFlash} {d : UDirty} (h : f.dirty = [d]) (h0 : 0 ≤ d.place ∧ d.place < f.sec.length) (fs : List Int) {x : Int} (hx : 0 ≤ x) : flashGet (crashF f fs) x = if x = d.place then tornB (f.sec.getD d.place.toNat []) d.data (fateAt fs 0) else flashGet f x := by
 rw [flashGet_clean (f := crashF f fs) (fun i hi => by simp [crashF] at hi)]
 unfold crashF
 rw [h]
 show (crashS f.sec [d] fs 1).getD x.toNat [] = _
 rw [crashS_step (by simp)]
 simp only [List.getElem_cons_zero, crashS]
 by_cases e : x = d.place
 ·subst e
  rw [if_pos rfl, List.getD_eq_getElem?_getD, List.getElem?_set_self (by omega)]; rfl
 ·rw [if_neg e, List.getD_eq_getElem?_getD, List.getElem?_set_ne (by omega), flashGet_clean (fun i hi => by
   rw [h] at hi
   simp only [List.length_cons, List.length_nil] at hi
   obtain rfl : i = 0 := by omega
   simp only [h, List.getElem_cons_zero]; exact fun q => e q.symm), List.getD_eq_getElem?_getD]
theorem crash_two {f : UFlash} {d e : UDirty} (h : f.dirty = [d, e]) (hd : 0 ≤ d.place ∧ d.place < f.sec.length) (he : 0 ≤ e.place ∧ e.place < f.sec.length) (hne : d.place ≠ e.place) (fs : List Int) {x : Int} (hx : 0 ≤ x) :
  flashGet (crashF f fs) x = if x = d.place then tornB (f.sec.getD d.place.toNat []) d.data (fateAt fs 0) else if x = e.place then tornB (f.sec.getD e.place.toNat []) e.data (fateAt fs 1) else flashGet f x := by
 rw [flashGet_clean (f := crashF f fs) (fun i hi => by simp [crashF] at hi)]
 unfold crashF
 rw [h]
 show (crashS f.sec [d, e] fs 2).getD x.toNat [] = _
 rw [crashS_step (by simp), crashS_step (by simp)]
 simp only [List.getElem_cons_zero, List.getElem_cons_succ, crashS]
 by_cases e1 : x = d.place
 ·subst e1
  rw [if_pos rfl, List.getD_eq_getElem?_getD, List.getElem?_set_ne (by omega), List.getElem?_set_self (by omega)]; rfl
 ·rw [if_neg e1]
  by_cases e2 : x = e.place
  ·subst e2
   rw [if_pos rfl, List.getD_eq_getElem?_getD, List.getElem?_set_self (by rw [List.length_set]; omega)]; rfl
  ·rw [if_neg e2, List.getD_eq_getElem?_getD, List.getElem?_set_ne (by omega), List.getElem?_set_ne (by omega), flashGet_clean (fun i hi => by
    rw [h] at hi
    simp only [List.length_cons, List.length_nil] at hi
    rcases (show i = 0 ∨ i = 1 by omega) with rfl | rfl
    ·simp only [h, List.getElem_cons_zero]; exact fun q => e1 q.symm
    ·simp only [h, List.getElem_cons_succ, List.getElem_cons_zero]; exact fun q => e2 q.symm), List.getD_eq_getElem?_getD]
def placeOf (m : UMach) (s : UState) (i : Nat) : Int := 3 + m.blocks + s.mine.getD (s.stash.toNat + i) 0
theorem place_in {m : UMach} {s : UState} (hf : machFit m) (hok : stateOk s) {i : Nat} (hi : s.stash.toNat + i < s.mine.length) : 3 + m.blocks ≤ placeOf m s i ∧ placeOf m s i < m.flash.sec.length := by
 have h27 := hf.2.2
 have := (stateOk_log hok).2.2.2 (s.mine.getD (s.stash.toNat + i) 0) (by rw [List.getD_eq_getElem?_getD, List.getElem?_eq_getElem hi]; exact List.getElem_mem hi)
 unfold placeOf
 omega
theorem place_apart {m : UMach} {s : UState} (hok : stateOk s) {i j : Nat} (hi : s.stash.toNat + i < s.mine.length) (hj : s.stash.toNat + j < s.mine.length) (h : placeOf m s i = placeOf m s j) : i = j := by
 unfold placeOf at h
 have := mine_apart hok hi hj (by omega)
 omega
theorem Dev.swap {m : UMach} {im : List (List UInt8)} {s : UState} {g : Int} (d : Dev m im s g) {f : UFlash} (ho : flashOk f) (hl : f.sec.length = m.flash.sec.length) (hk : ∀ x : Int, 0 ≤ x → x < 3 + m.blocks → flashGet f x = flashGet m.flash x) : Dev ⟨m.blocks, f⟩ im s g := by
 have hb := d.fit.1
 have hm : metaGet f = metaGet m.flash := metaGet_same (hk 0 (by omega) (by omega)) (hk 1 (by omega) (by omega))
 refine ⟨⟨hb, ho, by show (f.sec.length : Int) = _; rw [hl]; exact d.fit.2.2⟩, ?_, d.img, by show (metaGet f).1 = _; rw [hm]; exact d.said, d.st⟩
 rw [← d.base]
 exact base_same rfl fun k h0 h1 => hk k (by omega) h1
def Half (m : UMach) (s : UState) (l : List UStep) (q : Nat) : Prop :=
 (∀ i, (hi : i < l.length) → i < q → flashGet m.flash (placeOf m s i) = recordB ((i : Nat) : Int) l[i]) ∧ (∀ i, q < i → s.stash.toNat + i < s.mine.length → flashGet m.flash (placeOf m s i) = []) ∧ (s.stash.toNat + q < s.mine.length → (recR (flashGet m.flash (placeOf m s q)) ((q : Nat) : Int)).2 ≠ 0)
theorem Half.log {m : UMach} {s : UState} {l : List UStep} {q : Nat} (r : Half m s l q) (hl : ∀ x ∈ l, x.ok ∧ stepOk x 8) (h20 : l.length ≤ 20) (hq : q ≤ l.length) (hin : s.stash.toNat + q ≤ s.mine.length) : logOf m s = l.take q := by
 have hlen : (l.take q).length = q := by rw [List.length_take]; omega
 refine log_recs (fun x hx => hl x (List.mem_of_mem_take hx)) (by omega) (by omega) (fun i hi => ?_) (fun h => ?_)
 ·rw [hlen] at hi
  rw [List.getElem_take]
  exact r.1 i (by omega) hi
 ·rw [hlen] at h ⊢
  exact r.2.2 h
theorem Recs.half {m : UMach} {s : UState} {l : List UStep} {k : Nat} (r : Recs m s (l.take k)) (hk : k ≤ l.length) : Half m s l k := by
 have hlen : (l.take k).length = k := by rw [List.length_take]; omega
 obtain ⟨r1, r2⟩ := r
 rw [hlen] at r2
 refine ⟨fun i hi hq => ?_, fun i hi h => r2 i (by omega) h, fun h => ?_⟩
 ·have := r1 i (by omega)
  rw [List.getElem_take] at this
  exact this
 ·have := r2 k (Nat.le_refl _) h
  unfold placeOf
  have e : flashGet m.flash (3 + m.blocks + s.mine.getD (s.stash.toNat + k) 0) = [] := this
  rw [e]; exact recR_nil _
theorem torn_half {m : UMach} {s : UState} {l : List UStep} {j y : Nat} (hj : j < l.length) (h : ∀ i, s.stash.toNat + i < s.mine.length → flashGet m.flash (placeOf m s i) = if i = j then (recordB ((j : Nat) : Int) l[j]).take y else if hi : i < j then recordB ((i : Nat) : Int) (l[i]'(by omega)) else [])
  (hin : ∀ i, i < l.length → s.stash.toNat + i < s.mine.length) : ∃ q, (q = j ∨ q = j + 1) ∧ Half m s l q := by
 by_cases hy : y < (recordB ((j : Nat) : Int) l[j]).length
 ·refine ⟨j, .inl rfl, fun i hi hq => ?_, fun i hi hr => ?_, fun hr => ?_⟩
  ·rw [h i (hin i hi), if_neg (by omega), dif_pos hq]
  ·rw [h i hr, if_neg (by omega), dif_neg (by omega)]
  ·rw [h j hr, if_pos rfl]
   exact recR_cut hy
 ·refine ⟨j + 1, .inr rfl, fun i hi hq => ?_, fun i hi hr => ?_, fun hr => ?_⟩
  ·by_cases e : i = j
   ·subst e
    rw [h i (hin i hi), if_pos rfl, List.take_of_length_le (by omega)]
   ·rw [h i (hin i hi), if_neg e, dif_pos (by omega)]
  ·rw [h i hr, if_neg (by omega), dif_neg (by omega)]
  ·rw [h (j + 1) hr, if_neg (by omega), dif_neg (by omega)]
   exact recR_nil _
theorem Dev.boot {m : UMach} {im : List (List UInt8)} {s : UState} {g : Int} {l : List UStep} {q κ : Nat} (d : Dev m im s g) (p2 : s.phase = 2) (hd : m.flash.dirty = []) (hh : Half m s l q) (hl : ∀ x ∈ l, x.ok ∧ stepOk x 8) (h20 : l.length ≤ 20) (hq : q ≤ l.length) (hin : s.stash.toNat + l.length ≤ s.mine.length)
  (hκ : kept (l.take q) = (κ : Int)) (hκq : κ ≤ q) : Dev (bootM m s) im s g ∧ Recs (bootM m s) s (l.take κ) ∧ (bootM m s).flash.dirty = [] := by
 have hlog : logOf m s = l.take q := hh.log hl h20 hq (by omega)
 have h5 := d.st.2.2.2.2
 rw [if_neg (by omega)] at h5
 have hat : loadAt m s = s.stash.toNat + κ := by unfold loadAt; rw [hlog, hκ]; omega
 have hA : ∀ a ∈ bootActs m s, actOk m.flash.sec.length a := bootActs_ok d.fit d.st
 have hB : bootActs m s = syncs (wipes m (s.mine.drop (s.stash.toNat + κ))) := by unfold bootActs; rw [if_pos p2]; unfold loadActs; rw [hat]
 have hmem : ∀ a ∈ bootActs m s, a.data = [] ∧ (a.sync = false → ∃ i, κ ≤ i ∧ s.stash.toNat + i < s.mine.length ∧ a.place = placeOf m s i) := fun a ha => by
  rw [hB] at ha
  have hw : ∀ a ∈ wipes m (s.mine.drop (s.stash.toNat + κ)), a.data = [] ∧ (a.sync = false → ∃ i, κ ≤ i ∧ s.stash.toNat + i < s.mine.length ∧ a.place = placeOf m s i) := fun a ha => by
   unfold wipes at ha
   obtain ⟨y, hy, rfl⟩ := List.mem_map.1 ha
   refine ⟨rfl, fun _ => ?_⟩
   obtain ⟨t, ht, e⟩ := List.getElem_of_mem (List.mem_filter.1 hy).1
   rw [List.length_drop] at ht
   rw [List.getElem_drop] at e
   refine ⟨κ + t, by omega, by omega, ?_⟩
   unfold placeOf wipe
   simp only
   rw [List.getD_eq_getElem?_getD, List.getElem?_eq_getElem (show s.stash.toNat + (κ + t) < s.mine.length by omega), ← e]
   simp only [Option.getD_some, Nat.add_assoc]
  unfold syncs at ha
  split at ha
  ·rcases List.mem_append.1 ha with ha | ha
   ·exact hw a ha
   ·rw [List.mem_singleton.1 ha]; exact ⟨rfl, fun h => by cases h⟩
  ·exact hw a ha
 have hpl := fun i hi => place_in (m := m) (i := i) d.fit d.st hi
 have hget : ∀ i, i < κ → s.stash.toNat + i < s.mine.length → flashGet (bootM m s).flash (placeOf m s i) = flashGet m.flash (placeOf m s i) := fun i hi hr => by
  have h1 := hpl i hr
  have hb := d.fit.1
  refine get_acts _ d.fit.2.1 hA (by omega) fun a ha hs e => ?_
  obtain ⟨j, hj, hr2, e2⟩ := (hmem a ha).2 hs
  have := place_apart d.st hr hr2 (by rw [e, e2])
  omega
 have hwip : ∀ i, κ ≤ i → s.stash.toNat + i < s.mine.length → flashGet (bootM m s).flash (placeOf m s i) = [] := fun i hi hr => by
  have h1 := hpl i hr
  have hb := d.fit.1
  refine get_wipes (d := []) _ d.fit.2.1 hA (fun a ha => (hmem a ha).1) (by omega) ?_
  by_cases h0 : flashGet m.flash (placeOf m s i) = []
  ·exact .inr h0
  ·left
   refine ⟨wipe m (s.mine.getD (s.stash.toNat + i) 0), ?_, rfl, rfl⟩
   have hw : wipe m (s.mine.getD (s.stash.toNat + i) 0) ∈ wipes m (s.mine.drop (s.stash.toNat + κ)) := by
    unfold wipes
    refine List.mem_map.2 ⟨_, List.mem_filter.2 ⟨?_, by unfold isFull; exact decide_eq_true h0⟩, rfl⟩
    rw [List.getD_eq_getElem?_getD, List.getElem?_eq_getElem hr]
    refine List.mem_iff_getElem.2 ⟨i - κ, by rw [List.length_drop]; omega, ?_⟩
    rw [List.getElem_drop]
    simp only [Option.getD_some, show s.stash.toNat + κ + (i - κ) = s.stash.toNat + i by omega]
   rw [hB]
   unfold syncs
   split
   ·exact List.mem_append_left _ hw
   ·exact hw
 have hlen : (l.take κ).length = κ := by rw [List.length_take]; omega
 refine ⟨(d.acts hA (fun a ha hs => ?_)).1, ⟨fun i hi => ?_, fun i hi hr => ?_⟩, ?_⟩
 ·obtain ⟨i, _, hr, e⟩ := (hmem a ha).2 hs
  rw [e]; exact (hpl i hr).1
 ·rw [hlen] at hi
  rw [List.getElem_take]
  have := hget i hi (by omega)
  rw [hh.1 i (by omega) (by omega)] at this
  exact this
 ·rw [hlen] at hi
  exact hwip i hi hr
 ·show (actsDo m.flash (bootActs m s)).dirty = []
  rw [hB]
  unfold syncs
  split
  ·rw [actsDo_app]; rfl
  ·rename_i h0
   have : wipes m (s.mine.drop (s.stash.toNat + κ)) = [] := List.length_eq_zero_iff.1 (by omega)
   rw [this]; exact hd
end Go.Proofs.YthjbhdmjfakfaaaGreatDoor
namespace Go.Proofs.YthjbhdmjfakfaaaGreatDoor
open Go.KH

def Loose (m : UMach) (s : UState) (l : List UStep) (k : Nat) : Prop :=
 if k % 2 = 0 ∨ k = l.length then m.flash.dirty = [] else ∃ h : k - 1 < l.length, m.flash.dirty = [⟨placeOf m s (k - 1), recordB ((k - 1 : Nat) : Int) l[k - 1]⟩] ∧ m.flash.sec.getD (placeOf m s (k - 1)).toNat [] = []
theorem full_label {W : List UStep} (hk : ∀ x ∈ W, x.kind ≠ 5) {k : Nat} (h : k < (fullL W).length) : (fullL W)[k].kind = 5 ↔ k % 2 = 1 ∨ k + 1 = (fullL W).length := by
 have hl := full_len W
 rcases full_get h with ⟨j, hj, ei, e⟩ | ⟨j, hj, ei, e⟩ | ⟨ei, e⟩
 ·rw [e]
  have := hk _ (List.getElem_mem hj)
  constructor
  ·intro q; exact absurd q this
  ·intro q; omega
 ·rw [e]; simp only [lab_kind, true_iff]; omega
 ·rw [e]; simp only [lab_kind, true_iff]; omega
theorem clean_sec {f : UFlash} (h : f.dirty = []) (x : Int) : flashGet f x = f.sec.getD x.toNat [] := flashGet_clean (fun i hi => by simp [h] at hi)
theorem put_clean {f : UFlash} (h : f.dirty = []) (p : Int) (d : List UInt8) : flashPut f p d = ⟨f.sec, [⟨p, d⟩]⟩ := by
 rw [flashPut_new (fun i hi => by simp [h] at hi), h]; rfl
structure At (m : UMach) (im : List (List UInt8)) (s : UState) (g : Int) (W : List UStep) (k : Nat) : Prop where
 dev : Dev m im s g
 recs : Recs m s ((fullL W).take k)
 loose : Loose m s (fullL W) k
 wr : Wr W im.length
 load : s.phase = 2
 mine : s.mine.length = s.stash.toNat + (fullL W).length
 le : k ≤ (fullL W).length
section
variable {m : UMach} {im : List (List UInt8)} {s : UState} {g : Int} {W : List UStep} {k : Nat}
theorem At.blocks (a : At m im s g W k) : m.blocks = (im.length : Int) := a.dev.blocks
theorem At.ok8 (a : At m im s g W k) : ∀ x ∈ fullL W, x.ok ∧ stepOk x 8 := fun x hx => ⟨(a.wr.mem x hx).1, stepOk_wide (a.wr.mem x hx).2.1 (by have := a.wr.room; omega)⟩
theorem At.l20 (a : At m im s g W k) : (fullL W).length ≤ 20 := by have := full_len W; have := a.wr.few; omega
theorem At.tlen (a : At m im s g W k) : ((fullL W).take k).length = k := by rw [List.length_take]; have := a.le; omega
theorem At.log (a : At m im s g W k) : logOf m s = (fullL W).take k :=
 a.recs.log (fun x hx => a.ok8 x (List.mem_of_mem_take hx)) (by rw [a.tlen]; have := a.l20; have := a.le; omega) (by rw [a.tlen]; have := a.mine; have := a.le; omega)
theorem At.get (a : At m im s g W k) {i : Nat} (hr : s.stash.toNat + i < s.mine.length) : flashGet m.flash (placeOf m s i) = if hi : i < k then recordB ((i : Nat) : Int) ((fullL W)[i]'(by have := a.le; omega)) else [] := by
 have ht := a.tlen
 split
 ·rename_i hi
  have := a.recs.1 i (by omega)
  rw [List.getElem_take] at this
  exact this
 ·rename_i hi
  exact a.recs.2 i (by omega) hr
theorem At.acts_ok (a : At m im s g W k) (hk : k < (fullL W).length) : ∀ x ∈ stepActs m s k (fullL W)[k], actOk m.flash.sec.length x := by
 have h := a.wr.mem _ (List.getElem_mem hk)
 exact stepActs_ok a.dev.fit a.dev.st (by have := a.l20; omega) (by have := a.mine; omega) h.1 (by rw [a.blocks]; exact h.2.1)
theorem At.step (a : At m im s g W k) (hk : k < (fullL W).length) : At (after m (stepActs m s k (fullL W)[k])) im s g W (k + 1) := by
 have h := a.wr.mem _ (List.getElem_mem hk)
 have ht := a.tlen
 have hm := a.mine
 have h20 := a.l20
 obtain ⟨d1, r1⟩ := a.dev.step (x := (fullL W)[k]) a.recs (by omega) (by omega) h.1 (by rw [a.blocks]; exact h.2.1)
 rw [ht] at d1 r1
 rw [take_snoc hk] at r1
 refine ⟨d1, r1, ?_, a.wr, a.load, hm, hk⟩
 have hl := full_len W
 have hlab := full_label a.wr.kinds hk
 have hL := a.loose
 unfold Loose at hL ⊢
 by_cases h5 : (fullL W)[k].kind = 5
 ·rw [if_pos (by have := hlab.1 h5; omega)]
  show (actsDo m.flash (stepActs m s k (fullL W)[k])).dirty = []
  unfold stepActs
  rw [if_pos h5]; rfl
 ·have h6 : ¬ (k % 2 = 1 ∨ k + 1 = (fullL W).length) := fun q => h5 (hlab.2 q)
  rw [if_pos (by omega)] at hL
  rw [if_neg (by omega)]
  refine ⟨by omega, ?_⟩
  have e : (after m (stepActs m s k (fullL W)[k])).flash = ⟨m.flash.sec, [⟨placeOf m s k, recordB (k : Int) (fullL W)[k]⟩]⟩ := by
   unfold after stepActs
   rw [if_neg h5]
   exact put_clean hL _ _
  rw [e]
  simp only [Nat.add_sub_cancel]
  refine ⟨rfl, ?_⟩
  show m.flash.sec.getD (placeOf m s k).toNat [] = []
  rw [← clean_sec hL, a.get (by omega), dif_neg (by omega)]
def Left (m : UMach) (im : List (List UInt8)) (s : UState) (g : Int) (W : List UStep) (k : Nat) : Prop :=
 Dev m im s g ∧ m.flash.dirty = [] ∧ ∃ q κ : Nat, Half m s (fullL W) q ∧ kept ((fullL W).take q) = (κ : Int) ∧ k ≤ κ + 1 ∧ κ ≤ k + 1 ∧ (κ % 2 = 0 ∨ κ = (fullL W).length) ∧ κ ≤ q ∧ q ≤ (fullL W).length
theorem left_of {mc : UMach} (a : At m im s g W k) (dc : Dev mc im s g) (hd : mc.flash.dirty = []) {q : Nat} (hh : Half mc s (fullL W) q) (hq : q ≤ (fullL W).length) (h1 : q % 2 = 0 ∨ q = (fullL W).length → k ≤ q + 1 ∧ q ≤ k + 1) (h2 : q % 2 = 1 → q ≠ (fullL W).length → q = k ∨ q = k + 1) : Left mc im s g W k := by
 have hl := full_len W
 have hκ := full_kept a.wr.kinds q hq
 by_cases h : q % 2 = 0 ∨ q = 2 * W.length + 1
 ·rw [if_pos h] at hκ
  obtain ⟨x1, x2⟩ := h1 (by omega)
  exact ⟨dc, hd, q, q, hh, hκ, x1, x2, by omega, Nat.le_refl _, hq⟩
 ·rw [if_neg h] at hκ
  have h3 := h2 (by omega) (by omega)
  refine ⟨dc, hd, q, q - 1, hh, by rw [hκ]; omega, by omega, by omega, .inl (by omega), by omega, hq⟩
theorem At.cut (a : At m im s g W k) (hk : k < (fullL W).length) {n fate : Int} (hn : 0 ≤ n) : Left ⟨m.blocks, cutF m.flash (stepActs m s k (fullL W)[k]) n [fate]⟩ im s g W k := by
 have hb := a.dev.fit.1
 have hl := full_len W
 have hm := a.mine
 have hA := a.acts_ok hk
 have ho := a.dev.fit.2.1
 have hlab := full_label a.wr.kinds hk
 have hL := a.loose
 have hpl := fun i hi => place_in (m := m) (i := i) a.dev.fit a.dev.st hi
 have hpk := hpl k (by omega)
 have hin : ∀ i, i < (fullL W).length → s.stash.toNat + i < s.mine.length := fun i hi => by omega
 have one : ∀ (f : UFlash) (j : Nat) (hj : j < (fullL W).length), flashOk f → f.sec.length = m.flash.sec.length → f.dirty = [⟨placeOf m s j, recordB (j : Int) (fullL W)[j]⟩] → f.sec.getD (placeOf m s j).toNat [] = [] → (j = k ∨ (j + 1 = k ∧ k % 2 = 1)) → (j % 2 = 0) →
   (∀ x : Int, 0 ≤ x → x < m.flash.sec.length → x ≠ placeOf m s k → flashGet f x = flashGet m.flash x) → (j + 1 = k → flashGet f (placeOf m s k) = []) → Left ⟨m.blocks, crashF f [fate]⟩ im s g W k := by
  intro f j hj hof hsl hdf hsf hjk hj2 hsame hnext
  obtain ⟨y, hy⟩ := torn_take (recordB (j : Int) (fullL W)[j]) (fateAt [fate] 0)
  have hpj := hpl j (hin j hj)
  have hc : ∀ x : Int, 0 ≤ x → flashGet (crashF f [fate]) x = if x = placeOf m s j then (recordB (j : Int) (fullL W)[j]).take y else flashGet f x := fun x hx => by
   rw [crash_one hdf ⟨by simp only; omega, by simp only; omega⟩ [fate] hx]
   simp only
   rw [hsf, hy]
  have dc : Dev ⟨m.blocks, crashF f [fate]⟩ im s g := a.dev.swap (crash_ok hof _) (by unfold crashF; rw [crashS_len]; exact hsl) fun x h0 h1 => by
   rw [hc x h0, if_neg (by omega), hsame x h0 (by omega) (by omega)]
  obtain ⟨q, hq, hh⟩ := torn_half (m := ⟨m.blocks, crashF f [fate]⟩) (s := s) (l := fullL W) (j := j) (y := y) hj (fun i hi => by
   have hpi := hpl i hi
   show flashGet (crashF f [fate]) (placeOf m s i) = _
   rw [hc _ (by omega)]
   by_cases e : i = j
   ·subst e; rw [if_pos rfl, if_pos rfl]
   ·rw [if_neg (fun q => e (place_apart a.dev.st hi (hin j hj) q)), if_neg e]
    by_cases e2 : i = k
    ·subst e2
     rw [hnext (by omega), dif_neg (by omega)]
    ·rw [hsame _ (by omega) hpi.2 (fun q => e2 (place_apart a.dev.st hi (hin k hk) q)), a.get hi]
     by_cases e3 : i < k
     ·rw [dif_pos e3, dif_pos (by omega)]
     ·rw [dif_neg e3, dif_neg (by omega)]) hin
  exact left_of a dc rfl hh (by omega) (fun _ => by omega) (fun _ _ => by omega)
 have nothing : Left ⟨m.blocks, crashF m.flash [fate]⟩ im s g W k := by
  unfold Loose at hL
  by_cases h0 : k % 2 = 0
  ·rw [if_pos (.inl h0)] at hL
   rw [crash_none hL]
   exact left_of a a.dev hL (a.recs.half a.le) a.le (fun _ => by omega) (fun h _ => by omega)
  ·rw [if_neg (by omega)] at hL
   obtain ⟨hj, hd, hs⟩ := hL
   exact one m.flash (k - 1) hj ho rfl hd hs (.inr ⟨by omega, by omega⟩) (by omega) (fun x _ _ _ => rfl) (fun _ => by rw [a.get (hin k hk), dif_neg (by omega)])
 obtain ⟨t, ht⟩ : ∃ t : Nat, t = n.toNat := ⟨_, rfl⟩
 unfold cutF
 rw [← ht]
 by_cases t0 : t = 0
 ·rw [t0, List.take_zero]; exact nothing
 have hput := get_put m.flash (placeOf m s k)
 by_cases h5 : (fullL W)[k].kind = 5
 ·by_cases t1 : t = 1
  ·have e : (stepActs m s k (fullL W)[k]).take t = [⟨false, placeOf m s k, recordB (k : Int) (fullL W)[k]⟩] := by
    rw [t1]; unfold stepActs; rfl
   rw [e]
   show Left ⟨m.blocks, crashF (flashPut m.flash (placeOf m s k) (recordB (k : Int) (fullL W)[k])) [fate]⟩ im s g W k
   have hofp : flashOk (flashPut m.flash (placeOf m s k) (recordB (k : Int) (fullL W)[k])) := by
    have := hA _ (List.mem_cons_self ..) rfl
    exact flashPut_ok ho this.1 this.2
   unfold Loose at hL
   by_cases h0 : k % 2 = 0
   ·rw [if_pos (.inl h0)] at hL
    refine one _ k hk hofp (flashPut_len _ _ _) (by rw [put_clean hL]) (by rw [put_clean hL]; show m.flash.sec.getD _ [] = []; rw [← clean_sec hL, a.get (hin k hk), dif_neg (by omega)]) (.inl rfl) h0 (fun x _ _ hx => by rw [hput, if_neg hx]) (fun q => by omega)
   ·rw [if_neg (by omega)] at hL
    obtain ⟨hj, hd, hs⟩ := hL
    have hpj := hpl (k - 1) (hin _ hj)
    have hne : placeOf m s (k - 1) ≠ placeOf m s k := fun q => by
     have := place_apart a.dev.st (hin _ hj) (hin k hk) q; omega
    have hpn : flashPut m.flash (placeOf m s k) (recordB (k : Int) (fullL W)[k]) = ⟨m.flash.sec, [⟨placeOf m s (k - 1), recordB ((k - 1 : Nat) : Int) (fullL W)[k - 1]⟩, ⟨placeOf m s k, recordB (k : Int) (fullL W)[k]⟩]⟩ := by
     rw [flashPut_new (fun i hi => by
      rw [hd] at hi
      simp only [List.length_cons, List.length_nil] at hi
      obtain rfl : i = 0 := by omega
      simp only [hd, List.getElem_cons_zero]; exact hne), hd]; rfl
    have hsk : m.flash.sec.getD (placeOf m s k).toNat [] = [] := by
     have h1 := a.get (hin k hk)
     rw [dif_neg (by omega)] at h1
     refine Eq.trans (Eq.symm (flashGet_clean (fun i hi => ?_))) h1
     rw [hd] at hi
     simp only [List.length_cons, List.length_nil] at hi
     obtain rfl : i = 0 := by omega
     simp only [hd, List.getElem_cons_zero]; exact hne
    obtain ⟨y, hy⟩ := torn_take (recordB ((k - 1 : Nat) : Int) (fullL W)[k - 1]) (fateAt [fate] 0)
    have hc : ∀ x : Int, 0 ≤ x → flashGet (crashF (flashPut m.flash (placeOf m s k) (recordB (k : Int) (fullL W)[k])) [fate]) x = if x = placeOf m s (k - 1) then (recordB ((k - 1 : Nat) : Int) (fullL W)[k - 1]).take y else if x = placeOf m s k then [] else flashGet m.flash x := fun x hx => by
     rw [crash_two (f := flashPut m.flash (placeOf m s k) (recordB (k : Int) (fullL W)[k])) (by rw [hpn]) ⟨by simp only; omega, by rw [flashPut_len]; simp only; omega⟩ ⟨by simp only; omega, by rw [flashPut_len]; simp only; omega⟩ hne [fate] hx]
     rw [hput]
     simp only [hpn]
     rw [hs, hsk, hy]
     by_cases e1 : x = placeOf m s (k - 1)
     ·rw [if_pos e1, if_pos e1]
     ·rw [if_neg e1, if_neg e1]
      by_cases e2 : x = placeOf m s k
      ·rw [if_pos e2, if_pos e2]; rfl
      ·rw [if_neg e2, if_neg e2, if_neg e2]
    have dc : Dev ⟨m.blocks, crashF (flashPut m.flash (placeOf m s k) (recordB (k : Int) (fullL W)[k])) [fate]⟩ im s g := a.dev.swap (crash_ok hofp _) (by unfold crashF; rw [crashS_len]; exact flashPut_len _ _ _) fun x h0 h1 => by
     rw [hc x h0, if_neg (by omega), if_neg (by omega)]
    obtain ⟨q, hq, hh⟩ := torn_half (m := ⟨m.blocks, crashF (flashPut m.flash (placeOf m s k) (recordB (k : Int) (fullL W)[k])) [fate]⟩) (s := s) (l := fullL W) (j := k - 1) (y := y) hj (fun i hi => by
     have hpi := hpl i hi
     show flashGet (crashF _ [fate]) (placeOf m s i) = _
     rw [hc _ (by omega)]
     by_cases e : i = k - 1
     ·subst e; rw [if_pos rfl, if_pos rfl]
     ·rw [if_neg (fun q => e (place_apart a.dev.st hi (hin _ hj) q)), if_neg e]
      by_cases e2 : i = k
      ·subst e2; rw [if_pos rfl, dif_neg (by omega)]
      ·rw [if_neg (fun q => e2 (place_apart a.dev.st hi (hin k hk) q)), a.get hi]
       by_cases e3 : i < k
       ·rw [dif_pos e3, dif_pos (by omega)]
       ·rw [dif_neg e3, dif_neg (by omega)]) hin
    exact left_of a dc rfl hh (by omega) (fun _ => by omega) (fun _ _ => by omega)
  ·have e : (stepActs m s k (fullL W)[k]).take t = stepActs m s k (fullL W)[k] := by
    refine List.take_of_length_le ?_
    unfold stepActs
    rw [if_pos h5]
    simp only [List.length_cons, List.length_nil]; omega
   rw [e]
   have a1 := a.step hk
   have hd1 : (actsDo m.flash (stepActs m s k (fullL W)[k])).dirty = [] := by unfold stepActs; rw [if_pos h5]; rfl
   rw [crash_none hd1]
   have h6 := hlab.1 h5
   exact left_of a a1.dev hd1 (a1.recs.half a1.le) a1.le (fun _ => by omega) (fun h7 h8 => .inr rfl)
 ·have e : (stepActs m s k (fullL W)[k]).take t = [⟨false, placeOf m s k, recordB (k : Int) (fullL W)[k]⟩] := by
   unfold stepActs
   rw [if_neg h5]
   exact List.take_of_length_le (by simp only [List.length_cons, List.length_nil]; omega)
  rw [e]
  show Left ⟨m.blocks, crashF (flashPut m.flash (placeOf m s k) (recordB (k : Int) (fullL W)[k])) [fate]⟩ im s g W k
  have hofp : flashOk (flashPut m.flash (placeOf m s k) (recordB (k : Int) (fullL W)[k])) := by
   have := hA _ (List.mem_cons_self ..) rfl
   exact flashPut_ok ho this.1 this.2
  have h6 : ¬ (k % 2 = 1 ∨ k + 1 = (fullL W).length) := fun q => h5 (hlab.2 q)
  unfold Loose at hL
  rw [if_pos (by omega)] at hL
  exact one _ k hk hofp (flashPut_len _ _ _) (by rw [put_clean hL]) (by rw [put_clean hL]; show m.flash.sec.getD _ [] = []; rw [← clean_sec hL, a.get (hin k hk), dif_neg (by omega)]) (.inl rfl) (by omega) (fun x _ _ hx => by rw [hput, if_neg hx]) (fun q => by omega)
theorem Left.boot (a : At m im s g W k) {mc : UMach} (h : Left mc im s g W k) : ∃ κ : Nat, At (bootM mc s) im s g W κ ∧ k ≤ κ + 1 ∧ κ ≤ k + 1 ∧ bootOut mc = (bootM mc s, 0) ∧ kept ((fullL W).take κ) = (κ : Int) := by
 obtain ⟨d, hd, q, κ, hh, hκ, h1, h2, h3, h4, h5⟩ := h
 obtain ⟨d1, r1, hd1⟩ := d.boot a.load hd hh a.ok8 a.l20 h5 (by have := a.mine; omega) hκ h4
 have hl := full_len W
 refine ⟨κ, ⟨d1, r1, ?_, a.wr, a.load, a.mine, by omega⟩, h1, h2, ?_, ?_⟩
 ·unfold Loose; rw [if_pos h3]; exact hd1
 ·unfold bootOut; rw [d.stM]
 ·rw [full_kept a.wr.kinds κ (by omega), if_pos (by omega)]
end
end Go.Proofs.YthjbhdmjfakfaaaGreatDoor