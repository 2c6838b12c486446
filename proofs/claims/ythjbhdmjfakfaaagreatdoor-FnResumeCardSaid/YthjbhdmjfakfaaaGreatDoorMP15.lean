/- A helper of this seat's claims (plain laws): what it shows is shown for every input that its statements name, on no other condition. -/
import Derived.Test.YthjbhdmjfakfaaaGreatDoorKD
import Derived.Test.YthjbhdmjfakfaaaGreatDoorMC14y
import Derived.Test.YthjbhdmjfakfaaaGreatDoorMC14z
import Derived.Test.YthjbhdmjfakfaaaGreatDoorC14n
set_option linter.unusedVariables false
set_option linter.unusedSimpArgs false
namespace Go.KH

theorem flashGet_find (f : UFlash) (n : Int) : flashGet f n = match f.dirty.find? (isAt n) with | some d => d.data | none => f.sec.getD n.toNat [] := by
 by_cases h : 0 ≤ firstAt (isAt n) f.dirty
 ·obtain ⟨k, hk, he, hp, hno⟩ := firstAt_get h
  have hf : f.dirty.find? (isAt n) = some f.dirty[k] := by
   rw [List.find?_eq_some_iff_getElem]
   exact ⟨hp, k, hk, rfl, fun j hj => by simp [hno j hj]⟩
  rw [hf, flashGet_dirty hk (by simpa [isAt] using hp) (fun i hi => by simpa [isAt] using hno i hi)]
 ·have hno : ∀ i, (hi : i < f.dirty.length) → f.dirty[i].place ≠ n := fun i hi => by simpa [isAt] using firstAt_neg h i hi
  have hf : f.dirty.find? (isAt n) = none := by
   rw [List.find?_eq_none]
   intro d hd
   obtain ⟨i, hi, rfl⟩ := List.getElem_of_mem hd
   simpa [isAt] using hno i hi
  rw [hf, flashGet_clean hno]
theorem find_set {l : List UDirty} {n : Int} {d : List UInt8} : ∀ {k : Nat} (hk : k < l.length), l[k].place = n → (∀ i, (hi : i < k) → (l[i]'(by omega)).place ≠ n) → ∀ m, (l.set k ⟨n, d⟩).find? (isAt m) = if m = n then some ⟨n, d⟩ else l.find? (isAt m) := by
 induction l with
 | nil => intro k hk; simp at hk
 | cons x l ih =>
  intro k hk hp hn m
  cases k with
  | zero =>
   simp only [List.getElem_cons_zero] at hp
   rw [List.set_cons_zero]
   by_cases h : m = n
   ·subst h; rw [if_pos rfl]; simp [isAt]
   ·rw [if_neg h]
    have e1 : isAt m ⟨n, d⟩ = false := by simp [isAt]; exact fun q => h q.symm
    have e2 : isAt m x = false := by simp [isAt]; rw [hp]; exact fun q => h q.symm
    rw [List.find?_cons_of_neg (by simp [e1]), List.find?_cons_of_neg (by simp [e2])]
  | succ k =>
   have h0 := hn 0 (by omega)
   simp only [List.getElem_cons_zero] at h0
   rw [List.set_cons_succ]
   have hi := ih (k := k) (by simpa using hk) (by simpa using hp) (fun i hi => by simpa using hn (i + 1) (by omega)) m
   by_cases h : isAt m x = true
   ·have : m ≠ n := fun q => by subst q; simp [isAt] at h; exact h0 h
    rw [List.find?_cons_of_pos h, List.find?_cons_of_pos h, if_neg this]
   ·rw [List.find?_cons_of_neg h, List.find?_cons_of_neg h, hi]
theorem get_put (f : UFlash) (n m : Int) (d : List UInt8) : flashGet (flashPut f n d) m = if m = n then d else flashGet f m := by
 rw [flashGet_find, flashGet_find]
 by_cases h0 : 0 ≤ firstAt (isAt n) f.dirty
 ·obtain ⟨k, hk, he, hp, hno⟩ := firstAt_get h0
  have hp' : f.dirty[k].place = n := by simpa [isAt] using hp
  have hno' : ∀ i, (hi : i < k) → (f.dirty[i]'(by omega)).place ≠ n := fun i hi => by simpa [isAt] using hno i hi
  rw [flashPut_at hk hp' hno']
  simp only
  rw [find_set hk hp' hno' m]
  by_cases h : m = n
  ·rw [if_pos h, if_pos h]
  ·rw [if_neg h, if_neg h]
 ·have hno : ∀ i, (hi : i < f.dirty.length) → f.dirty[i].place ≠ n := fun i hi => by simpa [isAt] using firstAt_neg h0 i hi
  rw [flashPut_new hno]
  simp only
  rw [List.find?_append]
  by_cases h : m = n
  ·subst h
   have hf : f.dirty.find? (isAt m) = none := by
    rw [List.find?_eq_none]
    intro d hd
    obtain ⟨i, hi, rfl⟩ := List.getElem_of_mem hd
    simpa [isAt] using hno i hi
   rw [hf, if_pos rfl]
   simp [isAt]
  ·rw [if_neg h]
   have e1 : isAt m ⟨n, d⟩ = false := by simp [isAt]; exact fun q => h q.symm
   cases f.dirty.find? (isAt m) <;> simp [e1]
theorem syncS_get {p : Nat} : ∀ (ds : List UDirty) (l : List (List UInt8)), ds.Pairwise (fun x y => x.place ≠ y.place) → (∀ d ∈ ds, 0 ≤ d.place) → p < l.length →
  (syncS l ds).getD p [] = match ds.find? (isAt p) with | some d => d.data | none => l.getD p []
 | [], l, _, _, _ => by simp [syncS]
 | d :: ds, l, hw, h0, hp => by
  obtain ⟨w1, w2⟩ := List.pairwise_cons.1 hw
  have hd := h0 d (List.mem_cons_self ..)
  unfold syncS
  rw [syncS_get ds _ w2 (fun x hx => h0 x (List.mem_cons_of_mem _ hx)) (by rw [List.length_set]; exact hp)]
  by_cases h : d.place = p
  ·have hf : ds.find? (isAt (p : Int)) = none := by
    rw [List.find?_eq_none]
    intro x hx
    have := w1 x hx
    simp only [isAt, decide_eq_true_eq]
    omega
   rw [hf, List.find?_cons_of_pos (by simp [isAt, h])]
   simp only
   have e : d.place.toNat = p := by omega
   rw [e, List.getD_eq_getElem?_getD, List.getElem?_set_self (by simpa using hp)]
   rfl
  ·rw [List.find?_cons_of_neg (by simp [isAt, h])]
   have e : d.place.toNat ≠ p := by omega
   cases ds.find? (isAt (p : Int)) with
   | some x => rfl
   | none =>
    simp only
    rw [List.getD_eq_getElem?_getD, List.getD_eq_getElem?_getD, List.getElem?_set_ne e]
theorem flashOk_apart {f : UFlash} (h : flashOk f) : f.dirty.Pairwise (fun x y => x.place ≠ y.place) ∧ ∀ d ∈ f.dirty, 0 ≤ d.place ∧ d.place < f.sec.length := by
 constructor
 ·rw [List.pairwise_iff_getElem]
  intro i j hi hj hij
  exact (h.2.2.2 j hj).2.2 i hij
 ·intro d hd
  obtain ⟨i, hi, rfl⟩ := List.getElem_of_mem hd
  have := (h.2.2.2 i hi).1
  omega
theorem get_sync {f : UFlash} (h : flashOk f) {m : Int} (hm : 0 ≤ m ∧ m < f.sec.length) : flashGet (flashSync f) m = flashGet f m := by
 obtain ⟨h1, h2⟩ := flashOk_apart h
 obtain ⟨p, rfl⟩ : ∃ p : Nat, m = p := ⟨m.toNat, by omega⟩
 rw [flashGet_find, flashGet_find]
 unfold flashSync
 simp only [List.find?_nil, Int.toNat_natCast]
 exact syncS_get f.dirty f.sec h1 (fun d hd => (h2 d hd).1) (by omega)
theorem get_act {f : UFlash} (h : flashOk f) {a : UAct} {m : Int} (hm : 0 ≤ m ∧ m < f.sec.length) : flashGet (actDo f a) m = if a.sync = false ∧ m = a.place then a.data else flashGet f m := by
 unfold actDo
 cases hs : a.sync with
 | true => rw [if_pos rfl, if_neg (by simp)]; exact get_sync h hm
 | false => rw [if_neg (by simp), get_put]; simp
theorem get_acts : ∀ (l : List UAct) {f : UFlash}, flashOk f → (∀ a ∈ l, actOk f.sec.length a) → ∀ {m : Int}, 0 ≤ m ∧ m < f.sec.length → (∀ a ∈ l, a.sync = false → m ≠ a.place) → flashGet (actsDo f l) m = flashGet f m
 | [], f, _, _, m, _, _ => rfl
 | a :: l, f, h, hk, m, hm, hn => by
  show flashGet (actsDo (actDo f a) l) m = _
  rw [get_acts l (actDo_ok h (hk a (List.mem_cons_self ..))) (fun x hx => by rw [actDo_len]; exact hk x (List.mem_cons_of_mem _ hx)) (by rw [actDo_len]; exact hm) (fun x hx => hn x (List.mem_cons_of_mem _ hx)), get_act h hm, if_neg]
  intro q
  exact hn a (List.mem_cons_self ..) q.1 q.2
theorem actsDo_app (f : UFlash) (a b : List UAct) : actsDo f (a ++ b) = actsDo (actsDo f a) b := by unfold actsDo; rw [List.foldl_append]
theorem get_wipes {d : List UInt8} : ∀ (l : List UAct) {f : UFlash}, flashOk f → (∀ a ∈ l, actOk f.sec.length a) → (∀ a ∈ l, a.data = d) → ∀ {m : Int}, 0 ≤ m ∧ m < f.sec.length → (∃ a ∈ l, a.sync = false ∧ m = a.place) ∨ flashGet f m = d → flashGet (actsDo f l) m = d
 | [], f, _, _, _, m, _, hx => by
  rcases hx with ⟨a, h, _⟩ | h
  ·cases h
  ·exact h
 | a :: l, f, h, hk, hd, m, hm, hx => by
  show flashGet (actsDo (actDo f a) l) m = _
  refine get_wipes l (actDo_ok h (hk a (List.mem_cons_self ..))) (fun x hx => by rw [actDo_len]; exact hk x (List.mem_cons_of_mem _ hx)) (fun x hx => hd x (List.mem_cons_of_mem _ hx)) (by rw [actDo_len]; exact hm) ?_
  rw [get_act h hm]
  rcases hx with ⟨x, h1, h2, h3⟩ | h1
  ·rcases List.mem_cons.1 h1 with rfl | h1
   ·right; rw [if_pos ⟨h2, h3⟩]; exact hd x (List.mem_cons_self ..)
   ·left; exact ⟨x, h1, h2, h3⟩
  ·right
   split
   ·exact hd a (List.mem_cons_self ..)
   ·exact h1
end Go.KH
set_option maxRecDepth 100000
namespace Go.Proofs.YthjbhdmjfakfaaaGreatDoor
open Go.KH

theorem metaR_put {n : Int} {x : List UInt8} (hn : 1 ≤ n ∧ n ≤ 1000000) (hx : x.length ≤ 80) : metaR (metaB n x) = ((n, x), 0) := by
 have hu : unsealB (metaB n x) = (putNum n ++ putText x, 0) := unsealB_put _
 have hg := getN_put (t := putNum n ++ putText x) (a := 0) (r := putText x) (n := n) rfl (by omega)
 rw [Nat.zero_add] at hg
 have hd : (putNum n ++ putText x).drop (putNum n).length = putText x ++ [] := by rw [List.drop_left, List.append_nil]
 have ht := getT_put hd (by omega) (by simp)
 have hl : (putNum n).length + (putText x).length = (putNum n ++ putText x).length := by simp
 unfold metaR
 rw [hu, if_pos rfl, metaI_ok ⟨_, hg, ht⟩, if_pos ⟨hl, hn, hx⟩]
theorem metaGet_same {f f' : UFlash} (h0 : flashGet f' 0 = flashGet f 0) (h1 : flashGet f' 1 = flashGet f 1) : metaGet f' = metaGet f := by
 unfold metaGet; rw [h0, h1]
theorem metaActs_same {f f' : UFlash} (h : metaGet f' = metaGet f) (t : List UInt8) : metaActsOf f' t = metaActsOf f t := by
 unfold metaActsOf; rw [h]
theorem metaGet_save {f : UFlash} {t : List UInt8} (ho : flashOk f) (h2 : 2 ≤ f.sec.length) (ht : t.length ≤ 80) (hg : (metaGet f).1.1.1 < 1000000) :
  (metaGet (actsDo f (metaActsOf f t))).1 = (((metaGet f).1.1.1 + 1, t), 0) ∧ (∀ n : Int, 2 ≤ n → n < f.sec.length → flashGet (actsDo f (metaActsOf f t)) n = flashGet f n) ∧ (actsDo f (metaActsOf f t)).dirty = [] := by
 have hok := metaActs_ok (f := f) h2 ht
 have hlen := metaGet_len f
 have hl : metaActsOf f t = [⟨false, if (metaGet f).2 = 0 then 1 else 0, metaB ((metaGet f).1.1.1 + 1) t⟩, ⟨true, 0, []⟩] := by
  unfold metaActsOf; rw [if_neg (by omega)]
 rw [hl] at hok ⊢
 obtain ⟨w, hw⟩ : ∃ w : Int, w = if (metaGet f).2 = 0 then 1 else 0 := ⟨_, rfl⟩
 rw [← hw] at hok ⊢
 have hwr : w = 0 ∨ w = 1 := by rw [hw]; split <;> simp
 have ha1 := hok _ (List.mem_cons_self ..)
 have hput := metaR_put (n := (metaGet f).1.1.1 + 1) (x := t) (by omega) ht
 generalize metaB ((metaGet f).1.1.1 + 1) t = B at *
 have ho1 := actDo_ok ho ha1
 have hG : ∀ n : Int, 0 ≤ n → n < f.sec.length → flashGet (actsDo f [⟨false, w, B⟩, ⟨true, 0, []⟩]) n = if n = w then B else flashGet f n := fun n h0 h1 => by
  show flashGet (actDo (actDo f ⟨false, w, B⟩) ⟨true, 0, []⟩) n = _
  rw [get_act ho1 (by rw [actDo_len]; exact ⟨h0, h1⟩), if_neg (by simp), get_act ho ⟨h0, h1⟩]
  simp
 refine ⟨?_, fun n h2 hn => ?_, rfl⟩
 ·have g0 := hG 0 (by omega) (by omega)
  have g1 := hG 1 (by omega) (by omega)
  generalize actsDo f [⟨false, w, B⟩, ⟨true, 0, []⟩] = f' at *
  obtain ⟨a, ha⟩ : ∃ a, metaR (flashGet f 0) = a := ⟨_, rfl⟩
  obtain ⟨b, hb⟩ : ∃ b, metaR (flashGet f 1) = b := ⟨_, rfl⟩
  have hM : metaGet f = if a.2 = 0 ∧ (b.2 ≠ 0 ∨ b.1.1 ≤ a.1.1) then (a, 0) else if b.2 = 0 then (b, 1) else (((0, []), 6), -1) := by rw [← ha, ← hb]; rfl
  by_cases c1 : a.2 = 0 ∧ (b.2 ≠ 0 ∨ b.1.1 ≤ a.1.1)
  ·rw [if_pos c1] at hM
   rw [hM] at hw hput ⊢
   simp only [if_pos] at hw
   subst hw
   rw [if_neg (by omega)] at g0
   rw [if_pos rfl] at g1
   unfold metaGet
   rw [g0, g1, ha, hput]
   simp only
   rw [if_neg (by simp only [not_and, not_or]; intro _; exact ⟨by simp, by omega⟩), if_pos trivial]
  ·rw [if_neg c1] at hM
   by_cases c2 : b.2 = 0
   ·rw [if_pos c2] at hM
    rw [hM] at hw hput ⊢
    simp only [show ¬ ((1 : Int) = 0) by omega, if_false] at hw
    subst hw
    rw [if_pos rfl] at g0
    rw [if_neg (by omega)] at g1
    unfold metaGet
    rw [g0, g1, hb, hput]
    simp only
    rw [if_pos ⟨trivial, .inr (by omega)⟩]
   ·rw [if_neg c2] at hM
    rw [hM] at hw hput ⊢
    simp only [show ¬ ((-1 : Int) = 0) by omega, if_false] at hw
    subst hw
    rw [if_pos rfl] at g0
    rw [if_neg (by omega)] at g1
    unfold metaGet
    rw [g0, g1, hb, hput]
    simp only
    rw [if_pos ⟨trivial, .inl c2⟩]
 ·rw [hG n (by omega) hn, if_neg (by omega)]
structure Dev (m : UMach) (im : List (List UInt8)) (s : UState) (g : Int) : Prop where
 fit : machFit m
 base : baseOf m = im
 img : imageOk im
 said : (metaGet m.flash).1 = ((g, stateB s), 0)
 st : stateOk s
theorem Dev.stM {m : UMach} {im : List (List UInt8)} {s : UState} {g : Int} (d : Dev m im s g) : stM m = some s := by
 unfold Proofs.YthjbhdmjfakfaaaGreatDoor.stM
 rw [if_pos ⟨d.fit, by rw [d.said]⟩, d.said]
 exact stI_put d.st
theorem Dev.right {m : UMach} {im : List (List UInt8)} {s : UState} {g : Int} (d : Dev m im s g) (hs : soundM m s) : rightOut m = true := by
 unfold rightOut
 rw [d.stM]
 exact decide_eq_true ⟨by rw [d.base]; exact d.img, hs⟩
theorem base_same {m m' : UMach} (hb : m'.blocks = m.blocks) (h : ∀ k : Int, 3 ≤ k → k < 3 + m.blocks → flashGet m'.flash k = flashGet m.flash k) : baseOf m' = baseOf m := by
 unfold baseOf baseTo
 rw [hb]
 refine List.map_congr_left fun j hj => h _ (by omega) ?_
 have := List.mem_range.1 hj
 omega
theorem machFit_acts {m : UMach} {l : List UAct} (hf : machFit m) (hl : ∀ a ∈ l, actOk m.flash.sec.length a) : machFit ⟨m.blocks, actsDo m.flash l⟩ :=
 ⟨hf.1, actsDo_ok l hf.2.1 hl, by show ((actsDo m.flash l).sec.length : Int) = _; rw [actsDo_len]; exact hf.2.2⟩
theorem Dev.acts {m : UMach} {im : List (List UInt8)} {s : UState} {g : Int} (d : Dev m im s g) {l : List UAct} (hl : ∀ a ∈ l, actOk m.flash.sec.length a) (ha : ∀ a ∈ l, a.sync = false → 3 + m.blocks ≤ a.place) :
  Dev ⟨m.blocks, actsDo m.flash l⟩ im s g ∧ metaGet (actsDo m.flash l) = metaGet m.flash := by
 have hb := d.fit.1
 have h27 := d.fit.2.2
 have hk : ∀ k : Int, 0 ≤ k → k < 3 + m.blocks → flashGet (actsDo m.flash l) k = flashGet m.flash k := fun k h0 h1 =>
  get_acts l d.fit.2.1 hl ⟨h0, by omega⟩ fun a h hs => by have := ha a h hs; omega
 have hm : metaGet (actsDo m.flash l) = metaGet m.flash := metaGet_same (hk 0 (by omega) (by omega)) (hk 1 (by omega) (by omega))
 refine ⟨⟨machFit_acts d.fit hl, ?_, d.img, by show (metaGet (actsDo m.flash l)).1 = _; rw [hm]; exact d.said, d.st⟩, hm⟩
 rw [← d.base]
 exact base_same rfl fun k h0 h1 => hk k (by omega) h1
theorem Dev.save {m m0 : UMach} {im : List (List UInt8)} {s s' : UState} {g : Int} (d : Dev m im s g) (h0 : metaGet m.flash = metaGet m0.flash) (h : stateOk s') (hg : g < 1000000) :
  Dev ⟨m.blocks, actsDo m.flash (saveActs m0 s')⟩ im s' (g + 1) ∧ (∀ n : Int, 0 ≤ n → n < 24 → areaOf ⟨m.blocks, actsDo m.flash (saveActs m0 s')⟩ n = areaOf m n) ∧ (actsDo m.flash (saveActs m0 s')).dirty = [] := by
 have hb := d.fit.1
 have h27 := d.fit.2.2
 have h46 := stateB_46 h
 have e : saveActs m0 s' = metaActsOf m.flash (stateB s') := (metaActs_same h0 _).symm
 rw [e]
 obtain ⟨q1, q2, q3⟩ := metaGet_save (f := m.flash) (t := stateB s') d.fit.2.1 (by omega) (by omega) (by rw [d.said]; exact hg)
 rw [d.said] at q1
 refine ⟨⟨machFit_acts d.fit (metaActs_ok (by omega) (by omega)), ?_, d.img, q1, h⟩, fun n h0 h1 => ?_, q3⟩
 ·rw [← d.base]
  exact base_same rfl fun k h0 h1 => q2 k (by omega) (by omega)
 ·exact q2 (3 + m.blocks + n) (by omega) (by omega)
theorem flash0_get (l : List (List UInt8)) (n : Int) : flashGet (flash0 l) n = (sec0 l).getD n.toNat [] := flashGet_clean (fun i hi => by simp [flash0] at hi)
theorem metaR_nil : (metaR []).2 ≠ 0 := by
 unfold metaR
 have : unsealB ([] : List UInt8) = ([], 4) := rfl
 rw [this]
 simp
theorem new_meta {l : List (List UInt8)} (h : imageOk l) : metaGet (flash0 l) = (((0, []), 6), -1) := by
 have e : ∀ n : Nat, n < 3 → flashGet (flash0 l) n = [] := fun n hn => by
  rw [flash0_get, Int.toNat_natCast]
  unfold sec0
  rw [List.append_assoc, List.getD_eq_getElem?_getD, List.getElem?_append_left (by simpa using hn), List.getElem?_replicate_of_lt hn]; rfl
 have e0 : flashGet (flash0 l) 0 = [] := e 0 (by omega)
 have e1 : flashGet (flash0 l) 1 = [] := e 1 (by omega)
 have hn := metaR_nil
 unfold metaGet
 rw [e0, e1]
 simp only
 rw [if_neg (fun q => hn q.1), if_neg hn]
theorem new_dev {l : List (List UInt8)} (h : imageOk l) : Dev (machNew l) l idle0 1 ∧ (∀ n : Int, 0 ≤ n → n < 24 → areaOf (machNew l) n = []) ∧ (machNew l).flash.dirty = [] := by
 have ho := flash0_ok h
 have hs : (flash0 l).sec.length = 27 + l.length := sec0_len l
 have h18 := h.1
 have h46 := stateB_46 idle0_ok
 obtain ⟨q1, q2, q3⟩ := metaGet_save (f := flash0 l) (t := stateB idle0) ho (by omega) (by omega) (by rw [new_meta h]; simp)
 rw [new_meta h] at q1
 have hf : machFit (machNew l) := ⟨by show 1 ≤ (l.length : Int) ∧ (l.length : Int) ≤ 8; omega, actsDo_ok _ ho (metaActs_ok (by omega) (by omega)), by show ((actsDo (flash0 l) _).sec.length : Int) = 27 + (l.length : Int); rw [actsDo_len, hs]; omega⟩
 refine ⟨⟨hf, ?_, h, q1, idle0_ok⟩, fun n h0 h1 => ?_, q3⟩
 ·unfold baseOf baseTo
  refine List.ext_getElem (by simp [machNew]) fun i h1 h2 => ?_
  simp only [List.getElem_map, List.getElem_range]
  show flashGet (actsDo (flash0 l) _) _ = _
  rw [q2 _ (by omega) (by omega), flash0_get]
  unfold sec0
  rw [List.append_assoc, List.getD_eq_getElem?_getD, List.getElem?_append_right (by simp; omega), List.getElem?_append_left (by simp; omega)]
  have e : ((3 : Int) + (i : Int)).toNat - (List.replicate 3 ([] : List UInt8)).length = i := by simp; omega
  rw [e, List.getElem?_eq_getElem h2]; rfl
 ·show flashGet (actsDo (flash0 l) _) (3 + (l.length : Int) + n) = _
  rw [q2 _ (by omega) (by omega), flash0_get]
  unfold sec0
  rw [List.getD_eq_getElem?_getD, List.getElem?_append_right (by simp; omega), List.getElem?_replicate]
  split <;> rfl
theorem recR_nil (n : Int) : (recR [] n).2 ≠ 0 := by
 intro h
 have := (recR_of h).2.2.2
 have h2 := congrArg List.length this
 unfold recordB at h2
 rw [sealB_len] at h2
 simp at h2
theorem scanN_recs : ∀ (l : List UStep) (n : Nat) (ts : List (List UInt8)), (∀ x ∈ l, x.ok ∧ stepOk x 8) → n + l.length ≤ 1000000 → (∀ i, (hi : i < l.length) → ts[i]? = some (recordB ((n + i : Nat) : Int) l[i])) →
  (∀ t, ts[l.length]? = some t → (recR t ((n + l.length : Nat) : Int)).2 ≠ 0) → scanN n ts = l
 | [], n, [], _, _, _, _ => rfl
 | [], n, t :: ts, _, _, _, h => by
  have := h t rfl
  unfold scanN
  rw [if_neg (by simpa using this)]
 | x :: l, n, [], _, _, hg, _ => by have := hg 0 (by simp); simp at this
 | x :: l, n, t :: ts, hs, hn, hg, h => by
  have h0 := hg 0 (by simp)
  simp only [List.getElem?_cons_zero, Option.some.injEq, Nat.add_zero, List.getElem_cons_zero] at h0
  obtain ⟨k1, k2⟩ := hs x (List.mem_cons_self ..)
  simp only [List.length_cons] at hn
  have hr := recR_put (n := (n : Int)) (m := (n : Int)) (by omega) k1 k2
  rw [if_pos rfl] at hr
  unfold scanN
  rw [h0, hr, if_pos rfl]
  simp only [List.cons.injEq, true_and]
  refine scanN_recs l (n + 1) ts (fun y hy => hs y (List.mem_cons_of_mem _ hy)) (by omega) (fun i hi => ?_) (fun u hu => ?_)
  ·have := hg (i + 1) (by simpa using hi)
   rw [show n + 1 + i = n + (i + 1) by omega]
   simpa using this
  ·rw [show n + 1 + l.length = n + (l.length + 1) by omega]
   exact h u (by simpa using hu)
theorem log_recs {m : UMach} {s : UState} {l : List UStep} (hl : ∀ x ∈ l, x.ok ∧ stepOk x 8) (hn : l.length ≤ 1000000) (hin : s.stash.toNat + l.length ≤ s.mine.length)
  (hg : ∀ i, (hi : i < l.length) → areaOf m (s.mine.getD (s.stash.toNat + i) 0) = recordB ((i : Nat) : Int) l[i])
  (he : s.stash.toNat + l.length < s.mine.length → (recR (areaOf m (s.mine.getD (s.stash.toNat + l.length) 0)) ((l.length : Nat) : Int)).2 ≠ 0) : logOf m s = l := by
 have hget : ∀ i, i < s.mine.length - s.stash.toNat → (areasOf m (s.mine.drop s.stash.toNat))[i]? = some (areaOf m (s.mine.getD (s.stash.toNat + i) 0)) := fun i hi => by
  unfold areasOf
  rw [List.getElem?_map, List.getElem?_drop, List.getElem?_eq_getElem (by omega), List.getD_eq_getElem?_getD, List.getElem?_eq_getElem (by omega)]
  rfl
 unfold logOf
 refine scanN_recs l 0 _ hl (by omega) (fun i hi => ?_) (fun t ht => ?_)
 ·rw [hget i (by omega), hg i hi, Nat.zero_add]
 ·rw [Nat.zero_add]
  by_cases h : s.stash.toNat + l.length < s.mine.length
  ·rw [hget _ (by omega)] at ht
   simp only [Option.some.injEq] at ht
   rw [← ht]; exact he h
  ·rw [List.getElem?_eq_none (by unfold areasOf; simp; omega)] at ht
   cases ht
end Go.Proofs.YthjbhdmjfakfaaaGreatDoor