/- A helper of this seat's claims (contracts of the functions): what it shows is shown for every input that its statements name, on no other condition. -/
import Derived.Test.YthjbhdmjfakfaaaGreatDoorC14w
import Derived.Test.YthjbhdmjfakfaaaGreatDoorMC14m
import Derived.Test.YthjbhdmjfakfaaaGreatDoorKD
import Derived.Test.YthjbhdmjfakfaaaGreatDoorMC12r
import Derived.Test.YthjbhdmjfakfaaaGreatDoorMC04k
import Derived.Test.YthjbhdmjfakfaaaGreatDoorMC06
import Derived.Test.YthjbhdmjfakfaaaGreatDoorMC08
set_option linter.unusedVariables false
set_option linter.unusedSimpArgs false
set_option maxRecDepth 100000
namespace Go.Proofs.YthjbhdmjfakfaaaGreatDoor
open Go.KH

noncomputable def viewMOut (m : UMach) : List (List UInt8) × Int := match stM m with | some s => (if rightOut m = true then (viewM m s, 0) else ([], 1)) | none => ([], 1)
def b_impl_ViewOf : C := (jo [⟨(some 1), none, .box (.t 0)⟩, ⟨(some 2), none, .alloc [nils, (i64 0)]⟩]
 (.seq (jo [jd 3 3 1, jc 4 71 [(.t 3)], q 5 (.un .not (.t 4))]
 (.cond (.t 5) (jo [q 6 (.build [nils, (i64 0)] [(1, 1, (.c (i64 1)))]), js 2 2 6]
 .ret) .skip))
 (jo [jd 7 3 1, jc 8 75 [(.t 7)], q 9 (.build [nils, (i64 0)] [(0, 1, (.t 8))]), js 2 2 9]
 .ret)))
theorem w_impl_ViewOf : Wk Tryz.prog 27 10 [.cell 2 true 2] b_impl_ViewOf := Wk.of mixedOrders Tryz.func27 (by kernel_rfl) (by kernel_rfl)

theorem implViewOf_ac {h : H} {cs : List Value} {m : UMach} (hv : RepR h (spMach m) cs) (hs : m.flash.fin1) : AC Tryz.prog 27 [.agg cs.toArray] h fun r h' => Ext h h' ∧ ∃ cs', r = .agg cs'.toArray ∧ RepF h h' (spImg (viewMOut m)) cs' := by
 have l1 := hv.len
 simp only [List.length_cons, List.length_nil, Nat.reduceAdd] at l1
 have t1 := take_len l1
 have o1 := hv.one
 have bad : rightOut m = false → viewMOut m = ([], 1) := fun h => by
  unfold viewMOut
  split
  ·rw [if_neg (by rw [h]; simp)]
  ·rfl
 skip
 refine w_impl_ViewOf (by simp) ?_
 unfold b_impl_ViewOf
 simp -implicitDefEqProofs only [go_sem, l1, t1, o1]
 intro b1 hb_b1 n_b1
 simp -implicitDefEqProofs only [go_sem, l1, t1, o1, hb_b1]
 intro b2 hb_b2 m0_b2
 obtain ⟨z_b2_b1, y_b2_b1, n_b2⟩ := fne m0_b2
 simp only [H.set_base] at hb_b2
 simp -implicitDefEqProofs only [go_sem, l1, t1, o1, hb_b1, hb_b2, z_b2_b1, y_b2_b1]
 refine (isMachine_pc (hv.ext (((Ext.refl _).set' n_b1 _).set' n_b2 _)) hs).use ?_
 cases hR : rightOut m with
 | false =>
  rw [bad hR]
  simp -implicitDefEqProofs only [go_sem, l1, t1, o1, hb_b1, hb_b2, z_b2_b1, y_b2_b1]
  exact ⟨(((Ext.refl _).set' n_b1 _).set' n_b2 _), _, rfl, img_none⟩
 | true =>
  obtain ⟨s, hst, hf, hok, hi, hsd⟩ := right_of hR
  have e : viewMOut m = (viewM m s, 0) := by unfold viewMOut; rw [hst]; simp only; rw [if_pos hR]
  rw [e]
  simp -implicitDefEqProofs only [go_sem, l1, t1, o1, hb_b1, hb_b2, z_b2_b1, y_b2_b1]
  refine AC_of (view_ac (hv.ext (((Ext.refl _).set' n_b1 _).set' n_b2 _)) hs hst hi hsd) ?_
  rintro v3 h3 - ⟨e3, ow⟩
  have g2 := e3.2.g b2 _ (by simp -implicitDefEqProofs only [go_sem, l1, t1, o1, hb_b1, hb_b2, z_b2_b1, y_b2_b1]; rfl)
  have hbb := e3.1
  simp only [H.set_base] at hbb
  simp -implicitDefEqProofs only [go_sem, ow.sl.vcl, ow.sl.one, stc_get g2, hbb, l1, t1, o1, hb_b1, hb_b2, z_b2_b1, y_b2_b1]
  exact ⟨(((((Ext.refl _).set' n_b1 _).set' n_b2 _)).trans e3).set' n_b2 _, _, rfl, img_f.2 ⟨v3, rfl, (ow.set (b := b2) (H.set_get_same _ _ _) _).back (((Ext.refl _).set' n_b1 _).set' n_b2 _)⟩⟩
end Go.Proofs.YthjbhdmjfakfaaaGreatDoor
namespace Go.KH

theorem decN_put : ∀ (d v i u : Nat) (r : List UInt8), v < d → i ≤ 9 → (i = 0 ∨ v ≠ 0) → v * 2 ^ (7 * i) < 18446744073709551616 → decN i u (leb v ++ r) = (0, u + v * 2 ^ (7 * i), i + (leb v).length)
 | 0, v, i, u, r, hd, _, _, _ => by omega
 | d + 1, v, i, u, r, hd, hi, h0, hv => by
  by_cases h : v < 128
  ·rw [leb_lt h]
   have hb : (UInt8.ofNat v).toNat = v := by simp; omega
   simp only [List.cons_append, List.nil_append, decN, hb]
   rw [if_neg, if_pos h, if_neg]
   ·simp
   ·rintro ⟨e1, e2⟩; omega
   ·rintro ⟨e1, e2⟩
    subst e1
    have h63 : (2 : Nat) ^ (7 * 9) = 9223372036854775808 := by decide
    rw [h63] at hv
    omega
  ·rw [leb_ge h]
   have hb : (UInt8.ofNat (v % 128 + 128)).toNat = v % 128 + 128 := by simp; omega
   have hi8 : i ≤ 8 := by
    rcases Nat.lt_or_ge 8 i with h9 | h9
    ·have : i = 9 := by omega
     subst this
     have h63 : (2 : Nat) ^ (7 * 9) = 9223372036854775808 := by decide
     rw [h63] at hv
     omega
    ·exact h9
   have hp : (2 : Nat) ^ (7 * (i + 1)) = 128 * 2 ^ (7 * i) := by rw [show 7 * (i + 1) = 7 * i + 7 by omega, Nat.pow_add]; omega
   simp only [List.cons_append, decN, hb]
   rw [if_neg (by rintro ⟨e1, _⟩; omega), if_neg (by omega)]
   have hmul : v / 128 * 2 ^ (7 * (i + 1)) ≤ v * 2 ^ (7 * i) := by
    rw [hp, ← Nat.mul_assoc]
    exact Nat.mul_le_mul_right _ (by omega)
   rw [decN_put d (v / 128) (i + 1) _ r (by omega) (by omega) (by omega) (by omega)]
   simp only [Prod.mk.injEq, true_and]
   constructor
   ·rw [hp, show (v % 128 + 128) % 128 = v % 128 by omega, Nat.add_assoc, ← Nat.mul_assoc, ← Nat.add_mul]
    congr 2
    omega
   ·simp only [List.length_cons]; omega
theorem zag_zig {n : Int} : zag (zig n) = n := by unfold zag zig; split <;> split <;> omega
theorem getN_put {t r : List UInt8} {a : Nat} {n : Int} (h : t.drop a = putNum n ++ r) (hn : -9223372036854775808 ≤ n ∧ n ≤ 9223372036854775807) : getN t a = (n, a + (putNum n).length, 0) := by
 have hd := decN_put (zig n + 1) (zig n) 0 0 r (by omega) (by omega) (.inl rfl) (by have := zig_lt hn; simpa using this)
 unfold getN
 rw [h]
 unfold putNum
 rw [hd]
 simp only [Nat.mul_zero, Nat.pow_zero, Nat.mul_one, Nat.zero_add]
 rw [zag_zig]
theorem drop_put {t p r : List UInt8} {a : Nat} (h : t.drop a = p ++ r) : t.drop (a + p.length) = r := by
 rw [← List.drop_drop, h, List.drop_left]
theorem getT_put {t x r : List UInt8} {a : Nat} (h : t.drop a = putText x ++ r) (hx : x.length ≤ 8000) (ha : a ≤ t.length) : getT t a = (x, a + (putText x).length, 0) := by
 have h1 : t.drop a = putNum x.length ++ (x ++ r) := by rw [h]; unfold putText; simp
 have hg := getN_put h1 ⟨by omega, by omega⟩
 have h2 := drop_put h1
 have hl := congrArg List.length h1
 simp only [List.length_append, List.length_drop] at hl
 unfold getT
 rw [hg]
 simp only
 rw [if_neg (by simp), if_neg (by omega), if_neg (by omega)]
 simp only [Prod.mk.injEq, and_true]
 constructor
 ·rw [List.drop_take, Nat.add_sub_cancel_left, h2]
  simp
 ·unfold putText; simp only [List.length_append]; omega
end Go.KH
namespace Go.Proofs.YthjbhdmjfakfaaaGreatDoor
open Go.KH

theorem sorted_ext : ∀ (a b : List Int), a.Pairwise (· < ·) → b.Pairwise (· < ·) → (∀ x, x ∈ a ↔ x ∈ b) → a = b
 | [], [], _, _, _ => rfl
 | [], y :: b, _, _, h => absurd ((h y).2 (List.mem_cons_self ..)) (by simp)
 | x :: a, [], _, _, h => absurd ((h x).1 (List.mem_cons_self ..)) (by simp)
 | x :: a, y :: b, ha, hb, h => by
  rw [List.pairwise_cons] at ha hb
  have e : x = y := by
   rcases List.mem_cons.1 ((h x).1 (List.mem_cons_self ..)) with e | e
   ·exact e
   ·rcases List.mem_cons.1 ((h y).2 (List.mem_cons_self ..)) with e' | e'
    ·exact e'.symm
    ·have := ha.1 y e'; have := hb.1 x e; omega
  subst e
  rw [sorted_ext a b ha.2 hb.2 fun z => ⟨fun hz => ?_, fun hz => ?_⟩]
  ·rcases List.mem_cons.1 ((h z).1 (List.mem_cons_of_mem _ hz)) with e | e
   ·subst e; have := ha.1 z hz; omega
   ·exact e
  ·rcases List.mem_cons.1 ((h z).2 (List.mem_cons_of_mem _ hz)) with e | e
   ·subst e; have := hb.1 z hz; omega
   ·exact e
theorem listOk_lt {l : List Int} (h : listOk l) : ∀ (j i : Nat) (hj : j < l.length), (hi : i < j) → l[i]'(by omega) < l[j]
 | 0, i, hj, hi => by omega
 | j + 1, i, hj, hi => by
  have h1 := (h (j + 1) hj).2 (by omega)
  simp only [Nat.add_sub_cancel] at h1
  by_cases e : i = j
  ·subst e; exact h1
  ·have := listOk_lt h j i (by omega) (by omega)
   omega
theorem listOk_sorted {l : List Int} (h : listOk l) : l.Pairwise (· < ·) := List.pairwise_iff_getElem.2 fun i j hi hj hij => listOk_lt h j i hj hij
theorem from_bits {l : List Int} (h : listOk l) : fromBits (bitsN l) = l := by
 refine sorted_ext _ _ (bitsTo_sorted _ _) (listOk_sorted h) fun x => ?_
 unfold fromBits
 rw [bitsTo_mem]
 constructor
 ·rintro ⟨i, rfl, hi, ht⟩
  rw [bitsN_test (fun x hx => (listOk_mem h x hx).1)] at ht
  exact of_decide_eq_true ht
 ·intro hx
  have := listOk_mem h x hx
  refine ⟨x.toNat, by omega, by omega, ?_⟩
  rw [bitsN_test (fun x hx => (listOk_mem h x hx).1)]
  exact decide_eq_true (by rw [Int.toNat_of_nonneg this.1]; exact hx)
theorem fromI_back {l : List Int} (h : listOk l) : fromI (bitsN l : Int) = l := by
 have := bits24 h
 unfold fromI
 rw [if_pos (by omega)]
 exact from_bits h
theorem stI_put {s : UState} (h : stateOk s) : stI (stateB s) = some s := by
 obtain ⟨i1, i2, i3, i4, i5, i6, i7⟩ := stateOk_in h
 have hd := stateOk_digest h
 have b6 := bits24 h.2.1
 have b7 := bits24 h.2.2.1
 obtain ⟨t, ht⟩ : ∃ t, stateB s = t := ⟨_, rfl⟩
 have e0 : t.drop 0 = putNum s.phase ++ (putNum s.tries ++ (putNum s.need ++ (putNum s.stash ++ (putNum s.done ++ (putNum (bitsN s.held) ++ (putNum (bitsN s.mine) ++ (putText s.digest ++ []))))))) := by
  rw [← ht]; simp [stateB]
 rw [ht]
 have g1 := getN_put e0 i1
 have e1 := drop_put e0
 have g2 := getN_put e1 i2
 have e2 := drop_put e1
 have g3 := getN_put e2 i3
 have e3 := drop_put e2
 have g4 := getN_put e3 i4
 have e4 := drop_put e3
 have g5 := getN_put e4 i5
 have e5 := drop_put e4
 have g6 := getN_put e5 i6
 have e6 := drop_put e5
 have g7 := getN_put e6 i7
 have e7 := drop_put e6
 have hl : t.length = 0 + (putNum s.phase).length + (putNum s.tries).length + (putNum s.need).length + (putNum s.stash).length + (putNum s.done).length + (putNum (bitsN s.held)).length + (putNum (bitsN s.mine)).length + (putText s.digest).length := by
  rw [← ht]; simp only [stateB, List.length_append]; omega
 have g8 := getT_put e7 (by omega) (by omega)
 have r : RdS t s.phase s.tries s.need s.stash s.done (bitsN s.held) (bitsN s.mine) s.digest _ := ⟨_, _, _, _, _, _, _, g1, g2, g3, g4, g5, g6, g7, g8⟩
 rw [r.st, fromI_back h.2.1, fromI_back h.2.2.1, if_pos ⟨by omega, ⟨by omega, by omega⟩, ⟨by omega, by omega⟩, h⟩]
end Go.Proofs.YthjbhdmjfakfaaaGreatDoor
namespace Go.Proofs.YthjbhdmjfakfaaaGreatDoor
open Go.KH

theorem reads_put {t r : List UInt8} {a : Nat} {x : UStep} (h : t.drop a = stepB x ++ r) (hx : x.ok) (hd : x.data.length ≤ 8000) (ha : a ≤ t.length) : Reads t a x (a + (stepB x).length) := by
 unfold stepB at h
 rw [List.append_assoc, List.append_assoc, List.append_assoc] at h
 have g1 := getN_put h hx.1
 have h2 := drop_put h
 have g2 := getN_put h2 hx.2.1
 have h3 := drop_put h2
 have g3 := getN_put h3 hx.2.2.1
 have h4 := drop_put h3
 have hl := congrArg List.length h
 simp only [List.length_append, List.length_drop] at hl
 have g4 := getT_put h4 hd (by omega)
 refine ⟨_, _, _, g1, g2, g3, ?_⟩
 rw [g4]
 unfold stepB
 simp only [List.length_append, Prod.mk.injEq, true_and, and_true]
 omega
theorem stepR_put {x : UStep} (hx : x.ok) (hd : x.data.length ≤ 8000) (hk : stepOk x 8) : stepR (stepB x) = some x := by
 have r := reads_put (t := stepB x) (r := []) (a := 0) (by simp) hx hd (Nat.zero_le _)
 rw [stepR_of r, if_pos ⟨by omega, hk⟩]
end Go.Proofs.YthjbhdmjfakfaaaGreatDoor
namespace Go.Proofs.YthjbhdmjfakfaaaGreatDoor
open Go.KH

theorem putText_inj {a b r r' : List UInt8} (h : putText a ++ r = putText b ++ r') : a = b ∧ r = r' := by
 unfold putText at h
 rw [List.append_assoc, List.append_assoc] at h
 obtain ⟨h1, h2⟩ := putNum_inj h
 exact List.append_inj h2 (by omega)
theorem stepB_inj {s s' : UStep} {r r' : List UInt8} (h : stepB s ++ r = stepB s' ++ r') : s = s' ∧ r = r' := by
 unfold stepB at h
 simp only [List.append_assoc] at h
 obtain ⟨h1, h⟩ := putNum_inj h
 obtain ⟨h2, h⟩ := putNum_inj h
 obtain ⟨h3, h⟩ := putNum_inj h
 obtain ⟨h4, h5⟩ := putText_inj h
 obtain ⟨k, d, c, x⟩ := s
 obtain ⟨k', d', c', x'⟩ := s'
 simp only at h1 h2 h3 h4
 subst h1 h2 h3 h4
 exact ⟨rfl, h5⟩
theorem unsealB_put (x : List UInt8) : unsealB (sealB x) = (x, 0) := by
 have hl := sealB_len x
 have ht : (sealB x).take ((sealB x).length - 4) = x := by
  rw [hl]; unfold sealB
  rw [List.take_append_of_le_length (by omega), List.take_of_length_le (by omega)]
 unfold unsealB
 rw [if_neg (by omega), ht, if_pos rfl]
theorem recR_of {t : List UInt8} {n : Int} (h : (recR t n).2 = 0) : (0 ≤ n ∧ n ≤ 1000000) ∧ stepOk (recR t n).1 8 ∧ (recR t n).1.ok ∧ recordB n (recR t n).1 = t := by
 have h0 := h
 unfold recR at h
 split at h
 ·rename_i hc; simp only at h; exact absurd h (by omega)
 rename_i hc
 obtain ⟨i, c, hu⟩ : ∃ i c, unsealB t = (i, c) := ⟨_, _, rfl⟩
 rw [hu] at hc h
 have hc0 : c = 0 := by simpa using hc
 subst hc0
 have he : recR t n = recI i n := by unfold recR; rw [hu, if_neg (by simp)]
 simp only at h
 by_cases hg : (getN i 0).2.2 = 0
 ·have g1 := getN_eta hg
  cases hr : stepR (i.drop (getN i 0).2.1) with
  | none => rw [recI_none g1 hr] at h; simp at h
  | some s =>
   obtain ⟨r1, r2, r3⟩ := rec_read hu g1 hr
   by_cases hk : 0 ≤ (getN i 0).1 ∧ (getN i 0).1 ≤ 1000000
   ·by_cases hn : (getN i 0).1 = n
    ·rw [hn] at g1 hk r2
     have e1 : recR t n = (s, 0) := by rw [he, recI_this g1 hr hk]
     have e := r2 hk
     rw [e1]
     unfold recordBytes at e
     split at e
     ·rename_i hs
      exact ⟨hk, hs.2, r1, e⟩
     ·have h4 := (unsealB_ok hu).2
      rw [← e] at h4; simp at h4
    ·rw [recI_other g1 hr hk hn] at h; simp at h
   ·rw [recI_out g1 hr hk] at h; simp at h
 ·unfold recI at h
  rw [if_neg hg] at h
  simp at h
theorem recR_put {n m : Int} {s : UStep} (hn : 0 ≤ n ∧ n ≤ 1000000) (hs : s.ok) (hk : stepOk s 8) : recR (recordB n s) m = if n = m then (s, 0) else (step0, 6) := by
 have hd := stepOk_data hk
 have hu : unsealB (recordB n s) = (putNum n ++ stepB s, 0) := unsealB_put _
 have hg : getN (putNum n ++ stepB s) 0 = (n, (putNum n).length, 0) := by
  have := getN_put (t := putNum n ++ stepB s) (a := 0) (r := stepB s) (n := n) rfl (by omega)
  rwa [Nat.zero_add] at this
 have hr : stepR ((putNum n ++ stepB s).drop (putNum n).length) = some s := by rw [List.drop_left]; exact stepR_put hs (by omega) hk
 have he : recR (recordB n s) m = recI (putNum n ++ stepB s) m := by unfold recR; rw [hu, if_neg (by simp)]
 rw [he]
 by_cases h : n = m
 ·subst h; rw [if_pos rfl]; exact recI_this hg hr hn
 ·rw [if_neg h]; exact recI_other hg hr hn h
theorem recR_cut {n : Int} {s : UStep} {k : Nat} (hk : k < (recordB n s).length) : (recR ((recordB n s).take k) n).2 ≠ 0 := by
 intro h
 obtain ⟨_, _, _, e⟩ := recR_of h
 generalize (recR ((recordB n s).take k) n).1 = s' at e
 have h1 : recordB n s' ++ (recordB n s).drop k = recordB n s := by rw [e, List.take_append_drop]
 have h2 : recordB n s' ++ (recordB n s).drop k = recordB n s := h1
 unfold recordB sealB at h1
 simp only [List.append_assoc] at h1
 have h1 := List.append_cancel_left h1
 obtain ⟨rfl, h3⟩ := stepB_inj h1
 have h4 := congrArg List.length h2
 rw [List.length_append, List.length_drop] at h4
 omega
end Go.Proofs.YthjbhdmjfakfaaaGreatDoor