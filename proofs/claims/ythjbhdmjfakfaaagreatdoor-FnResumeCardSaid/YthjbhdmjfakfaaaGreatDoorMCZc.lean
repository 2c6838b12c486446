/- A helper of this seat's claims (contracts of the functions): what it shows is shown for every input that its statements name, on no other condition. -/
import Derived.Test.YthjbhdmjfakfaaaGreatDoorCZb
import Derived.Test.YthjbhdmjfakfaaaGreatDoorMC08
import Derived.Test.YthjbhdmjfakfaaaGreatDoorC10s
set_option linter.unusedVariables false
set_option linter.unusedSimpArgs false
set_option maxRecDepth 100000
namespace Go.Proofs.YthjbhdmjfakfaaaGreatDoor
open Go.KH

theorem pad_is (t : List UInt8) : t ++ [128] ++ List.replicate (padZ t.length) 0 ++ bigB (8 * t.length) 8 = shaPad t := by
 rw [bigB_8, shaPad]; simp only [padZ]
def b_impl_digest : C := (jo [q 2 (.mv (.c (str [])))]
 (jo [q 9 (.ld true 8 (.c (ptr 0 0))), ⟨(some 3), none, .alloc [(.int .u32 0), (.int .u32 0), (.int .u32 0), (.int .u32 0), (.int .u32 0), (.int .u32 0), (.int .u32 0), (.int .u32 0)]⟩, js 8 3 9]
 (jo [jm 10 0, q 11 (.slen (.t 10)), jk 12 .rem 11 64, q 13 (.bin .sub (.c (i64 119)) (.t 12)), jk 14 .rem 13 64, jm 4 14]
 (jo [jm 15 0, q 16 (.bin .add (.t 15) (.c (str [128]))), jm 17 4, ⟨(some 18), none, .call (.c (.func (.func 172) #[] #[])) [(.c (str [0])), (.t 17)]⟩, jb 19 .add 16 18, jm 20 0, q 21 (.slen (.t 20)), q 22 (.cv .u64 (.t 21)), q 23 (.bin .mul (.c (.int .u64 8)) (.t 22)), jc 24 173 [(.t 23), (.c (i64 8))], jb 25 .add 19 24, jm 5 25]
 (.seq (.block 0 (.loop (.seq (jo [jm 26 5, q 27 (.bin .neq (.t 26) (.c (str [])))]
 (.cond (.t 27) .skip (.exit 0)))
 (.seq (.block 1 (.ops [jm 30 5, q 31 (.ssl (.t 30) none (some (.c (i64 64)))), jc 32 174 [(.t 3), (.t 31)]]))
 (.ops [jm 28 5, q 29 (.ssl (.t 28) (some (.c (i64 64))) none), jm 5 29])))))
 (jo [q 6 (.mv (.c (str [])))]
 (.seq (jo [jd 33 8 3, q 34 (.mv (.c (i64 0)))]
 (.block 2 (.loop (jo [jk 35 .lss 34 8]
 (.seq (.cond (.t 35) .skip (.exit 2))
 (.seq (.block 3 (jo [q 36 (.ix false 8 1 (.t 33) (.t 34)), jm 8 36]
 (.ops [jm 37 6, jm 38 8, q 39 (.cv .u64 (.t 38)), jc 40 173 [(.t 39), (.c (i64 4))], jb 41 .add 37 40, jm 6 41])))
 (.ops [jk 42 .add 34 1, jm 34 42])))))))
 (jo [jm 43 6, jm 2 43]
 .ret))))))))
theorem w_impl_digest : Wk Tryz.prog 87 44 [.tmp 2] b_impl_digest := Wk.of mixedOrders Tryz.func87 (by kernel_rfl) (by kernel_rfl)

theorem digest_pc0 {h : H} (tb : Tabs h) (t d : List UInt8) (ht : t.length ≤ 8000) (hd : shaL t = d) : PC Tryz.prog 87 [str t] h (str d) := by
 have l0 := tb.start
 have hz : padZ t.length < 64 := by unfold padZ; omega
 have ez : ((119 : Int) - ((t.length % 64 : Nat) : Int)).tmod 64 = ((padZ t.length : Nat) : Int) := by
  rw [show (119 : Int) - ((t.length % 64 : Nat) : Int) = ((119 - t.length % 64 : Nat) : Int) by omega, show (64 : Int) = ((64 : Nat) : Int) from rfl, tmod_nat]; rfl
 have e64 : ((t.length : Nat) : Int).tmod 64 = ((t.length % 64 : Nat) : Int) := tmod_nat _ _
 have h64 : t.length % 64 < 64 := Nat.mod_lt _ (by decide)
 obtain ⟨r64, hr64⟩ : ∃ r, t.length % 64 = r := ⟨_, rfl⟩
 obtain ⟨pz, hpz⟩ : ∃ r, padZ t.length = r := ⟨_, rfl⟩
 rw [hr64] at ez e64 h64
 rw [hpz] at hz ez
 refine PC_of ?_
 refine w_impl_digest (by simp) ?_
 unfold b_impl_digest
 simp -implicitDefEqProofs only [go_sem, l0]
 intro b3 hb3 n3
 have hst : ∀ cs : List Value, cs.length = 8 → stc (h.set b3 ⟨cs, 8⟩) b3 0 (wcl shaStart.list) 8 = some (h.set b3 ⟨wcl shaStart.list, 8⟩) := by
  intro cs hcs
  rw [stc_same, if_pos ⟨rfl, by simp only [hcs]; decide, rfl⟩]
  congr 2
  simp only [splice, List.take_zero, List.nil_append]
  rw [List.drop_eq_nil_of_le (by rw [hcs]; decide), List.append_nil]
 have e3 : Ext h (h.set b3 ⟨wcl shaStart.list, 8⟩) := (Ext.refl _).set n3 _
 have g3 : (h.set b3 ⟨wcl shaStart.list, 8⟩).get b3 = some ⟨wcl (shaBlocks (shaPad t) shaStart 0).list, 8⟩ := H.set_get_same _ _ _
 have hst0 := hst [.int .u32 0, .int .u32 0, .int .u32 0, .int .u32 0, .int .u32 0, .int .u32 0, .int .u32 0, .int .u32 0] rfl
 simp -implicitDefEqProofs only [go_sem, hst0, hb3]
 clear hst0 hst
 have b3' : (h.set b3 ⟨wcl shaStart.list, 8⟩).base ≤ b3 := by rw [H.set_base]; exact hb3
 generalize h.set b3 ⟨wcl shaStart.list, 8⟩ = h1 at *
 have w1 : IntKind.i64.wrap (r64 : Int) = r64 := wrap_i64 (show -(9223372036854775808 : Int) ≤ (r64 : Int) by omega) (show (r64 : Int) < 9223372036854775808 by omega)
 have w2 : IntKind.i64.wrap (119 - (r64 : Int)) = 119 - (r64 : Int) := wrap_i64 (show -(9223372036854775808 : Int) ≤ (119 - (r64 : Int)) by omega) (show (119 - (r64 : Int)) < 9223372036854775808 by omega)
 have w3 : IntKind.i64.wrap (pz : Int) = pz := wrap_i64 (show -(9223372036854775808 : Int) ≤ (pz : Int) by omega) (show (pz : Int) < 9223372036854775808 by omega)
 skip
 simp -implicitDefEqProofs only [go_sem, e64, w1, w2, w3, ez, hb3]
 refine Req.of (by omega) ?_
 have tb1 := tb.ext e3
 have e8 : (8 * (t.length : Int)) = ((8 * t.length : Nat) : Int) := by omega
 simp -implicitDefEqProofs only [go_sem, e64, w1, w2, w3, ez, hb3]
 refine (repeat_pc h1 0 pz (by omega)).use ?_
 simp -implicitDefEqProofs only [go_sem, List.length_replicate, e64, w1, w2, w3, ez, hb3]
 refine Req.of (by rw [List.length_append]; simp only [List.length_cons, List.length_nil]; omega) ?_
 have w4 := wrap_u64 (n := (t.length : Int)) (by omega) (by omega)
 have w5 : IntKind.u64.wrap (8 * (t.length : Int)) = ((8 * t.length : Nat) : Int) := by rw [wrap_u64 (by omega) (by omega)]; omega
 skip
 simp -implicitDefEqProofs only [go_sem, e64, w1, w2, w3, ez, hb3, w4, w5]
 refine (bigBytes_pc h1 (8 * t.length) 8 (by omega) (by decide)).use ?_
 have hpad := pad_is t
 rw [hpz] at hpad
 have hlb : (bigB (8 * t.length) 8).length = 8 := by rw [← bigTo_all, bigTo_len]
 simp -implicitDefEqProofs only [go_sem, hlb, List.length_replicate, e64, w1, w2, w3, ez, hb3, w4, w5]
 refine Req.of (by rw [List.length_append, List.length_append, List.length_replicate]; simp only [List.length_cons, List.length_nil]; omega) ?_
 rw [hpad]
 simp -implicitDefEqProofs only [go_sem, e64, w1, w2, w3, ez, hb3, w4, w5]
 have hL := shaPad_len t
 obtain ⟨L, hLd⟩ : ∃ L, (shaPad t).length / 64 = L := ⟨_, rfl⟩
 rw [hLd] at hL
 generalize hP : shaPad t = P at *
 skip
 refine loopW_of (fun m f h' => ∃ j, m + j = L ∧ f 3 = ptr b3 0 ∧ f 5 = str (P.drop (64 * j)) ∧ Ext h h' ∧ h'.get b3 = some ⟨wcl (shaBlocks P shaStart j).list, 8⟩) L
  ⟨0, by simp, by simp -implicitDefEqProofs only [go_sem, hb3], by simp -implicitDefEqProofs only [go_sem, hb3], e3, g3⟩ ?_
 clear w1 w2 w3 w4 w5
 rintro m f h' ⟨j, hm, f3, f5, e4, g4⟩
 have b4 : h'.base ≤ b3 := by rw [e4.1, ← e3.1]; exact b3'
 by_cases hj : j < L
 ·have hdl : (P.drop (64 * j)).length = P.length - 64 * j := List.length_drop
  have hne : ¬ (P.drop (64 * j) = []) := fun e => by rw [e] at hdl; simp at hdl; omega
  have hl64 : ((P.drop (64 * j)).take 64).length = 64 := by rw [List.length_take, hdl]; omega
  simp -implicitDefEqProofs only [go_sem, f3, f5, hne, hdl, show (64 : Int) ≤ ((P.length - 64 * j : Nat) : Int) by omega, show (0 : Int) ≤ ((P.length - 64 * j : Nat) : Int) by omega, hb3]
  have tb4 := tb.ext e4
  have ac := digestBlock_ac0 (l := (P.drop (64 * j)).take 64) rfl tb4 g4 b4 hl64
  refine AC_of ac ?_
  rintro r h5 - ⟨k5, g5⟩
  have e5 : Ext h h5 := Keep.ext e4 k5 (fun b e => by subst e; exact n3)
  simp -implicitDefEqProofs only [go_sem, f3, f5, hne, hdl, show (64 : Int) ≤ ((P.length - 64 * j : Nat) : Int) by omega, show (0 : Int) ≤ ((P.length - 64 * j : Nat) : Int) by omega, Int.reduceToNat, List.drop_drop, hb3]
  exact ⟨m - 1, by omega, _, Ext.refl _, j + 1, by omega, by rw [List.take_of_length_le (by omega), List.drop_drop, Nat.mul_add], e5, g5⟩
 obtain rfl : j = L := by omega
 have hnil : P.drop (64 * j) = [] := List.drop_eq_nil_of_le (by omega)
 rw [hnil] at f5
 obtain ⟨S, hS⟩ : ∃ S, shaBlocks P shaStart j = S := ⟨_, rfl⟩
 have hdd : outB S 8 = d := by rw [← hd]; unfold shaL outB; rw [hP, hLd, hS]; rfl
 rw [hS] at g4
 have l8 : ldc h' b3 0 8 = some (wcl S.list) := by
  rw [ldc_get g4, if_pos (by rw [wcl_len]; exact Nat.le_refl 8)]; rfl
 simp -implicitDefEqProofs only [go_sem, f3, f5, l8, hb3]
 clear l8 hd hS
 refine loopW_of (fun m f h2 => ∃ k, m + k = 8 ∧ h2 = h' ∧ f 33 = .agg (wcl S.list).toArray ∧ f 34 = i64 k ∧ f 6 = str (outB S k)) 8
  ⟨0, by simp, rfl, by simp -implicitDefEqProofs only [go_sem, hb3], by simp -implicitDefEqProofs only [go_sem, hb3]; rfl, by simp -implicitDefEqProofs only [go_sem, hb3]; rfl⟩ ?_
 clear f3 f5 hm m f
 rintro m f h2 ⟨k, hm, rfl, f33, f34, f6⟩
 by_cases hk : k < 8
 ·obtain ⟨x, hx⟩ : ∃ x, S.list[k]? = some x := ⟨_, List.getElem?_eq_getElem (by show k < 8; exact hk)⟩
  have hv : (wcl S.list)[k]? = some (w32 x) := by rw [wcl, List.getElem?_map, hx]; rfl
  have hlo := outB_len S k (by omega)
  have hx32 := x.isLt
  have wx : IntKind.u64.wrap (x.toNat : Int) = x.toNat := wrap_u64 (by omega) (by omega)
  simp -implicitDefEqProofs only [go_sem, f33, f34, f6, show (k : Int) < 8 by omega, Int.natCast_nonneg, Int.toNat_natCast, Nat.mul_one, show (k : Int) < ((8 : Nat) : Int) by omega, hv, wx, hb3]
  refine (bigBytes_pc h2 x.toNat 4 (by omega) (by decide)).use ?_
  rw [bigB_4]
  have hb4 : (beB x).length = 4 := rfl
  simp -implicitDefEqProofs only [go_sem, f34, f6, hlo, hb4, wrap_i64 (show -(9223372036854775808 : Int) ≤ ((k : Int) + 1) by omega) (show ((k : Int) + 1) < 9223372036854775808 by omega), hb3]
  refine Req.of (by omega) ?_
  simp -implicitDefEqProofs only [go_sem, f33, f34, wrap_i64 (show -(9223372036854775808 : Int) ≤ ((k : Int) + 1) by omega) (show ((k : Int) + 1) < 9223372036854775808 by omega), hb3]
  exact ⟨m - 1, by omega, _, Ext.refl _, k + 1, by omega, rfl, rfl, by rw [outB_succ hx]⟩
 obtain rfl : k = 8 := by omega
 rw [hdd] at f6
 simp -implicitDefEqProofs only [go_sem, f33, f34, f6, show ¬ (((8 : Nat) : Int) < 8) by omega, hb3]
 exact e4
theorem digest_pc {h : H} (tb : Tabs h) (t : List UInt8) (ht : t.length ≤ 8000) : PC Tryz.prog 87 [str t] h (str (shaL t)) := digest_pc0 tb t _ ht rfl
end Go.Proofs.YthjbhdmjfakfaaaGreatDoor
namespace Go.Proofs.YthjbhdmjfakfaaaGreatDoor
open Go.KH

theorem flat_len8 : ∀ {l : List (List UInt8)}, (∀ s ∈ l, s.length = 8) → l.flatten.length = 8 * l.length
 | [], _ => rfl
 | s :: l, h => by
  rw [List.flatten_cons, List.length_append, flat_len8 fun x hx => h x (List.mem_cons_of_mem _ hx), h s (List.mem_cons_self ..), List.length_cons]; omega
theorem img_len {l : List (List UInt8)} (h : imageOk l) : l.flatten.length ≤ 64 := by
 rw [flat_len8 h.2]; have := h.1; omega
theorem at8_len {im : List (List UInt8)} (hi : imageOk im) {i : Int} (h : 0 ≤ i ∧ i < im.length) : (at8 im i).length = 8 := by
 unfold at8
 rw [List.getElem?_eq_getElem (by omega)]
 exact hi.2 _ (List.getElem_mem _)
theorem makeB_8 {im : List (List UInt8)} (hi : imageOk im) {s : UStep} (h5 : s.kind ≠ 5) (ho : stepOk s im.length) : (makeB s (at8 im s.src)).length = 8 := by
 obtain ⟨o1, o2, o3, o4⟩ := ho
 rw [if_neg h5] at o3
 have h1 := hi.1
 have hs : 0 ≤ s.src ∧ s.src < im.length := by split at o3 <;> omega
 have hl := at8_len hi hs
 unfold makeB
 split
 ·rfl
 ·split
  ·rw [if_pos (by omega)] at o4; exact o4
  ·split
   ·exact hl
   ·rw [if_pos (by omega)] at o4
    rw [xorB_len (by omega)]; exact hl
theorem applyB_ok {im : List (List UInt8)} {l : List UStep} (hi : imageOk im) (hs : ∀ s ∈ l, stepOk s im.length) : imageOk (applyB im l) := by
 refine ⟨by rw [applyB_len]; exact hi.1, ?_⟩
 unfold applyB
 have key : ∀ (w : List UStep) (out : List (List UInt8)), (∀ s ∈ w, isW s = true ∧ stepOk s im.length) → (∀ x ∈ out, x.length = 8) → ∀ x ∈ w.foldl (putB im) out, x.length = 8 := by
  intro w
  induction w with
  | nil => intro out _ h; exact h
  | cons s w ih =>
   intro out hw ho
   rw [List.foldl_cons]
   refine ih _ (fun x hx => hw x (List.mem_cons_of_mem _ hx)) fun x hx => ?_
   unfold putB at hx
   rcases List.mem_or_eq_of_mem_set hx with hx | rfl
   ·exact ho x hx
   ·obtain ⟨q1, q2⟩ := hw s (List.mem_cons_self ..)
    exact makeB_8 hi (by simpa [isW] using q1) q2
 exact key _ _ (fun s hs' => ⟨(List.mem_filter.1 hs').2, hs s (List.mem_filter.1 hs').1⟩) hi.2
def b_impl_imageDigest : C := (jo [q 2 (.mv (.c (str [])))]
 (jo [jm 3 0, ⟨(some 4), none, .call (.c (.func (.func 88) #[] #[])) [(.t 3), (.c (str []))]⟩, jc 5 87 [(.t 4)], jm 2 5]
 .ret))
theorem w_impl_imageDigest : Wk Tryz.prog 36 6 [.tmp 2] b_impl_imageDigest := Wk.of mixedOrders Tryz.func36 (by kernel_rfl) (by kernel_rfl)

theorem imageDigest_pc {h : H} (tb : Tabs h) {v : Value} {l : List (List UInt8)} (hv : Sl h v 1 (strs l)) (hi : imageOk l) : PC Tryz.prog 36 [v] h (str (shaL l.flatten)) := by
 have := img_len hi
 have := hi.1
 refine PC_of ?_
 refine w_impl_imageDigest (by simp) ?_
 unfold b_impl_imageDigest
 simp -implicitDefEqProofs only [go_sem]
 refine (join_pc hv (by omega) (by omega)).use ?_
 simp -implicitDefEqProofs only [go_sem]
 refine (digest_pc tb l.flatten (by omega)).use ?_
 simp -implicitDefEqProofs only [go_sem]
 exact Ext.refl _
def b_spec_l07Join : C := (jo [q 2 (.mv (.c (str [])))]
 (jo [q 3 (.mv (.c (str [])))]
 (.seq (jo [q 4 (.mv (.c (i64 0)))]
 (.block 0 (.loop (.seq (jo [jm 5 4, jm 6 0, q 7 (.len (.t 6)), jb 8 .lss 5 7]
 (.cond (.t 8) .skip (.exit 0)))
 (.seq (.block 1 (.ops [jm 11 3, jm 12 0, jm 13 4, q 14 (.idx 1 (.t 12) (.t 13)), jl 15 14, jb 16 .add 11 15, jm 3 16]))
 (.ops [jm 9 4, jk 10 .add 9 1, jm 4 10]))))))
 (jo [jm 17 3, jm 2 17]
 .ret))))
theorem w_spec_l07Join : Wk Tryz.prog 112 18 [.tmp 2] b_spec_l07Join := Wk.of mixedOrders Tryz.func112 (by kernel_rfl) (by kernel_rfl)

theorem l07Join_pc {h : H} {v : Value} {l : List (List UInt8)} (hv : Sl h v 1 (strs l)) (hi : imageOk l) : PC Tryz.prog 112 [v] h (str l.flatten) := by
 have hb := img_len hi
 have h8 := hi.1
 obtain ⟨a, c, b, o, rfl, hcap, h2, h3⟩ := hv
 have hl : (strs l).length = l.length := by simp
 rw [hl] at h2
 skip
 refine PC_of ?_
 refine w_spec_l07Join (by simp) ?_
 unfold b_spec_l07Join
 simp -implicitDefEqProofs only [go_sem, hl]
 refine loopW_of (fun m f h' => ∃ k, m + k = l.length ∧ h' = h ∧ f 0 = .slice a l.length c ∧ f 3 = str (l.take k).flatten ∧ f 4 = i64 k) l.length
  ⟨0, by simp, rfl, by simp -implicitDefEqProofs only [go_sem, hl], by simp -implicitDefEqProofs only [go_sem, hl]; rfl, by simp -implicitDefEqProofs only [go_sem, hl]; rfl⟩ ?_
 rintro m f h' ⟨k, hm, rfl, f0, f3, f4⟩
 by_cases hk : k < l.length
 ·have dk := h3 k [str l[k]] (by simp [hk])
  rw [Nat.mul_one] at dk
  have e := l.take_append_drop (k + 1)
  have hle : (l.take (k + 1)).flatten.length ≤ 64 := by
   have : (l.take (k + 1)).flatten.length + (l.drop (k + 1)).flatten.length = l.flatten.length := by rw [← List.length_append, ← List.flatten_append, e]
   omega
  have hts : (l.take (k + 1)).flatten = (l.take k).flatten ++ l[k] := by rw [List.take_add_one, List.getElem?_eq_getElem hk, List.flatten_append]; simp
  rw [hts, List.length_append] at hle
  simp -implicitDefEqProofs only [go_sem, f0, f3, f4, show (k : Int) < (l.length : Int) by omega, Int.natCast_nonneg, Int.toNat_natCast, h2, Nat.mul_one, dk, hl]
  refine Req.of (by omega) ?_
  simp -implicitDefEqProofs only [go_sem, f0, f4, wrap_i64 (show -(9223372036854775808 : Int) ≤ ((k : Int) + 1) by omega) (show ((k : Int) + 1) < 9223372036854775808 by omega), hl]
  exact ⟨m - 1, by omega, _, Ext.refl _, k + 1, by omega, rfl, by rw [hts], rfl⟩
 obtain rfl : k = l.length := by omega
 rw [List.take_length] at f3
 simp -implicitDefEqProofs only [go_sem, f0, f3, f4, show ¬ ((l.length : Int) < (l.length : Int)) by omega, hl]
 exact Ext.refl _
def b_spec_ImageDigest : C := (jo [q 2 (.mv (.c (str [])))]
 (.seq (jo [jm 3 0, jc 4 52 [(.t 3)], q 5 (.un .not (.t 4))]
 (.cond (.t 5) (jo [q 2 (.mv (.c (str [])))]
 .ret) .skip))
 (jo [jm 6 0, jc 7 112 [(.t 6)], jc 8 101 [(.t 7)], jm 2 8]
 .ret)))
theorem w_spec_ImageDigest : Wk Tryz.prog 54 9 [.tmp 2] b_spec_ImageDigest := Wk.of mixedOrders Tryz.func54 (by kernel_rfl) (by kernel_rfl)

theorem specImageDigest_pc {h : H} {v : Value} {l : List (List UInt8)} (hv : Sl h v 1 (strs l)) (hi : imageOk l) : PC Tryz.prog 54 [v] h (str (shaL l.flatten)) := by
 have hb := img_len hi
 have hd : digestOf l.flatten = shaL l.flatten := by unfold digestOf; rw [if_neg (by omega)]
 have h1 := hi.1
 refine PC_of ?_
 refine w_spec_ImageDigest (by simp) ?_
 unfold b_spec_ImageDigest
 simp -implicitDefEqProofs only [go_sem]
 refine (specImageRight_pc hv (by omega)).use ?_
 simp -implicitDefEqProofs only [go_sem, decide_eq_true hi]
 refine (l07Join_pc hv hi).use ?_
 simp -implicitDefEqProofs only [go_sem]
 refine (specDigest_pc _ _ (by omega)).use ?_
 simp -implicitDefEqProofs only [go_sem, hd]
 exact Ext.refl _
end Go.Proofs.YthjbhdmjfakfaaaGreatDoor